/- Texts of this claim, gathered: DrawF, HelpFault, Vs, Vi, DrawU2, Sb, LwLTold. -/
import Derived.Test.YtfbnmkpkihfocaaK7
import Derived.Deep.RegionHeld3
namespace Go.Proofs.Ytfbnmkpkihfocaa
open Go.RowKit
set_option linter.unusedVariables false
set_option linter.unusedSimpArgs false
set_option maxRecDepth 100000
theorem Bk.ne_own {w : World} {g t : Nat} {cs : Array Value} {lo size n : Nat} {e : TypeId} {v : Value} {xs : List Value} (h : Bk w g t cs) (ho : w.ownsRow lo e size v n xs) (hne : t ≠ e) : v.ownBlock ≠ some g := by
  rcases ho.2 with ⟨rfl, _⟩ | ⟨k, cap, cur, rfl, _, hg, _⟩
  · simp [Value.ownBlock]
  · intro e2
    simp only [Value.ownBlock, Option.some.injEq] at e2
    subst e2
    unfold Bk at h
    rw [hg] at h
    simp only [Option.some.injEq, Obj.cells.injEq] at h
    exact hne h.2.1.symm
theorem cell_two {W : World} {b g o : Nat} {v : Value} (h : g ≠ b) (X Y : Value) (hv : W.cell? ⟨g, o, none⟩ = some v) : ((W.setCell ⟨b, 0, none⟩ X).setCell ⟨b, 1, none⟩ Y).cell? ⟨g, o, none⟩ = some v := by
  rw [World.cell?_setCell_other _ _ _ _ (by simp [h]), World.cell?_setCell_other _ _ _ _ (by simp [h])]; exact hv
/-- what a cell shows, whatever the fault -/
theorem l3ShownAny_c (d l c : Int) (w : World) : Calls Try.prog 54 #[.agg #[.int .i64 d, .int .i64 l], .int .i64 c] w fun e w' => ∃ x : Int, e = .returned (.int .i64 x) ∧ Below w.heap.size w w' := by
  go_enter Try.func54, Try.ntmps54
  go_wp2
  go_ret
  exact ⟨_, rfl, below_one _⟩
theorem DrawIsFault_c (v : Value) (xs : List Nat) (w : World) (h : Code w v xs) :
    Calls Try.prog 44 #[v] w fun e w' => ∃ d l : Int, e = .returned (.agg #[.int .i64 d, .int .i64 l]) ∧ Below w.heap.size w w' := by
  have HK := Lib.hid (cur_new (h.below (below_one (.cells #[.int .i64 0, .int .i64 0] 25))))
  have B0 := Lib.hid ((Bk.new w 25 #[.int .i64 0, .int .i64 0]).alloc (.cells #[v, .int .i64 0, .int .u64 0] 75))
  obtain ⟨a, c, rfl, _⟩ := h
  rw [World.size_alloc] at HK
  go_enter Try.func44, Try.ntmps44
  go_wp2_with fail
  refine (fault3_c (w.heap.size + 1) 0 _ HK.out (by omega)).mono ?_
  rintro e w1 ⟨d, l, rfl, hs⟩
  have HS2 := Lib.hid hs
  have B2 := Lib.hid (B0.out.step hs (by omega))
  have q0 : w1.cell? ⟨w.heap.size, 0, none⟩ = some (.int .i64 0) := B2.out.cell 0
  have q1 : w1.cell? ⟨w.heap.size, 1, none⟩ = some (.int .i64 0) := B2.out.cell 1
  have f0 : w1.frozen? ⟨w.heap.size, 0, none⟩ = false := B2.out.frozen 0
  have f1 : w1.frozen? ⟨w.heap.size, 1, none⟩ = false := B2.out.frozen 1
  clear hs B0
  go_wp2
  obtain ⟨z0, z1⟩ := two_res B2.out (.int .i64 d) (.int .i64 l)
  have hb : Below w.heap.size w w1 := ((Below.refl _ _).alloc (Nat.le_refl _) _).trans (((Below.refl _ _).alloc (by simp) _).trans (HS2.out.low (by omega) (by simp; omega)))
  exact bodyPost_ret (v := .agg #[.int .i64 d, .int .i64 l]) (by simp [results, Try.results44, go_sem, z0, z1]) rfl ⟨d, l, rfl, (hb.setCell (p := ⟨w.heap.size, 0, none⟩) (Nat.le_refl _) _).setCell (p := ⟨w.heap.size, 1, none⟩) (Nat.le_refl _) _⟩
theorem DrawToldDigits_c (v : Value) (xs : List Nat) (w : World) (h : Code w v xs) :
    Calls Try.prog 6 #[v] w fun e w' => ∃ d l : Int, e = .returned (.agg #[.int .i64 d, .int .i64 l]) ∧ Below w.heap.size w w' := by
  have HK := Lib.hid (h.below (below_one (.cells #[.int .i64 0, .int .i64 0] 25)))
  have B0 := Lib.hid (Bk.new w 25 #[.int .i64 0, .int .i64 0])
  obtain ⟨a, c, rfl, _⟩ := h
  go_enter Try.func6, Try.ntmps6
  go_wp2_with fail
  refine (DrawIsFault_c _ xs _ HK.out).mono ?_
  rintro e w1 ⟨d, l, rfl, hb⟩
  have B2 := Lib.hid (B0.out.below hb)
  have q0 : w1.cell? ⟨w.heap.size, 0, none⟩ = some (.int .i64 0) := B2.out.cell 0
  have q1 : w1.cell? ⟨w.heap.size, 1, none⟩ = some (.int .i64 0) := B2.out.cell 1
  have f0 : w1.frozen? ⟨w.heap.size, 0, none⟩ = false := B2.out.frozen 0
  have f1 : w1.frozen? ⟨w.heap.size, 1, none⟩ = false := B2.out.frozen 1
  have hb2 := Lib.hid (Below.chain (below_one _) hb)
  clear hb B0
  go_wp2
  obtain ⟨z0, z1⟩ := two_res B2.out (.int .i64 d) (.int .i64 l)
  exact bodyPost_ret (v := .agg #[.int .i64 d, .int .i64 l]) (by simp [results, Try.results6, go_sem, z0, z1]) rfl ⟨d, l, rfl, (hb2.out.setCell (p := ⟨w.heap.size, 0, none⟩) (Nat.le_refl _) _).setCell (p := ⟨w.heap.size, 1, none⟩) (Nat.le_refl _) _⟩
theorem div11q {x : Int} (h0 : 0 ≤ x) (h1 : x < 24) : ∃ q : Nat, Int.tdiv x 11 = (q : Int) ∧ q ≤ 2 := by
  rcases div11 h0 h1 with h | h | h
  · exact ⟨0, h, by omega⟩
  · exact ⟨1, h, by omega⟩
  · exact ⟨2, h, by omega⟩
theorem DrawCountHarmless_c (v : Value) (xs : List Nat) (w : World) (h : Code w v xs) :
    Calls Try.prog 19 #[v] w fun e w' => ∃ x : Int, e = .returned (.int .i64 x) ∧ Below w.heap.size w w' := by
  have HK := Lib.hid (cur_new h)
  obtain ⟨a, c, rfl, _⟩ := h
  have HI := Lib.hid (ints_lit (w.alloc (.cells #[.slice a xs.length c, .int .i64 0, .int .u64 0] 75)) [1, 2, 0, 3, 7, 8, -1] (by decide))
  rw [World.size_alloc] at HI
  go_enter Try.func19, Try.ntmps19
  go_wp2_with fail
  refine (pick_c 24 w.heap.size 0 _ (HK.out.alloc _) (by omega)).mono ?_
  rintro e w1 ⟨x, rfl, hx, hs⟩
  have HS : Hid (CStep (w.alloc (.cells #[.slice a xs.length c, .int .i64 0, .int .u64 0] 75)) w1 w.heap.size 2) := ((CStep.refl HK.out).alloc _).trans hs
  have HI2 : Hid (Ints w1 (.slice (some ⟨w.heap.size + 1, 0, none⟩) 7 7) [1, 2, 0, 3, 7, 8, -1]) := HI.out.grown hs.gr (.inr (by simp [Value.ownBlock]))
  have hx0 := hx.1
  have hx1 := hx.2 (by omega)
  clear hs hx
  obtain ⟨q, hq, hq2⟩ := div11q hx0 hx1
  go_wp2_with fail
  refine (amongT_c [1, 2, 0, 3, 7, 8, -1] (5 + q) (w.heap.size + 1) w.heap.size 2 _ HS.out.cur (by omega) HI2.out (by omega) (by omega) (by simp; omega)).mono ?_
  rintro e w2 ⟨y, rfl, _, hs⟩
  have HS2 := Lib.hid (HS.out.trans hs)
  clear hs
  go_wp2
  go_ret
  exact ⟨_, rfl, draw_below HS2.out⟩
set_option maxHeartbeats 2000000 in
theorem DrawDigitsShown_c (v : Value) (xs : List Nat) (w : World) (h : Code w v xs) :
    Calls Try.prog 15 #[v] w fun e w' => ∃ d l c : Int, e = .returned (.tuple #[.agg #[.int .i64 d, .int .i64 l], .int .i64 c]) ∧ Below w.heap.size w w' := by
  have HK := Lib.hid (cur_new (h.below (below_one (.cells #[.int .i64 0, .int .i64 0] 25))))
  have B0 := Lib.hid ((Bk.new w 25 #[.int .i64 0, .int .i64 0]).alloc (.cells #[v, .int .i64 0, .int .u64 0] 75))
  obtain ⟨a, c, rfl, _⟩ := h
  rw [World.size_alloc] at HK
  go_enter Try.func15, Try.ntmps15
  go_wp2_with fail
  refine (fault3_c (w.heap.size + 1) 0 _ HK.out (by omega)).mono ?_
  rintro e w1 ⟨d, l, rfl, hs⟩
  have HS := Lib.hid (hs.alloc (.cells #[.int .i64 d, .int .i64 l] 25))
  have B1 := Lib.hid ((B0.out.step hs (by omega)).alloc (.cells #[.int .i64 d, .int .i64 l] 25))
  have C1 := Lib.hid (Bk.new w1 25 #[.int .i64 d, .int .i64 l])
  have hgl : w.heap.size + 1 < w1.heap.size := hs.cur.lt
  clear hs B0 HK
  go_wp2_with fail
  refine (l3Fault_c d l _).mono ?_
  rintro e w2 ⟨rfl, hb⟩
  have HS2 := Lib.hid (HS.out.below hb)
  have B2 := Lib.hid (B1.out.below hb)
  have C2 := Lib.hid (C1.out.below hb)
  clear hb HS B1 C1
  have endA : ∀ (W : World) (x : Int), CStep ((w.alloc (.cells #[.int .i64 0, .int .i64 0] 25)).alloc (.cells #[.slice a xs.length c, .int .i64 0, .int .u64 0] 75)) W (w.heap.size + 1) 100 → Bk W w.heap.size 25 #[.int .i64 0, .int .i64 0] → (((W.setCell ⟨w.heap.size, 0, none⟩ (.int .i64 d)).setCell ⟨w.heap.size, 1, none⟩ (.int .i64 l)).cell? ⟨w.heap.size, 0, none⟩ = some (.int .i64 d) ∧ ((W.setCell ⟨w.heap.size, 0, none⟩ (.int .i64 d)).setCell ⟨w.heap.size, 1, none⟩ (.int .i64 l)).cell? ⟨w.heap.size, 1, none⟩ = some (.int .i64 l)) ∧ Below w.heap.size w ((W.setCell ⟨w.heap.size, 0, none⟩ (.int .i64 d)).setCell ⟨w.heap.size, 1, none⟩ (.int .i64 l)) := by
    intro W x hs hB
    have hb : Below w.heap.size w W := ((Below.refl _ _).alloc (Nat.le_refl _) _).trans (((Below.refl _ _).alloc (by simp) _).trans (hs.low (by omega) (by simp; omega)))
    exact ⟨two_res hB _ _, (hb.setCell (p := ⟨w.heap.size, 0, none⟩) (Nat.le_refl _) _).setCell (p := ⟨w.heap.size, 1, none⟩) (Nat.le_refl _) _⟩
  have EA := Lib.hid endA
  clear endA
  have cellWay : ∀ (W : World) (n : Nat), n ≤ 60 → CStep ((w.alloc (.cells #[.int .i64 0, .int .i64 0] 25)).alloc (.cells #[.slice a xs.length c, .int .i64 0, .int .u64 0] 75)) W (w.heap.size + 1) n → Calls Try.prog 57 #[.pointer (some ⟨w.heap.size + 1, 0, none⟩)] W (DrawI W (w.heap.size + 1) (n + 20) fun _ => True) := fun W n hn hs => cell_c _ n _ hs.cur (by omega)
  have CW := Lib.hid cellWay
  clear cellWay
  rcases hq : faultB d l with _ | _
  · have q0 : w2.cell? ⟨w1.heap.size, 0, none⟩ = some (.int .i64 d) := C2.out.cell 0
    have q1 : w2.cell? ⟨w1.heap.size, 1, none⟩ = some (.int .i64 l) := C2.out.cell 1
    go_wp2_with fail
    go_region_held3 (fun w' => w'.cell? ⟨w1.heap.size, 0, none⟩ = some (.int .i64 d) ∧ w'.cell? ⟨w1.heap.size, 1, none⟩ = some (.int .i64 l))
      (first | (go_split_ands; exact ⟨cell_two (by omega) _ _ ‹_›, cell_two (by omega) _ _ ‹_›⟩) | go_keep | (go_split_ands; refine ⟨?_, ?_⟩ <;> assumption))
      (first | (go_at_call 57; refine (CW.out _ _ (by omega) HS2.out.drew).mono ?_; rintro e wA ⟨x, rfl, _, hs⟩; have HSA := Lib.hid ((HS2.out.drew.trans hs).mono (m' := 100) (by omega)); have BA := Lib.hid (B2.out.drew.step hs (by omega)); have CA := Lib.hid (C2.out.drew.step hs (by omega)); have k0 : wA.cell? ⟨w1.heap.size, 0, none⟩ = some (.int .i64 d) := CA.out.cell 0; have k1 : wA.cell? ⟨w1.heap.size, 1, none⟩ = some (.int .i64 l) := CA.out.cell 1; have p0 : wA.cell? ⟨w.heap.size, 0, none⟩ = some (.int .i64 0) := BA.out.cell 0; have p1 : wA.cell? ⟨w.heap.size, 1, none⟩ = some (.int .i64 0) := BA.out.cell 1; have f0 : wA.frozen? ⟨w.heap.size, 0, none⟩ = false := BA.out.frozen 0; have f1 : wA.frozen? ⟨w.heap.size, 1, none⟩ = false := BA.out.frozen 1))
    go_split_ands
    obtain ⟨⟨z0, z1⟩, hb9⟩ := EA.out wA 0 HSA.out BA.out
    go_wp2
    exact bodyPost_ret (v := .tuple #[.agg #[.int .i64 d, .int .i64 l], .int .i64 x]) (by simp [results, Try.results15, go_sem, z0, z1]) rfl ⟨d, l, x, rfl, hb9⟩
  · go_wp2_with fail
    refine (one_c 4 (w.heap.size + 1) _ _ HS2.out.cur (by omega)).mono ?_
    rintro e w3 ⟨t, rfl, hs⟩
    have HS3 := Lib.hid (HS2.out.trans hs)
    have B3 := Lib.hid (B2.out.step hs (by omega))
    have C3 := Lib.hid (C2.out.step hs (by omega))
    clear hs
    cases t with
    | true =>
      have q0 : w3.cell? ⟨w1.heap.size, 0, none⟩ = some (.int .i64 d) := C3.out.cell 0
      have q1 : w3.cell? ⟨w1.heap.size, 1, none⟩ = some (.int .i64 l) := C3.out.cell 1
      go_wp2_with fail
      go_region_held3 (fun w' => w'.cell? ⟨w1.heap.size, 0, none⟩ = some (.int .i64 d) ∧ w'.cell? ⟨w1.heap.size, 1, none⟩ = some (.int .i64 l))
        (first | (go_split_ands; exact ⟨cell_two (by omega) _ _ ‹_›, cell_two (by omega) _ _ ‹_›⟩) | go_keep | (go_split_ands; refine ⟨?_, ?_⟩ <;> assumption))
        (first | (go_at_call 57; refine (CW.out _ _ (by omega) HS3.out.drew).mono ?_; rintro e wA ⟨x, rfl, _, hs⟩; have HSA := Lib.hid ((HS3.out.drew.trans hs).mono (m' := 100) (by omega)); have BA := Lib.hid (B3.out.drew.step hs (by omega)); have CA := Lib.hid (C3.out.drew.step hs (by omega)); have k0 : wA.cell? ⟨w1.heap.size, 0, none⟩ = some (.int .i64 d) := CA.out.cell 0; have k1 : wA.cell? ⟨w1.heap.size, 1, none⟩ = some (.int .i64 l) := CA.out.cell 1; have p0 : wA.cell? ⟨w.heap.size, 0, none⟩ = some (.int .i64 0) := BA.out.cell 0; have p1 : wA.cell? ⟨w.heap.size, 1, none⟩ = some (.int .i64 0) := BA.out.cell 1; have f0 : wA.frozen? ⟨w.heap.size, 0, none⟩ = false := BA.out.frozen 0; have f1 : wA.frozen? ⟨w.heap.size, 1, none⟩ = false := BA.out.frozen 1))
      go_split_ands
      obtain ⟨⟨z0, z1⟩, hb9⟩ := EA.out wA 0 HSA.out BA.out
      go_wp2
      exact bodyPost_ret (v := .tuple #[.agg #[.int .i64 d, .int .i64 l], .int .i64 x]) (by simp [results, Try.results15, go_sem, z0, z1]) rfl ⟨d, l, x, rfl, hb9⟩
    | false =>
      have q0 : w3.cell? ⟨w1.heap.size, 0, none⟩ = some (.int .i64 d) := C3.out.cell 0
      have q1 : w3.cell? ⟨w1.heap.size, 1, none⟩ = some (.int .i64 l) := C3.out.cell 1
      go_wp2_with fail
      go_region_held3 (fun w' => w'.cell? ⟨w1.heap.size, 0, none⟩ = some (.int .i64 d) ∧ w'.cell? ⟨w1.heap.size, 1, none⟩ = some (.int .i64 l))
        (first | (go_split_ands; exact ⟨cell_two (by omega) _ _ ‹_›, cell_two (by omega) _ _ ‹_›⟩) | go_keep | (go_split_ands; refine ⟨?_, ?_⟩ <;> assumption))
        (first | (go_at_call 56; refine (pick_c 10 (w.heap.size + 1) _ _ HS3.out.drew.cur (by omega)).mono ?_; rintro e wA ⟨x, rfl, hx, hs⟩; have HSA := Lib.hid ((HS3.out.drew.trans hs).mono (m' := 100) (by omega)); have BA := Lib.hid (B3.out.drew.step hs (by omega)); have CA := Lib.hid (C3.out.drew.step hs (by omega)); have k0 : wA.cell? ⟨w1.heap.size, 0, none⟩ = some (.int .i64 d) := CA.out.cell 0; have k1 : wA.cell? ⟨w1.heap.size, 1, none⟩ = some (.int .i64 l) := CA.out.cell 1; have x0 := hx.1; have x1 : x ≤ 9 := by have := hx.2 (by omega); omega) | (go_at_call 55; refine (l2Digit_c x x0 x1 _).mono ?_; rintro e wB ⟨rfl, hb⟩; have HSB := Lib.hid (HSA.out.below hb); have BB := Lib.hid (BA.out.below hb); have CB := Lib.hid (CA.out.below hb); have m0 : wB.cell? ⟨w1.heap.size, 0, none⟩ = some (.int .i64 d) := CB.out.cell 0; have m1 : wB.cell? ⟨w1.heap.size, 1, none⟩ = some (.int .i64 l) := CB.out.cell 1) | (go_at_call 54; refine (l3ShownAny_c d l _ _).mono ?_; rintro e wC ⟨y, rfl, hb2⟩; have HSC := Lib.hid (HSB.out.below hb2); have BC := Lib.hid (BB.out.below hb2); have CC := Lib.hid (CB.out.below hb2); have n0 : wC.cell? ⟨w1.heap.size, 0, none⟩ = some (.int .i64 d) := CC.out.cell 0; have n1 : wC.cell? ⟨w1.heap.size, 1, none⟩ = some (.int .i64 l) := CC.out.cell 1; have p0 : wC.cell? ⟨w.heap.size, 0, none⟩ = some (.int .i64 0) := BC.out.cell 0; have p1 : wC.cell? ⟨w.heap.size, 1, none⟩ = some (.int .i64 0) := BC.out.cell 1; have f0 : wC.frozen? ⟨w.heap.size, 0, none⟩ = false := BC.out.frozen 0; have f1 : wC.frozen? ⟨w.heap.size, 1, none⟩ = false := BC.out.frozen 1))
      go_split_ands
      obtain ⟨⟨z0, z1⟩, hb9⟩ := EA.out wC 0 HSC.out BC.out
      go_wp2
      exact bodyPost_ret (v := .tuple #[.agg #[.int .i64 d, .int .i64 l], .int .i64 y]) (by simp [results, Try.results15, go_sem, z0, z1]) rfl ⟨d, l, y, rfl, hb9⟩
end Go.Proofs.Ytfbnmkpkihfocaa
namespace Go.Proofs.Ytfbnmkpkihfocaa
open Go.RowKit
set_option linter.unusedVariables false
set_option maxRecDepth 100000

end Go.Proofs.Ytfbnmkpkihfocaa
namespace Go.Proofs.Ytfbnmkpkihfocaa
open Go.RowKit
set_option linter.unusedVariables false
set_option maxRecDepth 100000
theorem vInts_c (v1 v2 : Value) (xs ys : List Int) (w : World) (h1 : Ints w v1 xs) (h2 : Ints w v2 ys) :
    Calls Try.prog 22 #[v1, v2] w fun e w' => e = .returned (.bool (decide (xs = ys))) ∧ Below w.heap.size w w' := by
  have hm1 := h1.le; have hm2 := h2.le
  obtain ⟨a1, c1, rfl, _, _, H1⟩ := h1.parts
  obtain ⟨a2, c2, rfl, _, _, H2⟩ := h2.parts
  by_cases hl : xs.length = ys.length
  · have hlb : ((xs.length : Int) != (ys.length : Int)) = false := by simp [hl]
    have HL := Lib.hid hl; clear hl
    go_enter Try.func22, Try.ntmps22
    go_wp2
    go_loopw [5] (fun i wr => ∃ k : Nat, k ≤ xs.length ∧ i = .int .i64 k ∧ Hid (∀ j, j < k → xs[j]? = ys[j]?) ∧ Hid (∃ n, wr = w.drewN n)) (fun i _ => xs.length - (intOf i).toNat)
    case atStart => exact ⟨0, by omega, rfl, fun j hj => by omega, ⟨0, rfl⟩⟩
    case round =>
      obtain ⟨k, hk, rfl, hsame, hw⟩ := hrel
      by_cases hlt : k < xs.length
      · have hlt2 : k < ys.length := by rw [← HL.out]; exact hlt
        obtain ⟨x, hx⟩ := elem_at hlt
        obtain ⟨y, hy⟩ := elem_at hlt2
        obtain ⟨b1, o1, rfl, g1⟩ := H1.out k x hx.out
        obtain ⟨b2, o2, rfl, g2⟩ := H2.out k y hy.out
        obtain ⟨n, rfl⟩ := hw.out
        clear h1 h2
        go_wp2
        go_quiet (fail)
        go_wp2
        · rename_i ht
          go_ret
          refine ⟨bool_ret ?_, below_drewN (below_drewN (Below.refl _ _))⟩
          symm; apply decide_eq_false; rintro rfl
          have := hx.out.symm.trans hy.out; simp at this ht; exact ht this
        · rename_i ht
          exact ⟨⟨k+1, by omega, by go_num, fun j hj => by
            by_cases hj2 : j < k
            · exact hsame.out j hj2
            · obtain rfl : j = k := by omega
              rw [hx.out, hy.out]; simp at ht; rw [ht], ⟨_, rfl⟩⟩, by simp [intOf]; omega⟩
      · obtain ⟨n, rfl⟩ := hw.out
        go_wp2
        go_ret
        refine ⟨bool_ret ?_, below_drewN (Below.refl _ _)⟩
        symm; apply decide_eq_true
        exact list_eq_of HL.out (by omega) hsame.out
  · have hlb : ((xs.length : Int) != (ys.length : Int)) = true := by simp; omega
    go_enter Try.func22, Try.ntmps22
    go_wp2
    go_ret
    refine ⟨bool_ret ?_, Below.refl _ _⟩
    symm; apply decide_eq_false; rintro rfl; exact hl rfl

theorem vGroups_c (u1 u2 : Value) (xss : List (List Int)) (B1 B2 : Nat) (w : World) (h1 : RdSS w B1 u1 xss) (h2 : RdSS w B2 u2 xss) :
    Calls Try.prog 23 #[u1, u2] w fun e w' => e = .returned (.bool true) ∧ Below w.heap.size w w' := by
  obtain ⟨a1, c1, rfl, hl1, H1⟩ := h1.parts
  obtain ⟨a2, c2, rfl, _, H2⟩ := h2.parts
  have hlb : ((xss.length : Int) != (xss.length : Int)) = false := by simp
  go_enter Try.func23, Try.ntmps23
  go_wp2
  go_loopw [5] (fun j wr => ∃ k : Nat, k ≤ xss.length ∧ j = .int .i64 (k : Int) ∧ Below w.heap.size w wr) (fun j _ => xss.length - (intOf j).toNat)
  case atStart => exact ⟨0, by omega, rfl, Below.refl _ _⟩
  case round =>
    obtain ⟨k, hk, rfl, hb⟩ := hrel
    by_cases hlt : k < xss.length
    · have hd : decide ((k : Int) < (xss.length : Int)) = true := by simp; omega
      obtain ⟨xs, hx⟩ := elem_at hlt
      obtain ⟨b1, o1, a1', c1', rfl, f1, i1⟩ := H1.out k xs hx.out
      obtain ⟨b2, o2, a2', c2', rfl, f2, i2⟩ := H2.out k xs hx.out
      have g1 := cell_later hb f1
      have g2 := cell_later hb f2
      have j1 := i1.below hb
      have j2 := i2.below hb
      clear f1 f2 i1 i2
      go_wp2_with fail
      go_region_held3 (fun w' => w'.cell? ⟨b1, o1 + k, none⟩ = some (.slice a1' xs.length c1') ∧ w'.cell? ⟨b2, o2 + k, none⟩ = some (.slice a2' xs.length c2'))
        (first | go_keep | (go_split_ands; exact ⟨cell_later hb2 (by assumption), cell_later hb2 (by assumption)⟩))
        (first | (go_at_call 22; refine (vInts_c _ _ xs xs _ j1.drew j2.drew).mono ?_; rintro e w' ⟨rfl, hb2⟩))
      have hb3 : Below w.heap.size w w' := Below.chain hb (Below.chain (Below.refl _ _).drew hb2)
      go_wp2
      go_roundw
      case rel => exact ⟨k + 1, by omega, by go_num, hb3⟩
      case measure => simp [intOf]; omega
    · obtain rfl : k = xss.length := by omega
      go_wp2
      go_ret
      exact ⟨rfl, hb⟩
theorem vHas_c (v : Value) (xs : List Int) (x : Int) (w : World) (h : Ints w v xs) :
    Calls Try.prog 24 #[v, .int .i64 x] w fun e w' => e = .returned (.bool (decide (x ∈ xs))) ∧ w = w' := by
  have hm1 := h.le
  obtain ⟨a1, c1, rfl, _, _, H1⟩ := h.parts
  clear h
  go_enter Try.func24, Try.ntmps24
  go_wp2
  go_loopw [5] (fun i wr => ∃ k : Nat, k ≤ xs.length ∧ i = .int .i64 k ∧ Hid (∀ (j : Nat) (y : Int), j < k → xs[j]? = some y → y ≠ x) ∧ w = wr) (fun i _ => xs.length - (intOf i).toNat)
  case atStart => exact ⟨0, by omega, rfl, fun j y hj => by omega, rfl⟩
  case round =>
    obtain ⟨k, hk, rfl, hno, rfl⟩ := hrel
    by_cases hlt : k < xs.length
    · obtain ⟨y, hy⟩ := elem_at hlt
      obtain ⟨b1, o1, rfl, g1⟩ := H1.out k y hy.out
      have hd : decide ((k : Int) < (xs.length : Int)) = true := by simp; omega
      by_cases he : y = x
      · subst he
        have hmem : decide (y ∈ xs) = true := decide_eq_true (List.mem_of_getElem? hy.out)
        have HM := Lib.hid hmem
        clear hmem
        go_wp2
        go_ret
        exact ⟨bool_ret HM.out.symm, rfl⟩
      · have heb : (y == x) = false := by simpa using he
        have HE := Lib.hid he
        clear he
        go_wp2
        go_roundw
        case rel => exact ⟨k + 1, by omega, by go_num, fun j z hj hz => by
          by_cases hj2 : j < k
          · exact hno.out j z hj2 hz
          · obtain rfl : j = k := by omega
            rw [hy.out] at hz; cases hz; exact HE.out, trivial⟩
        case measure => simp [intOf]; omega
    · have hd : decide ((k : Int) < (xs.length : Int)) = false := by simp; omega
      go_wp2
      go_ret
      refine ⟨bool_ret ?_, rfl⟩
      symm; apply decide_eq_false
      intro hm
      obtain ⟨j, hj⟩ := List.mem_iff_getElem?.1 hm
      have hjl := (List.getElem?_eq_some_iff.1 hj).1
      exact hno.out j x (by omega) hj rfl
end Go.Proofs.Ytfbnmkpkihfocaa
namespace Go.Proofs.Ytfbnmkpkihfocaa
open Go.RowKit
theorem vIntsSame_c (v1 v2 : Value) (xs : List Int) (w : World) (h1 : Ints w v1 xs) (h2 : Ints w v2 xs) :
    Calls Try.prog 22 #[v1, v2] w fun e w' => e = .returned (.bool true) ∧ Below w.heap.size w w' :=
  (vInts_c v1 v2 xs xs w h1 h2).mono fun e w' h => ⟨by rw [h.1, decide_eq_true rfl], h.2⟩
end Go.Proofs.Ytfbnmkpkihfocaa
namespace Go.Proofs.Ytfbnmkpkihfocaa
open Go.RowKit
theorem Bk.two' {w : World} {g t : Nat} {a b : Value} (h : Bk w g t #[a, b]) : w.cell? ⟨g, 0, none⟩ = some a ∧ w.cell? ⟨g, 1, none⟩ = some b ∧ w.frozen? ⟨g, 0, none⟩ = false ∧ w.frozen? ⟨g, 1, none⟩ = false := ⟨h.cell 0, h.cell 1, h.frozen 0, h.frozen 1⟩
theorem two_below' {w W : World} {b : Nat} (h : Below w.heap.size w W) (hb : w.heap.size ≤ b) (X Y : Value) : Below w.heap.size w ((W.setCell ⟨b, 0, none⟩ X).setCell ⟨b, 1, none⟩ Y) :=
  (h.setCell (p := ⟨b, 0, none⟩) hb _).setCell (p := ⟨b, 1, none⟩) hb _
theorem chain_back {w a b : World} (k : Below a.heap.size a b) (h : Below w.heap.size w a) : Below w.heap.size w b := Below.chain h k
end Go.Proofs.Ytfbnmkpkihfocaa
namespace Go.Proofs.Ytfbnmkpkihfocaa
open Go.RowKit
theorem RdSS.below {w w' : World} {u : Value} {xss : List (List Int)} (h : RdSS w w.heap.size u xss) (hb : Below w.heap.size w w') : RdSS w' w'.heap.size u xss := by
  obtain ⟨vs, h1, h2, h3, h4⟩ := h.keep hb (Nat.le_refl _)
  exact ⟨vs, h1, h2, fun g hg => Nat.lt_of_lt_of_le (h3 g hg) hb.size, fun k v xs hv hx => ⟨(h4 k v xs hv hx).1, fun g hg => Nat.lt_of_lt_of_le ((h4 k v xs hv hx).2 g hg) hb.size⟩⟩
end Go.Proofs.Ytfbnmkpkihfocaa
namespace Go.Proofs.Ytfbnmkpkihfocaa
open Go.RowKit
set_option linter.unusedVariables false
set_option linter.unusedSimpArgs false
set_option maxRecDepth 100000
set_option maxHeartbeats 4000000 in
theorem FnTold_walk (v : Value) (xs : List Nat) (w : World) (h : Code w v xs) :
    Calls Try.prog 3 #[v] w fun e w' => e = .returned (.bool true) ∧ Below w.heap.size w w' := by
  have HK := Lib.hid h
  obtain ⟨a, c, rfl, _⟩ := h
  have HV := Lib.hid (vBig_c _ _ _ HK.out)
  by_cases hbig : 65536 < xs.length
  · have hd : decide (65536 < xs.length) = true := decide_eq_true hbig
    go_enter Try.func3, Try.ntmps3
    go_wp2_with fail
    refine HV.out.mono ?_
    rintro e w1 ⟨rfl, rfl⟩
    go_wp2
    go_ret
    exact ⟨rfl, Below.refl _ _⟩
  have hd : decide (65536 < xs.length) = false := decide_eq_false hbig
  go_enter Try.func3, Try.ntmps3
  go_wp2_with fail
  refine HV.out.mono ?_
  rintro e _ ⟨rfl, rfl⟩
  have BX := Lib.hid (Below.refl w.heap.size w)
  go_wp2_with fail
  refine (DrawToldDigits_c _ xs _ HK.out).mono ?_
  rintro e w1 ⟨d, l, rfl, hb1⟩
  replace BX := Lib.hid (Below.chain BX.out hb1)
  replace HK := Lib.hid (HK.out.below hb1)
  clear hb1
  have TD1 := fun W => ToldDigits_c d l W
  have TD2 := fun W => sToldDigits_c d l W
  have CD1 := fun W => ConfusedDigits_c d l W
  have CD2 := fun W => sConfusedDigits_c d l W
  have CI1 := fun W => CountImages_c d l W
  have CI2 := fun W => sCountImages_c d l W
  have IH1 := fun W => CountImagesH_c d l W
  have IH2 := fun W => sCountImagesH_c d l W
  have TF := fun (h : faultB d l = true) => told_facts h
  have CT := fun g (h : g ∈ cfL d l) => cfL_two h
  have hTL := tdL_le d l
  unfold ciV at CI1 CI2
  unfold ihV at IH1 IH2
  generalize (if faultB d l = true then ((grpL d l).length : Int) else 0) = im at *
  generalize (faultB d l && decide ((grpL d l).length = 10)) = ih at *
  generalize tdL d l = T at *
  generalize cfL d l = C at *
  generalize faultB d l = fb at *
  replace TD1 := Lib.hid TD1
  replace TD2 := Lib.hid TD2
  replace CD1 := Lib.hid CD1
  replace CD2 := Lib.hid CD2
  replace CI1 := Lib.hid CI1
  replace CI2 := Lib.hid CI2
  replace IH1 := Lib.hid IH1
  replace IH2 := Lib.hid IH2
  replace TF := Lib.hid TF
  replace CT := Lib.hid CT
  have al1 := Lib.hid (below_one (w := w1) (.cells #[.int .i64 d, .int .i64 l] 25))
  replace BX := Lib.hid (Below.alc BX.out (.cells #[.int .i64 d, .int .i64 l] 25))
  replace HK := Lib.hid (HK.out.below al1.out)
  have X3 := Lib.hid (Bk.new w1 25 #[.int .i64 d, .int .i64 l])
  clear al1
  obtain ⟨q0a, q0b, _, _⟩ := X3.out.two'
  go_wp2_with fail
  refine (TD1.out _).mono ?_
  rintro e w2 ⟨u4, rfl, ho, hb2⟩
  replace BX := Lib.hid (Below.chain BX.out hb2)
  replace HK := Lib.hid (HK.out.below hb2)
  replace X3 := Lib.hid (X3.out.below hb2)
  have H4 := Lib.hid (Ints.of_own ho)
  clear hb2
  clear q0a q0b
  clear ho
  obtain ⟨q0a, q0b, _, _⟩ := X3.out.two'
  go_wp2_with fail
  refine (TD2.out _).mono ?_
  rintro e w3 ⟨u6, rfl, ho, hb3⟩
  replace BX := Lib.hid (Below.chain BX.out hb3)
  replace HK := Lib.hid (HK.out.below hb3)
  replace X3 := Lib.hid (X3.out.below hb3)
  replace H4 := Lib.hid (H4.out.below hb3)
  have H6 := Lib.hid (Ints.of_own ho)
  clear hb3
  clear q0a q0b
  clear ho
  obtain ⟨q0a, q0b, _, _⟩ := X3.out.two'
  go_wp2_with fail
  refine (CD1.out _).mono ?_
  rintro e w4 ⟨u8, rfl, ho, hb4⟩
  replace BX := Lib.hid (Below.chain BX.out hb4)
  replace HK := Lib.hid (HK.out.below hb4)
  replace X3 := Lib.hid (X3.out.below hb4)
  replace H4 := Lib.hid (H4.out.below hb4)
  replace H6 := Lib.hid (H6.out.below hb4)
  have R8 := Lib.hid (OwnSS.rd ho)
  clear hb4
  clear q0a q0b
  clear ho
  obtain ⟨q0a, q0b, _, _⟩ := X3.out.two'
  go_wp2_with fail
  refine (CD2.out _).mono ?_
  rintro e w5 ⟨u10, rfl, ho, hb5⟩
  replace BX := Lib.hid (Below.chain BX.out hb5)
  replace HK := Lib.hid (HK.out.below hb5)
  replace X3 := Lib.hid (X3.out.below hb5)
  replace H4 := Lib.hid (H4.out.below hb5)
  replace H6 := Lib.hid (H6.out.below hb5)
  replace R8 := Lib.hid (R8.out.below hb5)
  have R10 := Lib.hid (OwnSS.rd ho)
  clear hb5
  clear q0a q0b
  clear ho
  obtain ⟨q0a, q0b, _, _⟩ := X3.out.two'
  go_wp2_with fail
  refine (CI1.out _).mono ?_
  rintro e w6 ⟨rfl, hb6⟩
  replace BX := Lib.hid (Below.chain BX.out hb6)
  replace HK := Lib.hid (HK.out.below hb6)
  replace X3 := Lib.hid (X3.out.below hb6)
  replace H4 := Lib.hid (H4.out.below hb6)
  replace H6 := Lib.hid (H6.out.below hb6)
  replace R8 := Lib.hid (R8.out.below hb6)
  replace R10 := Lib.hid (R10.out.below hb6)
  clear hb6
  clear q0a q0b
  obtain ⟨q0a, q0b, _, _⟩ := X3.out.two'
  go_wp2_with fail
  refine (CI2.out _).mono ?_
  rintro e w7 ⟨rfl, hb7⟩
  replace BX := Lib.hid (Below.chain BX.out hb7)
  replace HK := Lib.hid (HK.out.below hb7)
  replace X3 := Lib.hid (X3.out.below hb7)
  replace H4 := Lib.hid (H4.out.below hb7)
  replace H6 := Lib.hid (H6.out.below hb7)
  replace R8 := Lib.hid (R8.out.below hb7)
  replace R10 := Lib.hid (R10.out.below hb7)
  clear hb7
  clear q0a q0b
  obtain ⟨q0a, q0b, _, _⟩ := X3.out.two'
  go_wp2_with fail
  refine (IH1.out _).mono ?_
  rintro e w8 ⟨rfl, hb8⟩
  replace BX := Lib.hid (Below.chain BX.out hb8)
  replace HK := Lib.hid (HK.out.below hb8)
  replace X3 := Lib.hid (X3.out.below hb8)
  replace H4 := Lib.hid (H4.out.below hb8)
  replace H6 := Lib.hid (H6.out.below hb8)
  replace R8 := Lib.hid (R8.out.below hb8)
  replace R10 := Lib.hid (R10.out.below hb8)
  clear hb8
  clear q0a q0b
  obtain ⟨q0a, q0b, _, _⟩ := X3.out.two'
  go_wp2_with fail
  refine (IH2.out _).mono ?_
  rintro e w9 ⟨rfl, hb9⟩
  replace BX := Lib.hid (Below.chain BX.out hb9)
  replace HK := Lib.hid (HK.out.below hb9)
  replace X3 := Lib.hid (X3.out.below hb9)
  replace H4 := Lib.hid (H4.out.below hb9)
  replace H6 := Lib.hid (H6.out.below hb9)
  replace R8 := Lib.hid (R8.out.below hb9)
  replace R10 := Lib.hid (R10.out.below hb9)
  clear hb9
  clear q0a q0b
  clear X3
  go_wp2_with fail
  refine (vCut_c 1 _ xs _ HK.out (by omega) (by decide)).mono ?_
  rintro e w10 ⟨vc1, ys1, rfl, hcy, _, hb10⟩
  replace BX := Lib.hid (Below.chain BX.out hb10)
  replace HK := Lib.hid (HK.out.below hb10)
  replace H4 := Lib.hid (H4.out.below hb10)
  replace H6 := Lib.hid (H6.out.below hb10)
  replace R8 := Lib.hid (R8.out.below hb10)
  replace R10 := Lib.hid (R10.out.below hb10)
  have HY := Lib.hid (hcy)
  clear hb10
  clear hcy
  go_wp2_with fail
  refine (DrawDigitsShown_c _ ys1 _ HY.out).mono ?_
  rintro e w11 ⟨gd, gl, gc, rfl, hb11⟩
  replace BX := Lib.hid (Below.chain BX.out hb11)
  replace HK := Lib.hid (HK.out.below hb11)
  replace H4 := Lib.hid (H4.out.below hb11)
  replace H6 := Lib.hid (H6.out.below hb11)
  replace R8 := Lib.hid (R8.out.below hb11)
  replace R10 := Lib.hid (R10.out.below hb11)
  replace HY := Lib.hid (HY.out.below hb11)
  clear hb11
  clear HY
  have DS1 := fun W => DigitsShown_c gd gl gc W
  have DS2 := fun W => sDigitsShown_c gd gl gc W
  have DF := fun (h : scOk gd gl gc = true) (x : Int) (h0 : 0 ≤ x) (h1 : x ≤ 9) => ds_facts h h0 h1
  generalize dsL gd gl gc = D at *
  generalize scOk gd gl gc = two at *
  replace DS1 := Lib.hid DS1
  replace DS2 := Lib.hid DS2
  replace DF := Lib.hid DF
  have al1 := Lib.hid (below_one (w := w11) (.cells #[.int .i64 gd, .int .i64 gl] 25))
  replace BX := Lib.hid (Below.alc BX.out (.cells #[.int .i64 gd, .int .i64 gl] 25))
  replace HK := Lib.hid (HK.out.below al1.out)
  replace H4 := Lib.hid (H4.out.below al1.out)
  replace H6 := Lib.hid (H6.out.below al1.out)
  replace R8 := Lib.hid (R8.out.below al1.out)
  replace R10 := Lib.hid (R10.out.below al1.out)
  have X20 := Lib.hid (Bk.new w11 25 #[.int .i64 gd, .int .i64 gl])
  clear al1
  obtain ⟨q0a, q0b, _, _⟩ := X20.out.two'
  go_wp2_with fail
  refine (DS1.out _).mono ?_
  rintro e w12 ⟨u22, rfl, ho, hb12⟩
  replace BX := Lib.hid (Below.chain BX.out hb12)
  replace HK := Lib.hid (HK.out.below hb12)
  replace H4 := Lib.hid (H4.out.below hb12)
  replace H6 := Lib.hid (H6.out.below hb12)
  replace R8 := Lib.hid (R8.out.below hb12)
  replace R10 := Lib.hid (R10.out.below hb12)
  replace X20 := Lib.hid (X20.out.below hb12)
  have H22 := Lib.hid (Ints.of_own ho)
  clear hb12
  clear q0a q0b
  clear ho
  obtain ⟨q0a, q0b, _, _⟩ := X20.out.two'
  go_wp2_with fail
  refine (DS2.out _).mono ?_
  rintro e w13 ⟨u24, rfl, ho, hb13⟩
  replace BX := Lib.hid (Below.chain BX.out hb13)
  replace HK := Lib.hid (HK.out.below hb13)
  replace H4 := Lib.hid (H4.out.below hb13)
  replace H6 := Lib.hid (H6.out.below hb13)
  replace R8 := Lib.hid (R8.out.below hb13)
  replace R10 := Lib.hid (R10.out.below hb13)
  replace X20 := Lib.hid (X20.out.below hb13)
  replace H22 := Lib.hid (H22.out.below hb13)
  have H24 := Lib.hid (Ints.of_own ho)
  clear hb13
  clear q0a q0b
  clear ho
  go_wp2_with fail
  refine (vCut_c 2 _ xs _ HK.out (by omega) (by decide)).mono ?_
  rintro e w14 ⟨vc2, ys2, rfl, hcy, _, hb14⟩
  replace BX := Lib.hid (Below.chain BX.out hb14)
  replace HK := Lib.hid (HK.out.below hb14)
  replace H4 := Lib.hid (H4.out.below hb14)
  replace H6 := Lib.hid (H6.out.below hb14)
  replace R8 := Lib.hid (R8.out.below hb14)
  replace R10 := Lib.hid (R10.out.below hb14)
  replace X20 := Lib.hid (X20.out.below hb14)
  replace H22 := Lib.hid (H22.out.below hb14)
  replace H24 := Lib.hid (H24.out.below hb14)
  have HY := Lib.hid (hcy)
  clear hb14
  clear hcy
  clear HK
  go_wp2_with fail
  refine (DrawCountHarmless_c _ ys2 _ HY.out).mono ?_
  rintro e w15 ⟨sz, rfl, hb15⟩
  replace BX := Lib.hid (Below.chain BX.out hb15)
  replace H4 := Lib.hid (H4.out.below hb15)
  replace H6 := Lib.hid (H6.out.below hb15)
  replace R8 := Lib.hid (R8.out.below hb15)
  replace R10 := Lib.hid (R10.out.below hb15)
  replace X20 := Lib.hid (X20.out.below hb15)
  replace H22 := Lib.hid (H22.out.below hb15)
  replace H24 := Lib.hid (H24.out.below hb15)
  replace HY := Lib.hid (HY.out.below hb15)
  clear hb15
  clear HY
  have CH1 := fun W => CountHarmless_c sz W
  have CH2 := fun W => sCountHarmless_c sz W
  have CF := fun (h : chOk sz = true) => ch_facts h
  unfold chV at CH1 CH2
  generalize chN sz = cn at *
  generalize chOk sz = three at *
  replace CH1 := Lib.hid CH1
  replace CH2 := Lib.hid CH2
  replace CF := Lib.hid CF
  go_wp2_with fail
  refine (CH1.out _).mono ?_
  rintro e w16 ⟨rfl, hb16⟩
  replace BX := Lib.hid (Below.chain BX.out hb16)
  replace H4 := Lib.hid (H4.out.below hb16)
  replace H6 := Lib.hid (H6.out.below hb16)
  replace R8 := Lib.hid (R8.out.below hb16)
  replace R10 := Lib.hid (R10.out.below hb16)
  replace X20 := Lib.hid (X20.out.below hb16)
  replace H22 := Lib.hid (H22.out.below hb16)
  replace H24 := Lib.hid (H24.out.below hb16)
  clear hb16
  go_wp2_with fail
  refine (CH2.out _).mono ?_
  rintro e w17 ⟨rfl, hb17⟩
  replace BX := Lib.hid (Below.chain BX.out hb17)
  replace H4 := Lib.hid (H4.out.below hb17)
  replace H6 := Lib.hid (H6.out.below hb17)
  replace R8 := Lib.hid (R8.out.below hb17)
  replace R10 := Lib.hid (R10.out.below hb17)
  replace X20 := Lib.hid (X20.out.below hb17)
  replace H22 := Lib.hid (H22.out.below hb17)
  replace H24 := Lib.hid (H24.out.below hb17)
  clear hb17
  clear TD1 TD2 CD1 CD2 CI1 CI2 IH1 IH2 DS1 DS2 CH1 CH2
  go_wp2_with fail
  refine (vIntsSame_c u4 u6 T _ H4.out H6.out).mono ?_
  rintro e w18 ⟨rfl, hb18⟩
  replace BX := Lib.hid (Below.chain BX.out hb18)
  replace H4 := Lib.hid (H4.out.below hb18)
  replace H6 := Lib.hid (H6.out.below hb18)
  replace R8 := Lib.hid (R8.out.below hb18)
  replace R10 := Lib.hid (R10.out.below hb18)
  replace X20 := Lib.hid (X20.out.below hb18)
  replace H22 := Lib.hid (H22.out.below hb18)
  replace H24 := Lib.hid (H24.out.below hb18)
  clear hb18
  clear H6
  go_wp2_with fail
  refine (vGroups_c u8 u10 C _ _ _ R8.out R10.out).mono ?_
  rintro e w19 ⟨rfl, hb19⟩
  replace BX := Lib.hid (Below.chain BX.out hb19)
  replace H4 := Lib.hid (H4.out.below hb19)
  replace R8 := Lib.hid (R8.out.below hb19)
  replace R10 := Lib.hid (R10.out.below hb19)
  replace X20 := Lib.hid (X20.out.below hb19)
  replace H22 := Lib.hid (H22.out.below hb19)
  replace H24 := Lib.hid (H24.out.below hb19)
  clear hb19
  clear R10
  go_wp2_with fail
  refine (vIntsSame_c u22 u24 D _ H22.out H24.out).mono ?_
  rintro e w20 ⟨rfl, hb20⟩
  replace BX := Lib.hid (Below.chain BX.out hb20)
  replace H4 := Lib.hid (H4.out.below hb20)
  replace R8 := Lib.hid (R8.out.below hb20)
  replace X20 := Lib.hid (X20.out.below hb20)
  replace H22 := Lib.hid (H22.out.below hb20)
  replace H24 := Lib.hid (H24.out.below hb20)
  clear hb20
  clear H24
  cases fb with
  | false =>
    as_aux_lemma =>
      cases two with
      | false =>
        as_aux_lemma =>
          cases three with
          | false =>
            go_wp2
            go_ret
            exact ⟨rfl, BX.out⟩
          | true =>
            obtain ⟨hc0, hc1⟩ := CF.out (by trivial)
            have hcd : decide (0 ≤ cn) = true := decide_eq_true hc0
            by_cases hs : 0 < sz
            · have hsd : decide (0 < sz) = true := decide_eq_true hs
              go_wp2
              go_ret
              exact ⟨rfl, BX.out⟩
            · have hsd : decide (0 < sz) = false := decide_eq_false hs
              have hc2 : cn = 1 := by rcases hc1 with h | h; exact absurd h hs; exact h
              subst hc2
              go_wp2
              go_ret
              exact ⟨rfl, BX.out⟩
      | true =>
        as_aux_lemma =>
          have DF2 := Lib.hid (DF.out (by trivial))
          go_wp2
          go_loopw [34] (fun j wr => ∃ k : Nat, k ≤ 10 ∧ j = .int .i64 (k : Int) ∧ Hid (Below w20.heap.size w20 wr)) (fun j _ => 10 - (intOf j).toNat)
          case atStart => exact ⟨0, by omega, rfl, Below.refl _ _⟩
          case round =>
            obtain ⟨k, hk, rfl, HBr⟩ := hrel
            by_cases hlt : k < 10
            · have hdk : decide ((k : Int) < 10) = true := by simp; omega
              obtain ⟨f1, f2, f3⟩ := DF2.out (k : Int) (by omega) (by omega)
              have SC := Lib.hid (fun W => ShownCell_c gd gl (dg (k : Int)) W)
              have CO := Lib.hid (fun W => CellOf_c (k : Int) W)
              rw [f1] at SC
              rw [f2] at CO
              have VH := Lib.hid (fun (W : World) (h : Ints W u22 D) => vHas_c u22 D (k : Int) W h)
              rw [f3] at VH
              clear f1 f2 f3
              generalize shC gd gl (dg (k : Int)) = sh at *
              generalize dg (k : Int) = dk at *
              go_wp2_with fail
              refine (CO.out _).mono ?_
              rintro e wa ⟨rfl, hba⟩
              have HBa := Lib.hid (Below.chain HBr.out hba)
              clear hba CO
              have Y20 := Lib.hid (X20.out.below HBa.out)
              obtain ⟨qa, qb, _, _⟩ := Y20.out.two'
              go_wp2_with fail
              refine (SC.out _).mono ?_
              rintro e wb ⟨rfl, hbb⟩
              have HBb := Lib.hid (Below.chain HBa.out hbb)
              clear hbb SC qa qb Y20
              go_wp2_with fail
              refine (VH.out _ (H22.out.below HBb.out)).mono ?_
              rintro e _ ⟨rfl, rfl⟩
              go_wp2
              go_roundw
              case rel => exact ⟨k + 1, by omega, by go_num, HBb⟩
              case measure => simp [intOf]; omega
            · obtain rfl : k = 10 := by omega
              have hdk : decide (((10 : Nat) : Int) < 10) = false := by simp
              rename World => wq
              have B9 := Lib.hid (Below.chain BX.out HBr.out)
              cases three with
              | false =>
                go_wp2
                go_ret
                exact ⟨rfl, B9.out⟩
              | true =>
                obtain ⟨hc0, hc1⟩ := CF.out (by trivial)
                have hcd : decide (0 ≤ cn) = true := decide_eq_true hc0
                by_cases hs : 0 < sz
                · have hsd : decide (0 < sz) = true := decide_eq_true hs
                  go_wp2
                  go_ret
                  exact ⟨rfl, B9.out⟩
                · have hsd : decide (0 < sz) = false := decide_eq_false hs
                  have hc2 : cn = 1 := by rcases hc1 with h | h; exact absurd h hs; exact h
                  subst hc2
                  go_wp2
                  go_ret
                  exact ⟨rfl, B9.out⟩
  | true =>
    as_aux_lemma =>
      obtain ⟨t1, t2, t3, hCl⟩ := TF.out (by trivial)
      have hT1 := Lib.hid t1
      have hT2 := Lib.hid t2
      have hT3 := Lib.hid t3
      clear t1 t2 t3
      obtain ⟨a4, c4, rfl, _, _, _⟩ := H4.out.parts
      obtain ⟨a8, c8, rfl, hC8, _⟩ := R8.out.parts
      go_wp2
      go_loopw [31, 32] (fun sm j wr => ∃ k : Nat, k ≤ C.length ∧ j = .int .i64 (k : Int) ∧ sm = .int .i64 ((T.length : Int) + (sumTo C k : Int)) ∧ Hid (Below w20.heap.size w20 wr)) (fun _ j _ => C.length - (intOf j).toNat)
      case atStart => exact ⟨0, by omega, rfl, by simp [sumTo], Below.refl _ _⟩
      case round =>
        obtain ⟨k, hk, rfl, rfl, HBr⟩ := hrel
        have hsl := sumTo_le C k
        have hsm : T.length + sumTo C k ≤ 10 := by
          have h1 := hT1.out
          have h2 : sumTo C C.length = (C.map List.length).sum := by unfold sumTo; rw [List.take_length]
          omega
        clear hsl
        by_cases hlt : k < C.length
        · have hdk : decide ((k : Int) < (C.length : Int)) = true := by simp; omega
          obtain ⟨gr, hg⟩ := elem_at hlt
          obtain ⟨hg2, hgh⟩ := CT.out gr (List.mem_of_getElem? hg.out)
          have HGH := Lib.hid hgh
          have HS := Lib.hid (sumTo_succ hg.out)
          have hsm2 : T.length + sumTo C k + gr.length ≤ 10 := by
            have h1 := hT1.out
            have h2 : sumTo C C.length = (C.map List.length).sum := by unfold sumTo; rw [List.take_length]
            have h3 := sumTo_le C (k + 1)
            have h4 := HS.out
            omega
          generalize sumTo C k = sk at *
          clear hgh
          obtain ⟨ax, cx, ex, _, HCp⟩ := (RdSS.below R8.out HBr.out).parts
          cases ex
          obtain ⟨b, off, a2, c2, rfl, f0, i0⟩ := HCp.out k gr hg.out
          clear HCp
          have hg2d : decide ((gr.length : Int) < 2) = false := by simp; omega
          rename World => wo
          go_wp2
          go_loopw [33] (fun j wr => ∃ m : Nat, m ≤ gr.length ∧ j = .int .i64 (m : Int) ∧ wo = wr) (fun j _ => gr.length - (intOf j).toNat)
          case atStart => exact ⟨0, by omega, rfl, rfl⟩
          case round =>
            obtain ⟨m, hm2, rfl, rfl⟩ := hrel
            by_cases hltm : m < gr.length
            · have hdm : decide ((m : Int) < (gr.length : Int)) = true := by simp; omega
              obtain ⟨x, hx⟩ := elem_at hltm
              obtain ⟨a3, c3', e3, _, _, HIp⟩ := i0.parts
              cases e3
              obtain ⟨b2, o2, rfl, f1⟩ := HIp.out m x hx.out
              have VH := Lib.hid (vHas_c _ T x wo (H4.out.below HBr.out))
              rw [HGH.out x (List.mem_of_getElem? hx.out)] at VH
              clear HIp
              go_wp2_with fail
              refine VH.out.mono ?_
              rintro e _ ⟨rfl, rfl⟩
              go_wp2
              go_roundw
              case rel => exact ⟨m + 1, by omega, by go_num, trivial⟩
              case measure => simp [intOf]; omega
            · obtain rfl : m = gr.length := by omega
              have hdm : decide ((gr.length : Int) < (gr.length : Int)) = false := by simp
              go_wp2
              go_roundw
              case rel => exact ⟨k + 1, by omega, by go_num, by rw [HS.out]; exact int_val (by omega), HBr⟩
              case measure => simp [intOf]; omega
        · obtain rfl : k = C.length := by omega
          have hdk : decide ((C.length : Int) < (C.length : Int)) = false := by simp
          have hten : (T.length : Int) + (sumTo C C.length : Int) = 10 := by have := hT1.out; omega
          rw [hten]
          have him := hT2.out
          have hih := hT3.out
          subst him
          rename World => wo
          have B1 := Lib.hid (Below.chain BX.out HBr.out)
          have H22x := Lib.hid (H22.out.below HBr.out)
          have X20x := Lib.hid (X20.out.below HBr.out)
          have hih2 : ih = ((T.length : Int) == 10) := by
            rw [hih, Bool.eq_iff_iff, decide_eq_true_eq, beq_iff_eq]; omega
          subst hih2
          clear hten hih hsm
          cases two with
          | false =>
            as_aux_lemma =>
              cases three with
              | false =>
                go_wp2
                go_ret
                exact ⟨rfl, B1.out⟩
              | true =>
                obtain ⟨hc0, hc1⟩ := CF.out (by trivial)
                have hcd : decide (0 ≤ cn) = true := decide_eq_true hc0
                by_cases hs : 0 < sz
                · have hsd : decide (0 < sz) = true := decide_eq_true hs
                  go_wp2
                  go_ret
                  exact ⟨rfl, B1.out⟩
                · have hsd : decide (0 < sz) = false := decide_eq_false hs
                  have hc2 : cn = 1 := by rcases hc1 with h | h; exact absurd h hs; exact h
                  subst hc2
                  go_wp2
                  go_ret
                  exact ⟨rfl, B1.out⟩
          | true =>
            as_aux_lemma =>
              have DF2 := Lib.hid (DF.out (by trivial))
              go_wp2
              go_loopw [34] (fun j wr => ∃ k : Nat, k ≤ 10 ∧ j = .int .i64 (k : Int) ∧ Hid (Below wo.heap.size wo wr)) (fun j _ => 10 - (intOf j).toNat)
              case atStart => exact ⟨0, by omega, rfl, Below.refl _ _⟩
              case round =>
                obtain ⟨k, hk, rfl, HBr⟩ := hrel
                by_cases hlt : k < 10
                · have hdk : decide ((k : Int) < 10) = true := by simp; omega
                  obtain ⟨f1, f2, f3⟩ := DF2.out (k : Int) (by omega) (by omega)
                  have SC := Lib.hid (fun W => ShownCell_c gd gl (dg (k : Int)) W)
                  have CO := Lib.hid (fun W => CellOf_c (k : Int) W)
                  rw [f1] at SC
                  rw [f2] at CO
                  have VH := Lib.hid (fun (W : World) (h : Ints W u22 D) => vHas_c u22 D (k : Int) W h)
                  rw [f3] at VH
                  clear f1 f2 f3
                  generalize shC gd gl (dg (k : Int)) = sh at *
                  generalize dg (k : Int) = dk at *
                  go_wp2_with fail
                  refine (CO.out _).mono ?_
                  rintro e wa ⟨rfl, hba⟩
                  have HBa := Lib.hid (Below.chain HBr.out hba)
                  clear hba CO
                  have Y20 := Lib.hid (X20x.out.below HBa.out)
                  obtain ⟨qa, qb, _, _⟩ := Y20.out.two'
                  go_wp2_with fail
                  refine (SC.out _).mono ?_
                  rintro e wb ⟨rfl, hbb⟩
                  have HBb := Lib.hid (Below.chain HBa.out hbb)
                  clear hbb SC qa qb Y20
                  go_wp2_with fail
                  refine (VH.out _ (H22x.out.below HBb.out)).mono ?_
                  rintro e _ ⟨rfl, rfl⟩
                  go_wp2
                  go_roundw
                  case rel => exact ⟨k + 1, by omega, by go_num, HBb⟩
                  case measure => simp [intOf]; omega
                · obtain rfl : k = 10 := by omega
                  have hdk : decide (((10 : Nat) : Int) < 10) = false := by simp
                  rename World => wq
                  have B9 := Lib.hid (Below.chain B1.out HBr.out)
                  cases three with
                  | false =>
                    go_wp2
                    go_ret
                    exact ⟨rfl, B9.out⟩
                  | true =>
                    obtain ⟨hc0, hc1⟩ := CF.out (by trivial)
                    have hcd : decide (0 ≤ cn) = true := decide_eq_true hc0
                    by_cases hs : 0 < sz
                    · have hsd : decide (0 < sz) = true := decide_eq_true hs
                      go_wp2
                      go_ret
                      exact ⟨rfl, B9.out⟩
                    · have hsd : decide (0 < sz) = false := decide_eq_false hs
                      have hc2 : cn = 1 := by rcases hc1 with h | h; exact absurd h hs; exact h
                      subst hc2
                      go_wp2
                      go_ret
                      exact ⟨rfl, B9.out⟩
end Go.Proofs.Ytfbnmkpkihfocaa
