/- Texts of this claim, gathered: NewB, DrawB. -/
import Derived.Test.YtfbnmkpkihfocaaK11
import Derived.Laws.IdiomCopy
import Derived.Lib.SlBuf
namespace Go.Proofs.Ytfbnmkpkihfocaa
open Go.RowKit
set_option linter.unusedVariables false
set_option linter.unusedSimpArgs false
set_option maxRecDepth 100000
theorem size_setCells : ∀ (vs : List Value) (w : World) (b o : Nat), (w.setCells b o vs).heap.size = w.heap.size
  | [], _, _, _ => rfl
  | v :: r, w, b, o => (size_setCells r _ b (o + 1)).trans (by simp [World.setCell])
theorem zero_len : zeroI.length = 19 := by simp [zeroI]
theorem zero_range (w : World) : (w.alloc (.cells zBA 50)).rangeAt w.heap.size 0 (ints zeroI) := range_new w (ints zeroI) 50
/-- so many cells of a row, and none behind them -/
def padTo (r : List Int) (k : Nat) : List Int := r.take k ++ List.replicate (19 - k) 0
theorem padTo_zero (r : List Int) : padTo r 0 = zeroI := by simp [padTo, zeroI]
theorem padTo_all (r : List Int) : padTo r r.length = padB r := by simp [padTo, padB]
theorem padTo_len {r : List Int} {k : Nat} (h : k ≤ r.length) (h6 : r.length ≤ 6) : (padTo r k).length = 19 := by simp [padTo]; omega
theorem padTo_succ {r : List Int} {k : Nat} {x : Int} (hx : r[k]? = some x) (h6 : r.length ≤ 6) : (padTo r k).set k x = padTo r (k + 1) := by
  have hk := (List.getElem?_eq_some_iff.1 hx).1
  unfold padTo
  rw [take_snoc hx, List.set_append, if_neg (by rw [List.length_take]; omega), show 19 - k = (19 - (k + 1)) + 1 by omega, List.replicate_succ]
  have e : k - (r.take k).length = 0 := by rw [List.length_take]; omega
  rw [e]
  simp
theorem range_pad {w : World} {g : Nat} {r : List Int} (h6 : r.length ≤ 6) (hr : w.rangeAt g 0 (ints zeroI)) (ht : w.there g 0 19) : (w.setCells g 0 (ints r)).rangeAt g 0 (ints (padB r)) := by
  have hl : (ints r).length = r.length := by simp [ints]
  have e : ints (padB r) = ints r ++ ints (List.replicate (19 - r.length) 0) := by simp [ints, padB]
  rw [e]
  refine range_append (World.rangeAt_setCells_same w g 0 (ints r) (there_sub ht (by omega) (by omega))) ?_
  rw [hl]
  have h2 := range_sub hr r.length (19 - r.length)
  have e2 : ((ints zeroI).drop r.length).take (19 - r.length) = ints (List.replicate (19 - r.length) 0) := by
    unfold zeroI ints
    rw [List.map_replicate, List.map_replicate, List.drop_replicate, List.take_replicate, Nat.min_self]
  rw [e2] at h2
  exact World.rangeAt_setCells_apart h2 g 0 (ints r) (.inr (.inr (by omega)))
theorem copy_row {w : World} {g : Nat} {v : Value} {r : List Int} (hv : Ints w v r) (h6 : r.length ≤ 6) (ht : w.there g 0 19) :
    (Builtin.copy_ #[27, 27] 3 #[.slice (some ⟨g, 0, none⟩) 6 6, v]).run Try.prog w = .ok (goInt r.length) (w.setCells g 0 (ints r)) := by
  have hl : (ints r).length = r.length := by simp [ints]
  obtain ⟨a, c, rfl, _, _, HC⟩ := hv.parts
  have hn : (ints r).length = Nat.min r.length 6 := by rw [show (ints r).length = r.length by simp [ints]]; exact (Nat.min_eq_left h6).symm
  cases a with
  | none =>
    have hx : r = [] := by
      cases r with
      | nil => rfl
      | cons x t =>
        obtain ⟨b, off, e2, _⟩ := HC.out 0 x rfl
        cases e2
    subst hx
    exact run_copy_none w 27 27 3 3 (some ⟨g, 0, none⟩) none 6 6 0 c Try.underlying27 (by kernel_rfl) rfl
  | some ad =>
    have h := run_copy_cells (P := Try.prog) w 27 27 3 3 g 0 6 6 ad r.length c (ints r) Try.underlying27 (by kernel_rfl) hn (ints_cells hv)
      (fun j hj => (ht j (by rw [hl] at hj; omega)).1) (fun j hj => (ht j (by rw [hl] at hj; omega)).2) ints_one
    rw [show (ints r).length = r.length by simp [ints]] at h
    exact h
set_option maxHeartbeats 1600000 in
theorem NewBench_c (v : Value) (xs : List Int) (w : World) (hv : Ints w v xs) :
    Calls Try.prog 28 #[v] w fun e w' => e = .returned (mkV (nbB xs) (rowB xs)) ∧ Below w.heap.size w w' := by
  have HV := Lib.hid hv
  obtain ⟨a, c, rfl, _, _, _⟩ := hv.parts
  have HR := Lib.hid (fun w h => IsRow_c (.slice a xs.length c) xs w h)
  have t0 := there_new w zBA 50 (n := 19) (by decide)
  have hb0 := below_one (w := w) zB
  have hz := zero_len
  clear hv
  rcases hq : rowB xs with _ | _
  · have HF := Lib.hid (show nbB xs = zeroI by simp [nbB, hq])
    have HQ := Lib.hid hq; clear hq
    unfold mkV aggI
    unfold zBA zB at *
    have HV0 := Lib.hid (HV.out.below hb0)
    go_enter Try.func28, Try.ntmps28
    go_wp2_with fail
    refine (HR.out _ HV0.out).mono ?_
    rintro e w1 ⟨rfl, hb1⟩
    rw [HQ.out]
    have t1 := there_below t0 hb1
    have hb2 := Below.chain hb0 hb1
    have K5 := loadVarB (World.rangeAt_setCells_same w1 w.heap.size 0 (ints zeroI) (by simpa [hz] using t1)) hz
    have K6 := below_cells (ints zeroI) w1 w.heap.size 0 hb2 (by omega)
    clear t0 hb0 hb1
    go_wp2_with (refine wpList_storeB rfl _ _ rfl _ zeroI rfl rfl t1 hz ?_)
    exact bodyPost_ret (v := mkV zeroI false) (res_cell2 Try.results28 rfl K5) rfl ⟨by rw [HF.out]; rfl, K6⟩
  · have HF := Lib.hid (show nbB xs = padB xs by simp [nbB, hq])
    have HQ := Lib.hid hq
    have h6 := rowB_len hq
    have hpl := padB_len h6
    clear hq
    have HV0 := Lib.hid (HV.out.below hb0)
    unfold mkV aggI
    unfold zB at *
    unfold zBA at *
    go_enter Try.func28, Try.ntmps28
    go_wp2_with fail
    refine (HR.out _ HV0.out).mono ?_
    rintro e w1 ⟨rfl, hb1⟩
    rw [HQ.out]
    have t1 := World.there_alloc (there_below t0 hb1) zB
    have hb2 := Below.alc (Below.chain hb0 hb1) zB
    have hne : w.heap.size ≠ w1.heap.size := by have := hb1.size; simp at this; omega
    have t2 := there_new w1 zBA 50 (n := 19) (by decide)
    have r2 := zero_range w1
    have HV1 : Ints (w1.alloc zB) (.slice a xs.length c) xs := (HV0.out.below hb1).below (below_one _)
    have hcp := copy_row HV1 h6 t2
    have r3 := range_pad h6 r2 t2
    have b3 := below_cells (ints xs) (w1.alloc zB) w1.heap.size 0 hb2 (by have := hb1.size; simp at this; omega)
    have t3 := World.there_setCells t1 w1.heap.size 0 (ints xs)
    clear t0 hb0 hb1 t1 t2 r2 hb2
    unfold zB at *
    unfold zBA at *
    go_wp2_with (first | (at_builtin; refine Lib.wpList_copy_run _ rfl _ _ 27 27 rfl _ _ rfl rfl hcp ?_) | (refine wpList_loadB rfl _ rfl _ rfl _ r3 hpl ?_) | (refine wpList_storeB rfl _ _ rfl _ (padB xs) rfl rfl t3 hpl ?_))
    have K5 := loadVarB (World.rangeAt_setCells_same _ w.heap.size 0 (ints (padB xs)) (by simpa [hpl] using t3)) hpl
    have K6 := below_cells (ints (padB xs)) _ w.heap.size 0 b3 (by omega)
    exact bodyPost_ret (v := mkV (padB xs) true) (res_cell2 Try.results28 rfl K5) rfl ⟨by rw [HF.out]; rfl, K6⟩
set_option maxHeartbeats 1600000 in
theorem sNewBench_c (v : Value) (xs : List Int) (w : World) (hv : Ints w v xs) :
    Calls Try.prog 29 #[v] w fun e w' => e = .returned (mkV (nbB xs) (rowB xs)) ∧ Below w.heap.size w w' := by
  have HV := Lib.hid hv
  obtain ⟨a, c, rfl, _, _, _⟩ := hv.parts
  have HR := Lib.hid (fun w h => l2Row_c (.slice a xs.length c) xs w h)
  have t0 : ((w.alloc zB).alloc zB).there w.heap.size 0 19 := World.there_alloc (there_new w zBA 50 (n := 19) (by decide)) zB
  have u0 : ((w.alloc zB).alloc zB).there (w.heap.size + 1) 0 19 := by
    have := there_new (w.alloc zB) zBA 50 (n := 19) (by decide)
    rw [World.size_alloc] at this
    exact this
  have hzl : (ints zeroI).length = 19 := by simp [ints, zero_len]
  have hb0 : Below w.heap.size w ((w.alloc zB).alloc zB) := by (repeat (first | exact Below.refl _ _ | exact (Below.refl _ _).drew | assumption | exact below_one _ | refine Below.chain ?_ (by assumption) | refine Below.drew ?_ | refine Below.alc ?_ _ | refine below_drewN ?_ | (refine Below.setCell ?_ ?_ _) | exact Nat.le_refl _ | (simp; done) | (simp; omega)))
  have hz := zero_len
  have HV0 := Lib.hid (HV.out.below hb0)
  have r0 := World.rangeAt_setCells_same ((w.alloc zB).alloc zB) (w.heap.size + 1) 0 (ints zeroI) (by rw [hzl]; exact u0)
  have t1 := World.there_setCells t0 (w.heap.size + 1) 0 (ints zeroI)
  have u1 := World.there_setCells u0 (w.heap.size + 1) 0 (ints zeroI)
  have hb1 := below_cells (ints zeroI) ((w.alloc zB).alloc zB) (w.heap.size + 1) 0 hb0 (by omega)
  have HV1 : Hid (Ints (((w.alloc zB).alloc zB).setCells (w.heap.size + 1) 0 (ints zeroI)) (.slice a xs.length c) xs) := HV.out.below hb1
  clear hv HV0
  have hs1 : w.heap.size + 1 < (((w.alloc zB).alloc zB).setCells (w.heap.size + 1) 0 (ints zeroI)).heap.size := by rw [size_setCells]; simp
  unfold mkV aggI
  unfold zB at *
  try unfold zBA at *
  rcases hq : rowB xs with _ | _
  · have HF := Lib.hid (show nbB xs = zeroI by simp [nbB, hq])
    have HQ := Lib.hid hq; clear hq
    go_enter Try.func29, Try.ntmps29
    go_wp2_with (refine wpList_storeB rfl _ _ rfl _ zeroI rfl rfl ?_ hz ?_; exact u0)
    refine (HR.out _ HV1.out).mono ?_
    rintro e w1 ⟨rfl, hb2⟩
    rw [HQ.out]
    have r2 := range_below r0 hb2
    have t2 := there_below t1 hb2
    have hb3 := Below.chain hb1 hb2
    have K5 := loadVarB (World.rangeAt_setCells_same w1 w.heap.size 0 (ints zeroI) (by simpa [hz] using t2)) hz
    have K6 := below_cells (ints zeroI) w1 w.heap.size 0 hb3 (by omega)
    clear t0 u0 hb0 r0 t1 u1 hb1 hb2 hs1
    go_wp2_with (first | (refine wpList_loadB rfl _ rfl _ rfl _ r2 hz ?_) | (refine wpList_storeB rfl _ _ rfl _ zeroI rfl rfl t2 hz ?_))
    exact bodyPost_ret (v := mkV zeroI false) (res_cell2 Try.results29 rfl K5) rfl ⟨by rw [HF.out]; rfl, K6⟩
  · have HF := Lib.hid (show nbB xs = padB xs by simp [nbB, hq])
    have HQ := Lib.hid hq
    have h6 := rowB_len hq
    have hpl := padB_len h6
    clear hq
    go_enter Try.func29, Try.ntmps29
    go_wp2_with (refine wpList_storeB rfl _ _ rfl _ zeroI rfl rfl ?_ hz ?_; exact u0)
    refine (HR.out _ HV1.out).mono ?_
    rintro e w1 ⟨rfl, hb2⟩
    rw [HQ.out]
    have r2 := range_below r0 hb2
    have t2 := there_below t1 hb2
    have u2 := there_below u1 hb2
    have hb3 := Below.chain hb1 hb2
    have HV2 := Lib.hid (HV1.out.below hb2)
    have hs2 := Nat.lt_of_lt_of_le hs1 hb2.size
    clear t0 u0 hb0 r0 t1 u1 hb1 hb2 hs1 HV1
    go_wp2
    go_loopw [5] (fun j wr => ∃ k : Nat, k ≤ xs.length ∧ j = .int .i64 (k : Int) ∧ wr.rangeAt (w.heap.size + 1) 0 (ints (padTo xs k)) ∧ wr.there w.heap.size 0 19 ∧ wr.there (w.heap.size + 1) 0 19 ∧ Below w.heap.size w wr) (fun j _ => 7 - (intOf j).toNat)
    case atStart => exact ⟨0, by omega, rfl, by rw [padTo_zero]; exact r2, t2, u2, hb3⟩
    case round =>
      obtain ⟨k, hk, rfl, hr, ht, hu, hb⟩ := hrel
      by_cases hlt : k < xs.length
      · have hd : decide ((k : Int) < (xs.length : Int)) = true := by simp; omega
        obtain ⟨x, hxx⟩ := elem_at hlt
        obtain ⟨_, _, he, _, _, H2⟩ := (HV.out.below hb).parts
        simp only [Value.slice.injEq, true_and] at he
        obtain ⟨rfl, rfl⟩ := he
        obtain ⟨b, off, rfl, hc⟩ := H2.out k x hxx.out
        have n0 : (0 : Int) ≤ (k : Int) := by omega
        have n1 : (k : Int) < 6 := by omega
        have g0 := there_froz hu (j := k) (by omega)
        obtain ⟨z0, g1⟩ := there_some hu (j := k) (by omega)
        have R : Hid ((wr.setCell ⟨w.heap.size + 1, k, none⟩ (.int .i64 x)).rangeAt (w.heap.size + 1) 0 (ints (padTo xs (k + 1)))) := by
          show World.rangeAt _ _ _ _
          rw [← padTo_succ hxx.out h6]
          exact range_set hr x (by rw [padTo_len hk h6]; omega)
        have T1 := Lib.hid (there_set ht (w.heap.size + 1) k (.int .i64 x))
        have T2 := Lib.hid (there_set hu (w.heap.size + 1) k (.int .i64 x))
        have BW := Lib.hid (hb.setCell (p := ⟨w.heap.size + 1, k, none⟩) (by simp) (.int .i64 x))
        clear hr ht hu hb H2
        go_wp2
        go_roundw
        case rel => exact ⟨k + 1, by omega, by go_num, R.out, T1.out, T2.out, BW.out⟩
        case measure => simp [intOf]; omega
      · obtain rfl : k = xs.length := by omega
        rw [padTo_all] at hr
        have K5 := loadVarB (World.rangeAt_setCells_same wr w.heap.size 0 (ints (padB xs)) (by simpa [hpl] using ht)) hpl
        have K6 := below_cells (ints (padB xs)) wr w.heap.size 0 hb (by omega)
        go_wp2_with (first | (refine wpList_loadB rfl _ rfl _ rfl _ hr hpl ?_) | (refine wpList_storeB rfl _ _ rfl _ (padB xs) rfl rfl ht hpl ?_))
        exact bodyPost_ret (v := mkV (padB xs) true) (res_cell2 Try.results29 rfl K5) rfl ⟨by rw [HF.out]; rfl, K6⟩
end Go.Proofs.Ytfbnmkpkihfocaa
namespace Go.Proofs.Ytfbnmkpkihfocaa
open Go.RowKit
set_option linter.unusedVariables false
set_option linter.unusedSimpArgs false
set_option maxRecDepth 100000
theorem Bk.range {w : World} {g t : Nat} {b : List Value} (h : Bk w g t b.toArray) : w.rangeAt g 0 b := fun j v hv => by
  rw [Nat.zero_add, h.cell j]; simpa using hv
theorem Bk.there {w : World} {g t : Nat} {cs : Array Value} (h : Bk w g t cs) {n : Nat} (hn : n ≤ cs.size) : w.there g 0 n := fun j hj => by
  rw [Nat.zero_add]
  exact ⟨by rw [h.cell j, Array.getElem?_eq_getElem (by omega)]; rfl, h.frozen j⟩
def putA (cs : Array Value) : Nat → List Value → Array Value
  | _, [] => cs
  | o, v :: r => putA (cs.setIfInBounds o v) (o + 1) r
theorem Bk.puts : ∀ (vs : List Value) {w : World} {g t : Nat} {cs : Array Value} (o : Nat), Bk w g t cs → Bk (w.setCells g o vs) g t (putA cs o vs)
  | [], _, _, _, _, _, h => h
  | v :: r, _, _, _, _, o, h => Bk.puts r (o + 1) (h.set o v)
theorem putA_list : ∀ (vs m l : List Value), m.length = vs.length → putA (l ++ m).toArray l.length vs = (l ++ vs).toArray
  | [], m, l, h => by
    have : m = [] := List.eq_nil_of_length_eq_zero h
    subst this
    rfl
  | v :: r, [], l, h => by cases h
  | v :: r, x :: m, l, h => by
    have e : ((l ++ x :: m).toArray.setIfInBounds l.length v) = ((l ++ [v]) ++ m).toArray := by
      simp [List.set_append]
    have ih := putA_list r m (l ++ [v]) (by simpa using h)
    show putA ((l ++ x :: m).toArray.setIfInBounds l.length v) (l.length + 1) r = _
    rw [e, show l.length + 1 = (l ++ [v]).length by simp, ih]
    simp
theorem Bk.putB {w : World} {g t : Nat} {b Y : List Int} (h : Bk w g t (ints b).toArray) (hb : b.length = 19) (hY : Y.length = 19) : Bk (w.setCells g 0 (ints Y)) g t (ints Y).toArray := by
  have h2 := h.puts (ints Y) 0
  have e := putA_list (ints Y) (ints b) [] (by simp [ints, hb, hY])
  simp only [List.nil_append, List.length_nil] at e
  rw [e] at h2
  exact h2
theorem Bk.far : ∀ (vs : List Value) {w : World} {g t : Nat} {cs : Array Value} {g2 : Nat} (o : Nat), Bk w g t cs → g ≠ g2 → Bk (w.setCells g2 o vs) g t cs
  | [], _, _, _, _, _, _, h, _ => h
  | v :: r, _, _, _, _, _, o, h, hn => Bk.far r (o + 1) (h.other (p := ⟨_, o, none⟩) hn v) hn
theorem CStep.puts : ∀ (vs : List Value) {a b : World} {g m : Nat} {g2 : Nat} (o : Nat), CStep a b g m → g < a.heap.size → a.heap.size ≤ g2 → CStep a (b.setCells g2 o vs) g m
  | [], _, _, _, _, _, _, h, _, _ => h
  | v :: r, _, _, _, _, g2, o, h, hga, hp => CStep.puts r (o + 1) (h.store hga (p := ⟨g2, o, none⟩) hp v) hga hp
theorem Bk.setI {w : World} {g t : Nat} {b : List Int} (h : Bk w g t (ints b).toArray) (j : Nat) (x : Int) : Bk (w.setCell ⟨g, j, none⟩ (.int .i64 x)) g t (ints (b.set j x)).toArray := by
  have h2 := h.set j (.int .i64 x)
  rw [ints_set]
  simpa using h2
theorem zero_arr : (ints zeroI).toArray = zBA := rfl
theorem ints_size {b : List Int} (h : b.length = 19) : (ints b).toArray.size = 19 := by simp [ints, h]
/-- What a draw of a Bench gives. -/
def DrawB (w : World) (g m : Nat) (e : Ending) (w' : World) : Prop := ∃ b : List Int, b.length = 19 ∧ e = .returned (aggI b) ∧ CStep w w' g m

set_option maxHeartbeats 8000000 in
theorem bench_c (g m : Nat) (w : World) (h : CurAt w g m) (hm : m + 420 < 4611686018427387904) :
    Calls Try.prog 74 #[.pointer (some ⟨g, 0, none⟩)] w (DrawB w g (m + 420)) := by
  have hga := h.lt
  have T0 := Lib.hid (Bk.new w 50 zBA)
  have HC := Lib.hid ((CStep.refl h).alloc (.cells zBA 50))
  clear h
  unfold DrawB
  go_enter Try.func74, Try.ntmps74
  go_wp2_with fail
  refine (digits_d g m _ HC.out.cur (by omega)).mono ?_
  rintro e w1 ⟨v, xs, rfl, hlx, ho, hs⟩
  have HS1 := Lib.hid (HC.out.trans hs)
  have T1 := Lib.hid (T0.out.step hs (by omega))
  have HI := Lib.hid (Ints.of_own ho)
  clear hs ho T0 HC hlx
  go_wp2_with fail
  refine (sNewBench_c v xs _ HI.out).mono ?_
  rintro e w2 ⟨rfl, hb⟩
  have hl := nbB_len xs
  have HG : Hid (rowB xs = true → goodB (nbB xs) = true) := nbB_good
  generalize nbB xs = b0 at *
  generalize rowB xs = okb at *
  have HS2 := Lib.hid ((HS1.out.below hb).alloc (.cells zBA 50))
  have T2 := Lib.hid ((T1.out.below hb).alloc (.cells zBA 50))
  have R2 := Lib.hid (Bk.new w2 50 zBA)
  have hgl : g < w2.heap.size := by have := (HS1.out.below hb).cur.lt; exact this
  have hrl : w.heap.size < w2.heap.size := by have := (T1.out.below hb).lt; exact this
  have rt := R2.out.there (n := 19) (by decide)
  have HS3 := Lib.hid (HS2.out.puts (ints b0) (g2 := w2.heap.size) 0 hga (by omega))
  have T3 := Lib.hid (T2.out.far (ints b0) (g2 := w2.heap.size) 0 (by omega))
  have R3 : Hid (Bk ((w2.alloc (.cells zBA 50)).setCells w2.heap.size 0 (ints b0)) w2.heap.size 50 (ints b0).toArray) := Bk.putB (b := zeroI) R2.out zero_len hl
  clear hb HS1 T1 HI HS2 T2 R2
  unfold mkV aggI
  unfold zBA at *
  go_wp2_with (refine wpList_storeB rfl _ _ rfl _ b0 rfl rfl ?_ hl ?_; exact rt)
  generalize hO : w2.heap.size = O at *
  generalize World.setCells _ O 0 (ints b0) = w3 at *
  clear rt hO
  refine (pick_c 8 g _ _ HS3.out.cur (by omega)).mono ?_
  rintro e w4 ⟨x, rfl, hx, hs⟩
  have HS4 := Lib.hid (HS3.out.trans hs)
  have R4 := Lib.hid (R3.out.step hs (by omega))
  have T4 := Lib.hid (T3.out.step hs (by omega))
  obtain ⟨n, rfl⟩ := Int.eq_ofNat_of_zero_le hx.1
  have hn : n ≤ 7 := by have := hx.2 (by omega); omega
  clear hs hx HS3 R3 T3
  go_wp2
  go_loopw [5] (fun j wr => ∃ (k : Nat) (b : List Int), k ≤ 7 ∧ j = .int .i64 (k : Int) ∧ b.length = 19 ∧ Hid (okb = true → goodB b = true) ∧ Hid (Bk wr O 50 (ints b).toArray) ∧ Hid (Bk wr w.heap.size 50 (ints zeroI).toArray) ∧ Hid (CStep w wr g (m + 240 + 20 * (7 - k)))) (fun j _ => (intOf j).toNat)
  case atStart => exact ⟨n, b0, hn, rfl, hl, HG, R4, T4, HS4.out.mono (by omega)⟩
  case round =>
    obtain ⟨k, b, hk, rfl, hl, HGb, RR, TT, CC⟩ := hrel
    rcases hgo : (decide (0 < k) && okb) with _ | _
    rotate_left
    · simp only [Bool.and_eq_true, decide_eq_true_eq] at hgo
      obtain ⟨hk0, rfl⟩ := hgo
      have hg := HGb.out rfl
      have hd : decide (0 < (k : Int)) = true := by simp; omega
      have R_wr := RR.out
      have T_wr := TT.out
      have C_wr := CC.out
      clear RR TT CC HGb
      go_wp2_with fail
      have R_wd := R_wr.drew
      have T_wd := T_wr.drew
      have C_wd := C_wr.drew
      refine wp_region_held_drew (S := fun w' : World => Bk w' O 50 (ints b).toArray) (by kernel_rfl) R_wd (fun hHeld => ?_)
      generalize World.drew _ = wd at *
      clear R_wr T_wr C_wr
      refine' wpAnyH_take (i := 0) (oi := _) (v := _) ?e_t1 ?a_t1 ?b_t1 ?c_t1 ?q_t1 ?y_t1 hHeld ?r_t1
      case e_t1 => (simp only [List.getElem?_toArray, List.getElem?_cons_zero, List.getElem?_cons_succ]; exact rfl)
      case a_t1 => kernel_rfl
      case b_t1 => kernel_rfl
      case c_t1 => kernel_rfl
      case q_t1 => exact fun _ _ _ h => h
      case y_t1 =>
        refine' yieldsIf_load_mid ?hw_t1 _ _ rfl _ _ rfl (ints b) _ ?hS_t1 ?hu_t1 ?hd_t1 ?hi_t1
        case hw_t1 => rfl
        case hS_t1 => exact fun (w' : World) (h : Bk w' O 50 (ints b).toArray) => h.range
        case hu_t1 => exact Try.underlying50
        case hd_t1 => rfl
        case hi_t1 => exact hi19 hl
      try simp only [Act.put, List.setIfInBounds_toArray, List.set_cons_zero, List.set_cons_succ]
      refine' wpAnyH_take (i := 1) (oi := _) (v := _) ?e_t2 ?a_t2 ?b_t2 ?c_t2 ?q_t2 ?y_t2 hHeld ?r_t2
      case e_t2 => (simp only [List.getElem?_toArray, List.getElem?_cons_zero, List.getElem?_cons_succ]; exact rfl)
      case a_t2 => kernel_rfl
      case b_t2 => kernel_rfl
      case c_t2 => kernel_rfl
      case q_t2 => exact fun _ _ _ h => h
      case y_t2 => exact Or.inl ⟨by rfl, by (intro w hSw; (try dsimp only at hSw); go_simp; first | done | with_reducible rfl)⟩
      try simp only [Act.put, List.setIfInBounds_toArray, List.set_cons_zero, List.set_cons_succ]
      refine wpAnyH_ready (rs := [2, 7]) (by kernel_rfl) (by simp) ?_
      refine' AllReadyH.cons (o := _) ?e_k3 ?st_k3 ?more_k3
      case e_k3 => (simp only [List.getElem?_toArray, List.getElem?_cons_zero, List.getElem?_cons_succ]; exact rfl)
      case st_k3 =>
        intro K hK
        go_simp
        refine (job12_c g _ wd C_wd.cur (by omega)).mono ?_
        rintro e wc4 ⟨jk, ja, jb, rfl, hs⟩
        have R_wc4 := R_wd.step hs (by omega)
        have T_wc4 := T_wd.step hs (by omega)
        have C_wc4 := C_wd.trans hs
        clear R_wd T_wd C_wd hs
        go_wp2_with fail
        refine hK.out _ _ R_wc4 (fun hHeld => ?_)
        clear hK K
        try simp only [Act.put, List.setIfInBounds_toArray, List.set_cons_zero, List.set_cons_succ]
        refine wpAnyH_ready (rs := [3, 7]) (by kernel_rfl) (by simp) ?_
        refine' AllReadyH.cons (o := _) ?e_k5 ?st_k5 ?more_k5
        case e_k5 => (simp only [List.getElem?_toArray, List.getElem?_cons_zero, List.getElem?_cons_succ]; exact rfl)
        case st_k5 =>
          intro K hK
          go_simp
          have hY := jobB_len hl hg jk ja jb
          have HY2 : Hid (possB b jk ja jb = true → goodB (jobB b jk ja jb) = true) := fun hp => by unfold jobB; rw [if_pos hp]; exact (poss_good hl hg hp).1
          have HDo := fun W => l12Do_c b jk ja jb W hl hg
          unfold jobsV at HDo
          generalize jobB b jk ja jb = Y at *
          generalize possB b jk ja jb = ok at *
          refine (HDo _).mono ?_
          clear HDo
          rintro e wd6 ⟨rfl, hb2⟩
          have R_wd6 := R_wc4.below hb2
          have T_wd6 := T_wc4.below hb2
          have C_wd6 := C_wc4.below hb2
          clear R_wc4 T_wc4 C_wc4 hb2
          unfold mkV aggI
          go_wp2_with fail
          refine hK.out _ _ R_wd6 (fun hHeld => ?_)
          clear hK K
          try simp only [Act.put, List.setIfInBounds_toArray, List.set_cons_zero, List.set_cons_succ]
          refine' wpAnyH_take (i := 4) (oi := _) (v := _) ?e_t7 ?a_t7 ?b_t7 ?c_t7 ?q_t7 ?y_t7 hHeld ?r_t7
          case e_t7 => (simp only [List.getElem?_toArray, List.getElem?_cons_zero, List.getElem?_cons_succ]; exact rfl)
          case a_t7 => kernel_rfl
          case b_t7 => kernel_rfl
          case c_t7 => kernel_rfl
          case q_t7 => exact fun _ _ _ h => h
          case y_t7 => exact Or.inl ⟨by rfl, by (intro w hSw; (try dsimp only at hSw); go_simp; first | done | with_reducible rfl)⟩
          try simp only [Act.put, List.setIfInBounds_toArray, List.set_cons_zero, List.set_cons_succ]
          refine' wpAnyH_take (i := 5) (oi := _) (v := _) ?e_t8 ?a_t8 ?b_t8 ?c_t8 ?q_t8 ?y_t8 hHeld ?r_t8
          case e_t8 => (simp only [List.getElem?_toArray, List.getElem?_cons_zero, List.getElem?_cons_succ]; exact rfl)
          case a_t8 => kernel_rfl
          case b_t8 => kernel_rfl
          case c_t8 => kernel_rfl
          case q_t8 => exact fun _ _ _ h => h
          case y_t8 => exact Or.inl ⟨by rfl, by (intro w hSw; (try dsimp only at hSw); go_simp; first | done | with_reducible rfl)⟩
          try simp only [Act.put, List.setIfInBounds_toArray, List.set_cons_zero, List.set_cons_succ]
          refine' wpAnyH_take (i := 6) (oi := _) (v := _) ?e_t9 ?a_t9 ?b_t9 ?c_t9 ?q_t9 ?y_t9 hHeld ?r_t9
          case e_t9 => (simp only [List.getElem?_toArray, List.getElem?_cons_zero, List.getElem?_cons_succ]; exact rfl)
          case a_t9 => kernel_rfl
          case b_t9 => kernel_rfl
          case c_t9 => kernel_rfl
          case q_t9 => exact fun _ _ _ h => h
          case y_t9 => exact Or.inl ⟨by rfl, by (intro w hSw; (try dsimp only at hSw); go_simp; first | done | with_reducible rfl)⟩
          try simp only [Act.put, List.setIfInBounds_toArray, List.set_cons_zero, List.set_cons_succ]
          refine wpAnyH_ready (rs := [7]) (by kernel_rfl) (by simp) ?_
          refine' AllReadyH.cons (o := _) ?e_k10 ?st_k10 AllReadyH.nil
          case e_k10 => (simp only [List.getElem?_toArray, List.getElem?_cons_zero, List.getElem?_cons_succ]; exact rfl)
          case st_k10 =>
            intro K hK
            go_simp
            have R_wa11 := R_wd6.alloc (.cells zBA 50)
            have T_wa11 := T_wd6.alloc (.cells zBA 50)
            have C_wa11 := C_wd6.alloc (.cells zBA 50)
            have A_wa11 : Bk (wd6.alloc (.cells zBA 50)) wd6.heap.size 50 (ints zeroI).toArray := Bk.new wd6 50 zBA
            have hq0 := C_wd6.gr.size
            have hoa := Nat.ne_of_lt R_wd6.lt
            have htq := T_wd6.lt
            unfold zBA at *
            generalize wd6.heap.size = q at *
            generalize World.alloc _ _ = wa11 at *
            clear R_wd6 T_wd6 C_wd6
            refine hK.out _ _ R_wa11 (fun hHeld => ?_)
            clear hK K
            try simp only [Act.put, List.setIfInBounds_toArray, List.set_cons_zero, List.set_cons_succ]
            refine wpAnyH_ready (rs := [8]) (by kernel_rfl) (by simp) ?_
            refine' AllReadyH.cons (o := _) ?e_s12 ?st_s12 AllReadyH.nil
            case e_s12 => (simp only [List.getElem?_toArray, List.getElem?_cons_zero, List.getElem?_cons_succ]; exact rfl)
            intro K hK
            rw [if_pos (by rfl)]
            refine wp_store_mid _ _ _ rfl _ _ (ints Y).toArray rfl rfl (A_wa11.there (by rw [ints_size hY]; decide)) (by simpa using hi19 hY) (all_oneCell_toArray ints_one) ?_
            simp only [Act.put, List.setIfInBounds_toArray, List.set_cons_zero, List.set_cons_succ, List.toList_toArray]
            have A_ws13 := Bk.putB (b := zeroI) A_wa11 zero_len hY
            have R_ws13 := R_wa11.far (ints Y) 0 hoa
            have T_ws13 := T_wa11.far (ints Y) 0 (show w.heap.size ≠ q by omega)
            have C_ws13 := C_wa11.puts (ints Y) (g2 := q) 0 hga (by omega)
            clear R_wa11 T_wa11 C_wa11 A_wa11
            generalize World.setCells _ q 0 (ints Y) = ws13 at *
            refine hK.out _ _ R_ws13 (fun hHeld => ?_)
            clear hK K
            try simp only [Act.put, List.setIfInBounds_toArray, List.set_cons_zero, List.set_cons_succ]
            refine' wpAnyH_take (i := 9) (oi := _) (v := _) ?e_t14 ?a_t14 ?b_t14 ?c_t14 ?q_t14 ?y_t14 hHeld ?r_t14
            case e_t14 => (simp only [List.getElem?_toArray, List.getElem?_cons_zero, List.getElem?_cons_succ]; exact rfl)
            case a_t14 => kernel_rfl
            case b_t14 => kernel_rfl
            case c_t14 => kernel_rfl
            case q_t14 => exact fun _ _ _ h => h
            case y_t14 => exact Or.inl ⟨by rfl, by (intro w hSw; (try dsimp only at hSw); go_simp; first | done | with_reducible rfl)⟩
            try simp only [Act.put, List.setIfInBounds_toArray, List.set_cons_zero, List.set_cons_succ]
            refine wpAnyH_done (by kernel_rfl) ?_ _
            have RC := Lib.hid R_ws13
            have TC := Lib.hid T_ws13
            have AC := Lib.hid A_ws13
            have CC := Lib.hid (C_ws13.mono (show _ ≤ m + 240 + 20 * (7 - (k - 1)) by omega))
            clear R_ws13 T_ws13 C_ws13 A_ws13
            cases ok with
            | false =>
              as_aux_lemma =>
                go_wp2
                go_roundw
                case rel => exact ⟨k - 1, b, by omega, by go_num, hl, fun _ => hg, RC, TC, CC⟩
                case measure => simp [intOf]; omega
            | true =>
              as_aux_lemma =>
                have HYG := HY2.out rfl
                have ar := AC.out.range
                have rt := RC.out.there (n := 19) (by rw [ints_size hl]; decide)
                have RC2 := Lib.hid (Bk.putB RC.out hl hY)
                have TC2 := Lib.hid (TC.out.far (ints Y) (g2 := O) 0 (by omega))
                have CC2 := Lib.hid (CC.out.puts (ints Y) (g2 := O) 0 hga (by omega))
                go_wp2_with (first | (refine wpList_loadB rfl _ rfl _ rfl _ ar hY ?_) | (refine wpList_storeB rfl _ _ rfl _ Y rfl rfl rt hY ?_))
                go_roundw
                case rel => exact ⟨k - 1, Y, by omega, by go_num, hY, fun _ => HYG, RC2, TC2, CC2⟩
                case measure => simp [intOf]; omega
        case more_k5 =>
          refine' AllReadyH.cons (o := _) ?e_k15 ?st_k15 AllReadyH.nil
          case e_k15 => (simp only [List.getElem?_toArray, List.getElem?_cons_zero, List.getElem?_cons_succ]; exact rfl)
          case st_k15 =>
            intro K hK
            go_simp
            have R_wa16 := R_wc4.alloc (.cells zBA 50)
            have T_wa16 := T_wc4.alloc (.cells zBA 50)
            have C_wa16 := C_wc4.alloc (.cells zBA 50)
            have A_wa16 : Bk (wc4.alloc (.cells zBA 50)) wc4.heap.size 50 (ints zeroI).toArray := Bk.new wc4 50 zBA
            have hq0 := C_wc4.gr.size
            have hoa := Nat.ne_of_lt R_wc4.lt
            have htq := T_wc4.lt
            unfold zBA at *
            generalize wc4.heap.size = q at *
            generalize World.alloc _ _ = wa16 at *
            clear R_wc4 T_wc4 C_wc4
            refine hK.out _ _ R_wa16 (fun hHeld => ?_)
            clear hK K
            try simp only [Act.put, List.setIfInBounds_toArray, List.set_cons_zero, List.set_cons_succ]
            refine wpAnyH_ready (rs := [3]) (by kernel_rfl) (by simp) ?_
            refine' AllReadyH.cons (o := _) ?e_k17 ?st_k17 AllReadyH.nil
            case e_k17 => (simp only [List.getElem?_toArray, List.getElem?_cons_zero, List.getElem?_cons_succ]; exact rfl)
            case st_k17 =>
              intro K hK
              go_simp
              have hY := jobB_len hl hg jk ja jb
              have HY2 : Hid (possB b jk ja jb = true → goodB (jobB b jk ja jb) = true) := fun hp => by unfold jobB; rw [if_pos hp]; exact (poss_good hl hg hp).1
              have HDo := fun W => l12Do_c b jk ja jb W hl hg
              unfold jobsV at HDo
              generalize jobB b jk ja jb = Y at *
              generalize possB b jk ja jb = ok at *
              refine (HDo _).mono ?_
              clear HDo
              rintro e wd18 ⟨rfl, hb2⟩
              have R_wd18 := R_wa16.below hb2
              have T_wd18 := T_wa16.below hb2
              have A_wd18 := A_wa16.below hb2
              have C_wd18 := C_wa16.below hb2
              clear R_wa16 T_wa16 C_wa16 A_wa16 hb2
              unfold mkV aggI
              go_wp2_with fail
              refine hK.out _ _ R_wd18 (fun hHeld => ?_)
              clear hK K
              try simp only [Act.put, List.setIfInBounds_toArray, List.set_cons_zero, List.set_cons_succ]
              refine' wpAnyH_take (i := 4) (oi := _) (v := _) ?e_t19 ?a_t19 ?b_t19 ?c_t19 ?q_t19 ?y_t19 hHeld ?r_t19
              case e_t19 => (simp only [List.getElem?_toArray, List.getElem?_cons_zero, List.getElem?_cons_succ]; exact rfl)
              case a_t19 => kernel_rfl
              case b_t19 => kernel_rfl
              case c_t19 => kernel_rfl
              case q_t19 => exact fun _ _ _ h => h
              case y_t19 => exact Or.inl ⟨by rfl, by (intro w hSw; (try dsimp only at hSw); go_simp; first | done | with_reducible rfl)⟩
              try simp only [Act.put, List.setIfInBounds_toArray, List.set_cons_zero, List.set_cons_succ]
              refine' wpAnyH_take (i := 5) (oi := _) (v := _) ?e_t20 ?a_t20 ?b_t20 ?c_t20 ?q_t20 ?y_t20 hHeld ?r_t20
              case e_t20 => (simp only [List.getElem?_toArray, List.getElem?_cons_zero, List.getElem?_cons_succ]; exact rfl)
              case a_t20 => kernel_rfl
              case b_t20 => kernel_rfl
              case c_t20 => kernel_rfl
              case q_t20 => exact fun _ _ _ h => h
              case y_t20 => exact Or.inl ⟨by rfl, by (intro w hSw; (try dsimp only at hSw); go_simp; first | done | with_reducible rfl)⟩
              try simp only [Act.put, List.setIfInBounds_toArray, List.set_cons_zero, List.set_cons_succ]
              refine' wpAnyH_take (i := 6) (oi := _) (v := _) ?e_t21 ?a_t21 ?b_t21 ?c_t21 ?q_t21 ?y_t21 hHeld ?r_t21
              case e_t21 => (simp only [List.getElem?_toArray, List.getElem?_cons_zero, List.getElem?_cons_succ]; exact rfl)
              case a_t21 => kernel_rfl
              case b_t21 => kernel_rfl
              case c_t21 => kernel_rfl
              case q_t21 => exact fun _ _ _ h => h
              case y_t21 => exact Or.inl ⟨by rfl, by (intro w hSw; (try dsimp only at hSw); go_simp; first | done | with_reducible rfl)⟩
              try simp only [Act.put, List.setIfInBounds_toArray, List.set_cons_zero, List.set_cons_succ]
              refine wpAnyH_ready (rs := [8]) (by kernel_rfl) (by simp) ?_
              refine' AllReadyH.cons (o := _) ?e_s22 ?st_s22 AllReadyH.nil
              case e_s22 => (simp only [List.getElem?_toArray, List.getElem?_cons_zero, List.getElem?_cons_succ]; exact rfl)
              intro K hK
              rw [if_pos (by rfl)]
              refine wp_store_mid _ _ _ rfl _ _ (ints Y).toArray rfl rfl (A_wd18.there (by rw [ints_size hY]; decide)) (by simpa using hi19 hY) (all_oneCell_toArray ints_one) ?_
              simp only [Act.put, List.setIfInBounds_toArray, List.set_cons_zero, List.set_cons_succ, List.toList_toArray]
              have A_ws23 := Bk.putB (b := zeroI) A_wd18 zero_len hY
              have R_ws23 := R_wd18.far (ints Y) 0 hoa
              have T_ws23 := T_wd18.far (ints Y) 0 (show w.heap.size ≠ q by omega)
              have C_ws23 := C_wd18.puts (ints Y) (g2 := q) 0 hga (by omega)
              clear R_wd18 T_wd18 C_wd18 A_wd18
              generalize World.setCells _ q 0 (ints Y) = ws23 at *
              refine hK.out _ _ R_ws23 (fun hHeld => ?_)
              clear hK K
              try simp only [Act.put, List.setIfInBounds_toArray, List.set_cons_zero, List.set_cons_succ]
              refine' wpAnyH_take (i := 9) (oi := _) (v := _) ?e_t24 ?a_t24 ?b_t24 ?c_t24 ?q_t24 ?y_t24 hHeld ?r_t24
              case e_t24 => (simp only [List.getElem?_toArray, List.getElem?_cons_zero, List.getElem?_cons_succ]; exact rfl)
              case a_t24 => kernel_rfl
              case b_t24 => kernel_rfl
              case c_t24 => kernel_rfl
              case q_t24 => exact fun _ _ _ h => h
              case y_t24 => exact Or.inl ⟨by rfl, by (intro w hSw; (try dsimp only at hSw); go_simp; first | done | with_reducible rfl)⟩
              try simp only [Act.put, List.setIfInBounds_toArray, List.set_cons_zero, List.set_cons_succ]
              refine wpAnyH_done (by kernel_rfl) ?_ _
              have RC := Lib.hid R_ws23
              have TC := Lib.hid T_ws23
              have AC := Lib.hid A_ws23
              have CC := Lib.hid (C_ws23.mono (show _ ≤ m + 240 + 20 * (7 - (k - 1)) by omega))
              clear R_ws23 T_ws23 C_ws23 A_ws23
              cases ok with
              | false =>
                as_aux_lemma =>
                  go_wp2
                  go_roundw
                  case rel => exact ⟨k - 1, b, by omega, by go_num, hl, fun _ => hg, RC, TC, CC⟩
                  case measure => simp [intOf]; omega
              | true =>
                as_aux_lemma =>
                  have HYG := HY2.out rfl
                  have ar := AC.out.range
                  have rt := RC.out.there (n := 19) (by rw [ints_size hl]; decide)
                  have RC2 := Lib.hid (Bk.putB RC.out hl hY)
                  have TC2 := Lib.hid (TC.out.far (ints Y) (g2 := O) 0 (by omega))
                  have CC2 := Lib.hid (CC.out.puts (ints Y) (g2 := O) 0 hga (by omega))
                  go_wp2_with (first | (refine wpList_loadB rfl _ rfl _ rfl _ ar hY ?_) | (refine wpList_storeB rfl _ _ rfl _ Y rfl rfl rt hY ?_))
                  go_roundw
                  case rel => exact ⟨k - 1, Y, by omega, by go_num, hY, fun _ => HYG, RC2, TC2, CC2⟩
                  case measure => simp [intOf]; omega
      case more_k3 =>
        refine' AllReadyH.cons (o := _) ?e_k25 ?st_k25 AllReadyH.nil
        case e_k25 => (simp only [List.getElem?_toArray, List.getElem?_cons_zero, List.getElem?_cons_succ]; exact rfl)
        case st_k25 =>
          intro K hK
          go_simp
          have R_wa26 := R_wd.alloc (.cells zBA 50)
          have T_wa26 := T_wd.alloc (.cells zBA 50)
          have C_wa26 := C_wd.alloc (.cells zBA 50)
          have A_wa26 : Bk (wd.alloc (.cells zBA 50)) wd.heap.size 50 (ints zeroI).toArray := Bk.new wd 50 zBA
          have hq0 := C_wd.gr.size
          have hoa := Nat.ne_of_lt R_wd.lt
          have htq := T_wd.lt
          unfold zBA at *
          generalize wd.heap.size = q at *
          generalize World.alloc _ _ = wa26 at *
          clear R_wd T_wd C_wd
          refine hK.out _ _ R_wa26 (fun hHeld => ?_)
          clear hK K
          try simp only [Act.put, List.setIfInBounds_toArray, List.set_cons_zero, List.set_cons_succ]
          refine wpAnyH_ready (rs := [2]) (by kernel_rfl) (by simp) ?_
          refine' AllReadyH.cons (o := _) ?e_k27 ?st_k27 AllReadyH.nil
          case e_k27 => (simp only [List.getElem?_toArray, List.getElem?_cons_zero, List.getElem?_cons_succ]; exact rfl)
          case st_k27 =>
            intro K hK
            go_simp
            refine (job12_c g _ wa26 C_wa26.cur (by omega)).mono ?_
            rintro e wc28 ⟨jk, ja, jb, rfl, hs⟩
            have R_wc28 := R_wa26.step hs (by omega)
            have T_wc28 := T_wa26.step hs (by omega)
            have A_wc28 := A_wa26.step hs (by omega)
            have C_wc28 := C_wa26.trans hs
            clear R_wa26 T_wa26 C_wa26 A_wa26 hs
            go_wp2_with fail
            refine hK.out _ _ R_wc28 (fun hHeld => ?_)
            clear hK K
            try simp only [Act.put, List.setIfInBounds_toArray, List.set_cons_zero, List.set_cons_succ]
            refine wpAnyH_ready (rs := [3]) (by kernel_rfl) (by simp) ?_
            refine' AllReadyH.cons (o := _) ?e_k29 ?st_k29 AllReadyH.nil
            case e_k29 => (simp only [List.getElem?_toArray, List.getElem?_cons_zero, List.getElem?_cons_succ]; exact rfl)
            case st_k29 =>
              intro K hK
              go_simp
              have hY := jobB_len hl hg jk ja jb
              have HY2 : Hid (possB b jk ja jb = true → goodB (jobB b jk ja jb) = true) := fun hp => by unfold jobB; rw [if_pos hp]; exact (poss_good hl hg hp).1
              have HDo := fun W => l12Do_c b jk ja jb W hl hg
              unfold jobsV at HDo
              generalize jobB b jk ja jb = Y at *
              generalize possB b jk ja jb = ok at *
              refine (HDo _).mono ?_
              clear HDo
              rintro e wd30 ⟨rfl, hb2⟩
              have R_wd30 := R_wc28.below hb2
              have T_wd30 := T_wc28.below hb2
              have A_wd30 := A_wc28.below hb2
              have C_wd30 := C_wc28.below hb2
              clear R_wc28 T_wc28 C_wc28 A_wc28 hb2
              unfold mkV aggI
              go_wp2_with fail
              refine hK.out _ _ R_wd30 (fun hHeld => ?_)
              clear hK K
              try simp only [Act.put, List.setIfInBounds_toArray, List.set_cons_zero, List.set_cons_succ]
              refine' wpAnyH_take (i := 4) (oi := _) (v := _) ?e_t31 ?a_t31 ?b_t31 ?c_t31 ?q_t31 ?y_t31 hHeld ?r_t31
              case e_t31 => (simp only [List.getElem?_toArray, List.getElem?_cons_zero, List.getElem?_cons_succ]; exact rfl)
              case a_t31 => kernel_rfl
              case b_t31 => kernel_rfl
              case c_t31 => kernel_rfl
              case q_t31 => exact fun _ _ _ h => h
              case y_t31 => exact Or.inl ⟨by rfl, by (intro w hSw; (try dsimp only at hSw); go_simp; first | done | with_reducible rfl)⟩
              try simp only [Act.put, List.setIfInBounds_toArray, List.set_cons_zero, List.set_cons_succ]
              refine' wpAnyH_take (i := 5) (oi := _) (v := _) ?e_t32 ?a_t32 ?b_t32 ?c_t32 ?q_t32 ?y_t32 hHeld ?r_t32
              case e_t32 => (simp only [List.getElem?_toArray, List.getElem?_cons_zero, List.getElem?_cons_succ]; exact rfl)
              case a_t32 => kernel_rfl
              case b_t32 => kernel_rfl
              case c_t32 => kernel_rfl
              case q_t32 => exact fun _ _ _ h => h
              case y_t32 => exact Or.inl ⟨by rfl, by (intro w hSw; (try dsimp only at hSw); go_simp; first | done | with_reducible rfl)⟩
              try simp only [Act.put, List.setIfInBounds_toArray, List.set_cons_zero, List.set_cons_succ]
              refine' wpAnyH_take (i := 6) (oi := _) (v := _) ?e_t33 ?a_t33 ?b_t33 ?c_t33 ?q_t33 ?y_t33 hHeld ?r_t33
              case e_t33 => (simp only [List.getElem?_toArray, List.getElem?_cons_zero, List.getElem?_cons_succ]; exact rfl)
              case a_t33 => kernel_rfl
              case b_t33 => kernel_rfl
              case c_t33 => kernel_rfl
              case q_t33 => exact fun _ _ _ h => h
              case y_t33 => exact Or.inl ⟨by rfl, by (intro w hSw; (try dsimp only at hSw); go_simp; first | done | with_reducible rfl)⟩
              try simp only [Act.put, List.setIfInBounds_toArray, List.set_cons_zero, List.set_cons_succ]
              refine wpAnyH_ready (rs := [8]) (by kernel_rfl) (by simp) ?_
              refine' AllReadyH.cons (o := _) ?e_s34 ?st_s34 AllReadyH.nil
              case e_s34 => (simp only [List.getElem?_toArray, List.getElem?_cons_zero, List.getElem?_cons_succ]; exact rfl)
              intro K hK
              rw [if_pos (by rfl)]
              refine wp_store_mid _ _ _ rfl _ _ (ints Y).toArray rfl rfl (A_wd30.there (by rw [ints_size hY]; decide)) (by simpa using hi19 hY) (all_oneCell_toArray ints_one) ?_
              simp only [Act.put, List.setIfInBounds_toArray, List.set_cons_zero, List.set_cons_succ, List.toList_toArray]
              have A_ws35 := Bk.putB (b := zeroI) A_wd30 zero_len hY
              have R_ws35 := R_wd30.far (ints Y) 0 hoa
              have T_ws35 := T_wd30.far (ints Y) 0 (show w.heap.size ≠ q by omega)
              have C_ws35 := C_wd30.puts (ints Y) (g2 := q) 0 hga (by omega)
              clear R_wd30 T_wd30 C_wd30 A_wd30
              generalize World.setCells _ q 0 (ints Y) = ws35 at *
              refine hK.out _ _ R_ws35 (fun hHeld => ?_)
              clear hK K
              try simp only [Act.put, List.setIfInBounds_toArray, List.set_cons_zero, List.set_cons_succ]
              refine' wpAnyH_take (i := 9) (oi := _) (v := _) ?e_t36 ?a_t36 ?b_t36 ?c_t36 ?q_t36 ?y_t36 hHeld ?r_t36
              case e_t36 => (simp only [List.getElem?_toArray, List.getElem?_cons_zero, List.getElem?_cons_succ]; exact rfl)
              case a_t36 => kernel_rfl
              case b_t36 => kernel_rfl
              case c_t36 => kernel_rfl
              case q_t36 => exact fun _ _ _ h => h
              case y_t36 => exact Or.inl ⟨by rfl, by (intro w hSw; (try dsimp only at hSw); go_simp; first | done | with_reducible rfl)⟩
              try simp only [Act.put, List.setIfInBounds_toArray, List.set_cons_zero, List.set_cons_succ]
              refine wpAnyH_done (by kernel_rfl) ?_ _
              have RC := Lib.hid R_ws35
              have TC := Lib.hid T_ws35
              have AC := Lib.hid A_ws35
              have CC := Lib.hid (C_ws35.mono (show _ ≤ m + 240 + 20 * (7 - (k - 1)) by omega))
              clear R_ws35 T_ws35 C_ws35 A_ws35
              cases ok with
              | false =>
                as_aux_lemma =>
                  go_wp2
                  go_roundw
                  case rel => exact ⟨k - 1, b, by omega, by go_num, hl, fun _ => hg, RC, TC, CC⟩
                  case measure => simp [intOf]; omega
              | true =>
                as_aux_lemma =>
                  have HYG := HY2.out rfl
                  have ar := AC.out.range
                  have rt := RC.out.there (n := 19) (by rw [ints_size hl]; decide)
                  have RC2 := Lib.hid (Bk.putB RC.out hl hY)
                  have TC2 := Lib.hid (TC.out.far (ints Y) (g2 := O) 0 (by omega))
                  have CC2 := Lib.hid (CC.out.puts (ints Y) (g2 := O) 0 hga (by omega))
                  go_wp2_with (first | (refine wpList_loadB rfl _ rfl _ rfl _ ar hY ?_) | (refine wpList_storeB rfl _ _ rfl _ Y rfl rfl rt hY ?_))
                  go_roundw
                  case rel => exact ⟨k - 1, Y, by omega, by go_num, hY, fun _ => HYG, RC2, TC2, CC2⟩
                  case measure => simp [intOf]; omega
    · have HGO := Lib.hid hgo
      clear hgo
      have HX : Hid (∀ (Wl : World) (q : List Int), q.length = 19 → Bk Wl O 50 (ints q).toArray → Bk Wl w.heap.size 50 (ints zeroI).toArray → CStep w Wl g (m + 420) →
          (Wl.rangeAt O 0 (ints q) ∧ Wl.there w.heap.size 0 19 ∧ (loadVar 50 ⟨w.heap.size, 0, none⟩).run Try.prog (Wl.setCells w.heap.size 0 (ints q)) = .ok (aggI q) (Wl.setCells w.heap.size 0 (ints q)) ∧ CStep w (Wl.setCells w.heap.size 0 (ints q)) g (m + 420))) := by
        intro Wl q hq R T C
        have ht := T.there (n := 19) (by rw [ints_size zero_len]; decide)
        exact ⟨R.range, ht, loadVarB (World.rangeAt_setCells_same Wl w.heap.size 0 (ints q) (by rw [show (ints q).length = 19 by simp [ints, hq]]; exact ht)) hq, C.puts (ints q) (g2 := w.heap.size) 0 hga (Nat.le_refl _)⟩
      have hstop : (0 < k ∧ okb = true) = False := by
        have := HGO.out
        simp only [Bool.and_eq_false_iff, decide_eq_false_iff_not] at this
        rw [eq_iff_iff, iff_false]
        rintro ⟨h1, h2⟩
        rcases this with h | h
        · exact h h1
        · rw [h2] at h; cases h
      by_cases hk0 : 0 < k
      · have hd : decide (0 < (k : Int)) = true := by simp; omega
        obtain rfl : okb = false := by
          cases okb
          · rfl
          · exact absurd (And.intro hk0 rfl) (by rw [hstop]; exact id)
        clear hstop
        go_wp2_with fail
        refine (pick_c 48 g _ _ CC.out.cur (by omega)).mono ?_
        rintro e w5 ⟨y, rfl, _, hs⟩
        have CS5 := Lib.hid (CC.out.trans hs)
        have R5 := Lib.hid (RR.out.step hs (by omega))
        have T5 := Lib.hid (TT.out.step hs (by omega))
        clear hs CC RR TT HGb
        rcases y0 : (y == 0) with _ | _
        rotate_left
        · obtain rfl : y = 0 := by simpa using y0
          clear y0
          as_aux_lemma =>
            go_wp2_with fail
            refine (amongL_c [-1, 1000, 1001] g _ _ _ (by simp) CS5.out.cur (by omega) (by decide) (by decide)).mono ?_
            rintro e w6 ⟨z, rfl, _, hs⟩
            have CS6 := Lib.hid (((CS5.out.trans hs).store hga (p := ⟨O, 18, none⟩) (by simp; omega) (.int .i64 z)).mono (show _ ≤ m + 420 by omega))
            have R6 := Lib.hid ((R5.out.step hs (by omega)).setI 18 z)
            have T6 := Lib.hid ((T5.out.step hs (by omega)).other (p := ⟨O, 18, none⟩) (by simp; omega) (.int .i64 z))
            have f6 : w6.frozen? ⟨O, 18, none⟩ = false := (R5.out.step hs (by omega)).frozen 18
            obtain ⟨u6, z6⟩ := there_some ((R5.out.step hs (by omega)).there (n := 19) (by rw [ints_size hl]; decide)) (j := 18) (by omega)
            have hl6 : (b.set 18 z).length = 19 := by rw [List.length_set, hl]
            generalize b.set 18 z = q at *
            obtain ⟨ra, rb, rc, rd⟩ := HX.out _ q hl6 R6.out T6.out CS6.out
            have RD := Lib.hid rd
            clear hs R5 T5 CS5 R6 T6 CS6 rd HX
            go_wp2_with (first | (refine wpList_loadB rfl _ rfl _ rfl q ?_ hl6 ?_; exact ra) | (refine wpList_storeB rfl _ _ rfl _ q rfl rfl ?_ hl6 ?_; exact rb))
            exact bodyPost_ret (v := aggI q) (res_cell Try.results74 rfl rc) rfl ⟨q, hl6, rfl, RD.out⟩
        · rcases y1 : (y == 1) with _ | _
          rotate_left
          · obtain rfl : y = 1 := by simpa using y1
            clear y1
            as_aux_lemma =>
              go_wp2_with fail
              refine (pick_c 6 g _ _ CS5.out.cur (by omega)).mono ?_
              rintro e w6 ⟨z, rfl, hz, hs⟩
              have CS6 := Lib.hid (CS5.out.trans hs)
              have R6 := Lib.hid (R5.out.step hs (by omega))
              have T6 := Lib.hid (T5.out.step hs (by omega))
              obtain ⟨zn, rfl⟩ := Int.eq_ofNat_of_zero_le hz.1
              have hzn : zn < 6 := by have := hz.2 (by omega); omega
              clear hs hz R5 T5 CS5
              go_wp2_with fail
              refine (cell_c g _ _ CS6.out.cur (by omega)).mono ?_
              rintro e w7 ⟨y7, rfl, _, hs⟩
              have n0 : (0 : Int) ≤ (zn : Int) := by omega
              have n1 : (zn : Int) < 6 := by omega
              have CS7 := Lib.hid (((CS6.out.trans hs).store hga (p := ⟨O, zn, none⟩) (by simp; omega) (.int .i64 y7)).mono (show _ ≤ m + 420 by omega))
              have R7 := Lib.hid ((R6.out.step hs (by omega)).setI zn y7)
              have T7 := Lib.hid ((T6.out.step hs (by omega)).other (p := ⟨O, zn, none⟩) (by simp; omega) (.int .i64 y7))
              have f6 : w7.frozen? ⟨O, zn, none⟩ = false := (R6.out.step hs (by omega)).frozen zn
              obtain ⟨u6, z6⟩ := there_some ((R6.out.step hs (by omega)).there (n := 19) (by rw [ints_size hl]; decide)) (j := zn) (by omega)
              have hl6 : (b.set zn y7).length = 19 := by rw [List.length_set, hl]
              generalize b.set zn y7 = q at *
              obtain ⟨ra, rb, rc, rd⟩ := HX.out _ q hl6 R7.out T7.out CS7.out
              have RD := Lib.hid rd
              clear hs R6 T6 CS6 R7 T7 CS7 rd HX
              go_wp2_with (first | (refine wpList_loadB rfl _ rfl _ rfl q ?_ hl6 ?_; exact ra) | (refine wpList_storeB rfl _ _ rfl _ q rfl rfl ?_ hl6 ?_; exact rb))
              exact bodyPost_ret (v := aggI q) (res_cell Try.results74 rfl rc) rfl ⟨q, hl6, rfl, RD.out⟩
          · rcases y2 : (y == 2) with _ | _
            rotate_left
            · obtain rfl : y = 2 := by simpa using y2
              clear y2
              as_aux_lemma =>
                go_wp2_with fail
                refine (pick_c 6 g _ _ CS5.out.cur (by omega)).mono ?_
                rintro e w6 ⟨z, rfl, hz, hs⟩
                have CS6 := Lib.hid (CS5.out.trans hs)
                have R6 := Lib.hid (R5.out.step hs (by omega))
                have T6 := Lib.hid (T5.out.step hs (by omega))
                obtain ⟨zn, rfl⟩ := Int.eq_ofNat_of_zero_le hz.1
                have hzn : zn < 6 := by have := hz.2 (by omega); omega
                clear hs hz R5 T5 CS5
                go_wp2_with fail
                refine (amongL_c [-1, 127, 128, 3] g _ _ _ (by simp) CS6.out.cur (by omega) (by decide) (by decide)).mono ?_
                rintro e w7 ⟨y7, rfl, _, hs⟩
                have n0 : (0 : Int) ≤ (zn : Int) := by omega
                have n1 : (zn : Int) < 6 := by omega
                have CS7 := Lib.hid (((CS6.out.trans hs).store hga (p := ⟨O, 12 + zn, none⟩) (by simp; omega) (.int .i64 y7)).mono (show _ ≤ m + 420 by omega))
                have R7 := Lib.hid ((R6.out.step hs (by omega)).setI (12 + zn) y7)
                have T7 := Lib.hid ((T6.out.step hs (by omega)).other (p := ⟨O, 12 + zn, none⟩) (by simp; omega) (.int .i64 y7))
                have f6 : w7.frozen? ⟨O, 12 + zn, none⟩ = false := (R6.out.step hs (by omega)).frozen (12 + zn)
                obtain ⟨u6, z6⟩ := there_some ((R6.out.step hs (by omega)).there (n := 19) (by rw [ints_size hl]; decide)) (j := 12 + zn) (by omega)
                have hl6 : (b.set (12 + zn) y7).length = 19 := by rw [List.length_set, hl]
                generalize b.set (12 + zn) y7 = q at *
                obtain ⟨ra, rb, rc, rd⟩ := HX.out _ q hl6 R7.out T7.out CS7.out
                have RD := Lib.hid rd
                clear hs R6 T6 CS6 R7 T7 CS7 rd HX
                go_wp2_with (first | (refine wpList_loadB rfl _ rfl _ rfl q ?_ hl6 ?_; exact ra) | (refine wpList_storeB rfl _ _ rfl _ q rfl rfl ?_ hl6 ?_; exact rb))
                exact bodyPost_ret (v := aggI q) (res_cell Try.results74 rfl rc) rfl ⟨q, hl6, rfl, RD.out⟩
            · as_aux_lemma =>
                obtain ⟨ra, rb, rc, rd⟩ := HX.out _ b hl R5.out T5.out (CS5.out.mono (show _ ≤ m + 420 by omega))
                have RD := Lib.hid rd
                clear R5 T5 CS5 rd HX
                go_wp2_with (first | (refine wpList_loadB rfl _ rfl _ rfl b ?_ hl ?_; exact ra) | (refine wpList_storeB rfl _ _ rfl _ b rfl rfl ?_ hl ?_; exact rb))
                exact bodyPost_ret (v := aggI b) (res_cell Try.results74 rfl rc) rfl ⟨b, hl, rfl, RD.out⟩

      · obtain rfl : k = 0 := by omega
        have hd : decide (0 < ((0 : Nat) : Int)) = false := by simp
        clear hstop
        go_wp2_with fail
        refine (pick_c 48 g _ _ CC.out.cur (by omega)).mono ?_
        rintro e w5 ⟨y, rfl, _, hs⟩
        have CS5 := Lib.hid (CC.out.trans hs)
        have R5 := Lib.hid (RR.out.step hs (by omega))
        have T5 := Lib.hid (TT.out.step hs (by omega))
        clear hs CC RR TT HGb
        rcases y0 : (y == 0) with _ | _
        rotate_left
        · obtain rfl : y = 0 := by simpa using y0
          clear y0
          as_aux_lemma =>
            go_wp2_with fail
            refine (amongL_c [-1, 1000, 1001] g _ _ _ (by simp) CS5.out.cur (by omega) (by decide) (by decide)).mono ?_
            rintro e w6 ⟨z, rfl, _, hs⟩
            have CS6 := Lib.hid (((CS5.out.trans hs).store hga (p := ⟨O, 18, none⟩) (by simp; omega) (.int .i64 z)).mono (show _ ≤ m + 420 by omega))
            have R6 := Lib.hid ((R5.out.step hs (by omega)).setI 18 z)
            have T6 := Lib.hid ((T5.out.step hs (by omega)).other (p := ⟨O, 18, none⟩) (by simp; omega) (.int .i64 z))
            have f6 : w6.frozen? ⟨O, 18, none⟩ = false := (R5.out.step hs (by omega)).frozen 18
            obtain ⟨u6, z6⟩ := there_some ((R5.out.step hs (by omega)).there (n := 19) (by rw [ints_size hl]; decide)) (j := 18) (by omega)
            have hl6 : (b.set 18 z).length = 19 := by rw [List.length_set, hl]
            generalize b.set 18 z = q at *
            obtain ⟨ra, rb, rc, rd⟩ := HX.out _ q hl6 R6.out T6.out CS6.out
            have RD := Lib.hid rd
            clear hs R5 T5 CS5 R6 T6 CS6 rd HX
            go_wp2_with (first | (refine wpList_loadB rfl _ rfl _ rfl q ?_ hl6 ?_; exact ra) | (refine wpList_storeB rfl _ _ rfl _ q rfl rfl ?_ hl6 ?_; exact rb))
            exact bodyPost_ret (v := aggI q) (res_cell Try.results74 rfl rc) rfl ⟨q, hl6, rfl, RD.out⟩
        · rcases y1 : (y == 1) with _ | _
          rotate_left
          · obtain rfl : y = 1 := by simpa using y1
            clear y1
            as_aux_lemma =>
              go_wp2_with fail
              refine (pick_c 6 g _ _ CS5.out.cur (by omega)).mono ?_
              rintro e w6 ⟨z, rfl, hz, hs⟩
              have CS6 := Lib.hid (CS5.out.trans hs)
              have R6 := Lib.hid (R5.out.step hs (by omega))
              have T6 := Lib.hid (T5.out.step hs (by omega))
              obtain ⟨zn, rfl⟩ := Int.eq_ofNat_of_zero_le hz.1
              have hzn : zn < 6 := by have := hz.2 (by omega); omega
              clear hs hz R5 T5 CS5
              go_wp2_with fail
              refine (cell_c g _ _ CS6.out.cur (by omega)).mono ?_
              rintro e w7 ⟨y7, rfl, _, hs⟩
              have n0 : (0 : Int) ≤ (zn : Int) := by omega
              have n1 : (zn : Int) < 6 := by omega
              have CS7 := Lib.hid (((CS6.out.trans hs).store hga (p := ⟨O, zn, none⟩) (by simp; omega) (.int .i64 y7)).mono (show _ ≤ m + 420 by omega))
              have R7 := Lib.hid ((R6.out.step hs (by omega)).setI zn y7)
              have T7 := Lib.hid ((T6.out.step hs (by omega)).other (p := ⟨O, zn, none⟩) (by simp; omega) (.int .i64 y7))
              have f6 : w7.frozen? ⟨O, zn, none⟩ = false := (R6.out.step hs (by omega)).frozen zn
              obtain ⟨u6, z6⟩ := there_some ((R6.out.step hs (by omega)).there (n := 19) (by rw [ints_size hl]; decide)) (j := zn) (by omega)
              have hl6 : (b.set zn y7).length = 19 := by rw [List.length_set, hl]
              generalize b.set zn y7 = q at *
              obtain ⟨ra, rb, rc, rd⟩ := HX.out _ q hl6 R7.out T7.out CS7.out
              have RD := Lib.hid rd
              clear hs R6 T6 CS6 R7 T7 CS7 rd HX
              go_wp2_with (first | (refine wpList_loadB rfl _ rfl _ rfl q ?_ hl6 ?_; exact ra) | (refine wpList_storeB rfl _ _ rfl _ q rfl rfl ?_ hl6 ?_; exact rb))
              exact bodyPost_ret (v := aggI q) (res_cell Try.results74 rfl rc) rfl ⟨q, hl6, rfl, RD.out⟩
          · rcases y2 : (y == 2) with _ | _
            rotate_left
            · obtain rfl : y = 2 := by simpa using y2
              clear y2
              as_aux_lemma =>
                go_wp2_with fail
                refine (pick_c 6 g _ _ CS5.out.cur (by omega)).mono ?_
                rintro e w6 ⟨z, rfl, hz, hs⟩
                have CS6 := Lib.hid (CS5.out.trans hs)
                have R6 := Lib.hid (R5.out.step hs (by omega))
                have T6 := Lib.hid (T5.out.step hs (by omega))
                obtain ⟨zn, rfl⟩ := Int.eq_ofNat_of_zero_le hz.1
                have hzn : zn < 6 := by have := hz.2 (by omega); omega
                clear hs hz R5 T5 CS5
                go_wp2_with fail
                refine (amongL_c [-1, 127, 128, 3] g _ _ _ (by simp) CS6.out.cur (by omega) (by decide) (by decide)).mono ?_
                rintro e w7 ⟨y7, rfl, _, hs⟩
                have n0 : (0 : Int) ≤ (zn : Int) := by omega
                have n1 : (zn : Int) < 6 := by omega
                have CS7 := Lib.hid (((CS6.out.trans hs).store hga (p := ⟨O, 12 + zn, none⟩) (by simp; omega) (.int .i64 y7)).mono (show _ ≤ m + 420 by omega))
                have R7 := Lib.hid ((R6.out.step hs (by omega)).setI (12 + zn) y7)
                have T7 := Lib.hid ((T6.out.step hs (by omega)).other (p := ⟨O, 12 + zn, none⟩) (by simp; omega) (.int .i64 y7))
                have f6 : w7.frozen? ⟨O, 12 + zn, none⟩ = false := (R6.out.step hs (by omega)).frozen (12 + zn)
                obtain ⟨u6, z6⟩ := there_some ((R6.out.step hs (by omega)).there (n := 19) (by rw [ints_size hl]; decide)) (j := 12 + zn) (by omega)
                have hl6 : (b.set (12 + zn) y7).length = 19 := by rw [List.length_set, hl]
                generalize b.set (12 + zn) y7 = q at *
                obtain ⟨ra, rb, rc, rd⟩ := HX.out _ q hl6 R7.out T7.out CS7.out
                have RD := Lib.hid rd
                clear hs R6 T6 CS6 R7 T7 CS7 rd HX
                go_wp2_with (first | (refine wpList_loadB rfl _ rfl _ rfl q ?_ hl6 ?_; exact ra) | (refine wpList_storeB rfl _ _ rfl _ q rfl rfl ?_ hl6 ?_; exact rb))
                exact bodyPost_ret (v := aggI q) (res_cell Try.results74 rfl rc) rfl ⟨q, hl6, rfl, RD.out⟩
            · as_aux_lemma =>
                obtain ⟨ra, rb, rc, rd⟩ := HX.out _ b hl R5.out T5.out (CS5.out.mono (show _ ≤ m + 420 by omega))
                have RD := Lib.hid rd
                clear R5 T5 CS5 rd HX
                go_wp2_with (first | (refine wpList_loadB rfl _ rfl _ rfl b ?_ hl ?_; exact ra) | (refine wpList_storeB rfl _ _ rfl _ b rfl rfl ?_ hl ?_; exact rb))
                exact bodyPost_ret (v := aggI b) (res_cell Try.results74 rfl rc) rfl ⟨b, hl, rfl, RD.out⟩

end Go.Proofs.Ytfbnmkpkihfocaa
