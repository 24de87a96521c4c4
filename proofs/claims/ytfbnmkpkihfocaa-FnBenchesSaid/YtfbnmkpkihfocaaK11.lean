/- Texts of this claim, gathered: Jobs, Bnp. -/
import Derived.Test.YtfbnmkpkihfocaaK10
namespace Go.Proofs.Ytfbnmkpkihfocaa
open Go.RowKit
set_option linter.unusedVariables false
set_option linter.unusedSimpArgs false
set_option maxRecDepth 100000
attribute [local go_sem ↓] Go.wp_at_zero Go.wp_at_succ
/-- Jobs one after another, up to the first one that is not possible -/
def runJ : List J3 → List Int → List Int × Nat
  | [], b => (b, 0)
  | j :: t, b => if possB b j.1 j.2.1 j.2.2 then ((runJ t (doB b j.1 j.2.1 j.2.2)).1, (runJ t (doB b j.1 j.2.1 j.2.2)).2 + 1) else (b, 0)
theorem runJ_le : ∀ (js : List J3) (b : List Int), (runJ js b).2 ≤ js.length
  | [], _ => Nat.le_refl _
  | j :: t, b => by
    unfold runJ
    have := runJ_le t (doB b j.1 j.2.1 j.2.2)
    split <;> simp <;> omega
theorem poss_make {b : List Int} {k a v : Int} (h : possB b k a v = true) : makeB b k a v = true := by
  unfold possB at h; simp only [Bool.and_eq_true] at h; exact h.2
theorem poss_good {b : List Int} {k a v : Int} (hb : b.length = 19) (hg : goodB b = true) (h : possB b k a v = true) : goodB (doB b k a v) = true ∧ (doB b k a v).length = 19 := by
  have hc := cnt_good hb hg (poss_make h)
  unfold possB at h; simp only [Bool.and_eq_true] at h
  exact ⟨by rw [hc.1]; exact h.1, hc.2.1⟩
theorem runJ_len : ∀ (js : List J3) {b : List Int}, b.length = 19 → goodB b = true → (runJ js b).1.length = 19
  | [], b, hb, _ => hb
  | j :: t, b, hb, hg => by
    unfold runJ
    split
    · rename_i h
      have := poss_good hb hg h
      exact runJ_len t this.2 this.1
    · exact hb
/-- where the loop stands -/
def RunAt (js : List J3) (b0 : List Int) (k : Nat) (cur : List Int) : Prop := runJ js b0 = ((runJ (js.drop k) cur).1, k + (runJ (js.drop k) cur).2)
theorem RunAt.zero (js : List J3) (b0 : List Int) : RunAt js b0 0 b0 := by unfold RunAt; simp
theorem drop_at {α : Type} {js : List α} {k : Nat} {x : α} (hx : js[k]? = some x) : js.drop k = x :: js.drop (k + 1) := by
  have hlt := (List.getElem?_eq_some_iff.1 hx).1
  rw [List.drop_eq_getElem_cons hlt]
  rw [List.getElem?_eq_getElem hlt] at hx
  rw [Option.some.inj hx]
theorem RunAt.next {js : List J3} {b0 cur : List Int} {k : Nat} {x : J3} (h : RunAt js b0 k cur) (hx : js[k]? = some x) (hp : possB cur x.1 x.2.1 x.2.2 = true) : RunAt js b0 (k + 1) (doB cur x.1 x.2.1 x.2.2) := by
  unfold RunAt at *
  rw [h, drop_at hx]
  conv => lhs; unfold runJ
  rw [if_pos hp]
  simp; omega
theorem RunAt.stop {js : List J3} {b0 cur : List Int} {k : Nat} {x : J3} (h : RunAt js b0 k cur) (hx : js[k]? = some x) (hp : possB cur x.1 x.2.1 x.2.2 = false) : runJ js b0 = (cur, k) := by
  unfold RunAt at *
  rw [h, drop_at hx]
  unfold runJ
  rw [if_neg (by rw [hp]; simp)]; rfl
theorem RunAt.done {js : List J3} {b0 cur : List Int} (h : RunAt js b0 js.length cur) : runJ js b0 = (cur, js.length) := by
  unfold RunAt at *
  rw [h, List.drop_length]; rfl
def trV (X : List Int) (n : Nat) (ok : Bool) : Value := .tuple #[aggI X, .int .i64 (n : Int), .bool ok]
def djsV (b : List Int) (js : List J3) : Value := if goodB b then trV (runJ js b).1 (runJ js b).2 true else trV zeroI 0 false
theorem djsV_form {b : List Int} (hb : b.length = 19) (js : List J3) : ∃ Y n ok, djsV b js = trV Y n ok ∧ Y.length = 19 := by
  unfold djsV
  rcases hg : goodB b with _ | _
  · exact ⟨zeroI, 0, false, rfl, by simp [zeroI]⟩
  · exact ⟨_, _, _, rfl, runJ_len js hb hg⟩
theorem res_cell3 {P : Program} {fn : Func} {r k m : Nat} {t : TypeId} {tmps : Array Value} {w : World} {g : Nat} {v : Value} (h : fn.results = #[.cell r t, .tmp k, .tmp m]) (hr : tmps.getD r undef = .pointer (some ⟨g, 0, none⟩)) (hl : (loadVar t ⟨g, 0, none⟩).run P w = .ok v w) :
    (results fn tmps).run P w = .ok (.tuple #[v, tmps.getD k undef, tmps.getD m undef]) w := by
  unfold results
  rw [h]
  simp only [List.mapM_toArray, List.mapM_cons, List.mapM_nil, Sem.run_bind, Sem.run_pure, Sem.run_map, Result.andThen_ok, hr, asAddr, hl]
  rfl
set_option maxHeartbeats 4000000 in
theorem DoJobs_c (b : List Int) (v : Value) (js : List J3) (w : World) (hb : b.length = 19) (hv : Trips w v js) :
    Calls Try.prog 34 #[aggI b, v] w fun e w' => e = .returned (djsV b js) ∧ Below w.heap.size w w' := by
  have hz : zeroI.length = 19 := by simp [zeroI]
  have hm := hv.le
  obtain ⟨va, vc, rfl, _, _, HC⟩ := hv.parts
  clear hv
  have r0 := World.rangeAt_alloc (range_new w (ints b) 50) zB
  have u0 := World.there_alloc (there_new w (ints b).toArray 50 (n := 19) (by simp [hb])) zB
  have t0 := there_new (w.alloc (.cells (ints b).toArray 50)) zBA 50 (n := 19) (by decide)
  have hb0 : Below w.heap.size w ((w.alloc (.cells (ints b).toArray 50)).alloc zB) := by (repeat (first | exact Below.refl _ _ | exact (Below.refl _ _).drew | assumption | exact below_one _ | refine Below.chain ?_ (by assumption) | refine Below.drew ?_ | refine Below.alc ?_ _ | refine below_drewN ?_ | (refine Below.setCell ?_ ?_ _) | exact Nat.le_refl _ | (simp; done) | (simp; omega)))
  simp only [World.size_alloc] at t0
  rcases hg : goodB b with _ | _
  · have HF : Hid (djsV b js = trV zeroI 0 false) := by show _ = _; unfold djsV; rw [hg]; rfl
    have HQ := Lib.hid hg; clear hg
    unfold trV aggI at *
    unfold zBA zB at *
    go_enter Try.func34, Try.ntmps34
    go_wp2_with (refine wpList_loadB rfl _ rfl _ rfl b r0 hb ?_)
    refine (IsBench_c b _ hb).mono ?_
    rintro e w1 ⟨rfl, hb1⟩
    rw [HQ.out]
    have t1 := there_below t0 hb1
    have b1 := Below.chain hb0 hb1
    have K5 := loadVarB (World.rangeAt_setCells_same w1 (w.heap.size + 1) 0 (ints zeroI) (by simpa [hz] using t1)) hz
    have K6 := below_cells (ints zeroI) w1 (w.heap.size + 1) 0 b1 (by omega)
    clear r0 t0 u0 hb0 hb1
    go_wp2_with (refine wpList_storeB rfl _ _ rfl _ zeroI rfl rfl t1 hz ?_)
    exact bodyPost_ret (v := trV zeroI 0 false) (res_cell3 Try.results34 rfl K5) rfl ⟨by rw [HF.out]; rfl, K6⟩
  · have HF : Hid (djsV b js = trV (runJ js b).1 (runJ js b).2 true) := by show _ = _; unfold djsV; rw [hg]; rfl
    have HQ := Lib.hid hg; clear hg
    have HI := Lib.hid (fun cur k a v w h1 h2 => isPossible_c cur k a v w h1 h2)
    have HD := Lib.hid (fun cur k a v w h1 h2 h3 => do_c cur k a v w h1 h2 h3)
    unfold aggI jobV at *
    unfold zBA zB at *
    go_enter Try.func34, Try.ntmps34
    go_wp2_with (refine wpList_loadB rfl _ rfl _ rfl b r0 hb ?_)
    refine (IsBench_c b _ hb).mono ?_
    rintro e w1 ⟨rfl, hb1⟩
    rw [HQ.out]
    have t1 := there_below t0 hb1
    have u1 := there_below u0 hb1
    have r1 := range_below r0 hb1
    have b1 := Below.chain hb0 hb1
    clear r0 t0 u0 hb0 hb1
    go_wp2
    go_loopw [15] (fun i wr => ∃ (k : Nat) (cur : List Int), k ≤ js.length ∧ i = .int .i64 (k : Int) ∧ cur.length = 19 ∧ Hid (goodB cur = true) ∧ Hid (RunAt js b k cur) ∧ wr.rangeAt w.heap.size 0 (ints cur) ∧ wr.there w.heap.size 0 19 ∧ wr.there (w.heap.size + 1) 0 19 ∧ Below w.heap.size w wr) (fun i _ => js.length - (intOf i).toNat)
    case atStart => exact ⟨0, b, by omega, rfl, hb, HQ, RunAt.zero js b, r1, u1, t1, b1⟩
    case round =>
      obtain ⟨k, cur, hk, rfl, hl, hgc, hrun, hr, hu, ht, hbw⟩ := hrel
      clear r1 u1 t1 b1
      by_cases hlt : k < js.length
      · have hd : decide ((k : Int) < (js.length : Int)) = true := by simp; omega
        obtain ⟨x, hx⟩ := elem_at hlt
        obtain ⟨bb, off, rfl, f0, f1, f2⟩ := HC.out k x hx.out
        have g0 := cell_later hbw f0
        have g1 := cell_later hbw f1
        have g2 := cell_later hbw f2
        clear f0 f1 f2
        have r2 := World.rangeAt_alloc hr (.cells #[.int .i64 x.1, .int .i64 x.2.1, .int .i64 x.2.2] 54)
        have u2 := World.there_alloc hu (.cells #[.int .i64 x.1, .int .i64 x.2.1, .int .i64 x.2.2] 54)
        have t2 := World.there_alloc ht (.cells #[.int .i64 x.1, .int .i64 x.2.1, .int .i64 x.2.2] 54)
        have b2 := Below.alc hbw (.cells #[.int .i64 x.1, .int .i64 x.2.1, .int .i64 x.2.2] 54)
        have p0 : (wr.alloc (.cells #[.int .i64 x.1, .int .i64 x.2.1, .int .i64 x.2.2] 54)).cell? ⟨wr.heap.size, 0, none⟩ = some (.int .i64 x.1) := by rw [World.cell?_alloc_at _ _ _ _ rfl]; rfl
        have p1 : (wr.alloc (.cells #[.int .i64 x.1, .int .i64 x.2.1, .int .i64 x.2.2] 54)).cell? ⟨wr.heap.size, 1, none⟩ = some (.int .i64 x.2.1) := by rw [World.cell?_alloc_at _ _ _ _ rfl]; rfl
        have p2 : (wr.alloc (.cells #[.int .i64 x.1, .int .i64 x.2.1, .int .i64 x.2.2] 54)).cell? ⟨wr.heap.size, 2, none⟩ = some (.int .i64 x.2.2) := by rw [World.cell?_alloc_at _ _ _ _ rfl]; rfl
        clear hr hu ht hbw
        go_wp2_with (refine wpList_loadB rfl _ rfl _ rfl cur r2 hl ?_)
        refine (HI.out cur x.1 x.2.1 x.2.2 _ hl hgc.out).mono ?_
        rintro e w3 ⟨rfl, hb3⟩
        have r3 := range_below r2 hb3
        have u3 := there_below u2 hb3
        have t3 := there_below t2 hb3
        have b3 := Below.chain b2 hb3
        have s0 := cell_later hb3 p0
        have s1 := cell_later hb3 p1
        have s2 := cell_later hb3 p2
        clear r2 u2 t2 b2 p0 p1 p2 hb3 g0 g1 g2
        rcases hp : possB cur x.1 x.2.1 x.2.2 with _ | _
        · have HF2 : Hid (djsV b js = trV cur k true) := by show _ = _; rw [HF.out, hrun.out.stop hx.out hp]
          have K5 := loadVarB (World.rangeAt_setCells_same w3 (w.heap.size + 1) 0 (ints cur) (by simpa [hl] using t3)) hl
          have K6 := below_cells (ints cur) w3 (w.heap.size + 1) 0 b3 (by omega)
          clear hp
          go_wp2_with (first | (refine wpList_loadB rfl _ rfl _ rfl cur r3 hl ?_) | (refine wpList_storeB rfl _ _ rfl _ cur rfl rfl t3 hl ?_))
          exact bodyPost_ret (v := trV cur k true) (res_cell3 Try.results34 rfl K5) rfl ⟨by rw [HF2.out], K6⟩
        · have hG := poss_good hl hgc.out hp
          have hN := Lib.hid (hrun.out.next hx.out hp)
          have HDD := Lib.hid (HD.out cur x.1 x.2.1 x.2.2 · hl hgc.out (poss_make hp))
          have hGG := Lib.hid hG.1
          have hGL := hG.2
          clear hp hG
          generalize doB cur x.1 x.2.1 x.2.2 = Y at *
          go_wp2_with (refine wpList_loadB rfl _ rfl _ rfl cur r3 hl ?_)
          refine (HDD.out _).mono ?_
          rintro e w4 ⟨rfl, hb4⟩
          have u4 := there_below u3 hb4
          have t4 := there_below t3 hb4
          have b4 := Below.chain b3 hb4
          have R5 := Lib.hid (World.rangeAt_setCells_same w4 w.heap.size 0 (ints Y) (by simpa [hGL] using u4))
          have U5 := Lib.hid (World.there_setCells u4 w.heap.size 0 (ints Y))
          have T5 := Lib.hid (World.there_setCells t4 w.heap.size 0 (ints Y))
          have B5 := Lib.hid (below_cells (ints Y) w4 w.heap.size 0 b4 (Nat.le_refl _))
          clear r3 u3 t3 b3 s0 s1 s2 hb4 t4 b4
          go_wp2_with (refine wpList_storeB rfl _ _ rfl _ Y rfl rfl u4 hGL ?_)
          go_roundw
          case rel => exact ⟨k + 1, Y, by omega, by go_num, hGL, hGG, hN, R5.out, U5.out, T5.out, B5.out⟩
          case measure => simp [intOf]; omega
      · obtain rfl : k = js.length := by omega
        have HF2 : Hid (djsV b js = trV cur js.length true) := by show _ = _; rw [HF.out, hrun.out.done]
        have K5 := loadVarB (World.rangeAt_setCells_same wr (w.heap.size + 1) 0 (ints cur) (by simpa [hl] using ht)) hl
        have K6 := below_cells (ints cur) wr (w.heap.size + 1) 0 hbw (by omega)
        go_wp2_with (first | (refine wpList_loadB rfl _ rfl _ rfl cur hr hl ?_) | (refine wpList_storeB rfl _ _ rfl _ cur rfl rfl ht hl ?_))
        exact bodyPost_ret (v := trV cur js.length true) (res_cell3 Try.results34 rfl K5) rfl ⟨by rw [HF2.out], K6⟩
set_option maxHeartbeats 4000000 in
theorem sDoJobs_c (b : List Int) (v : Value) (js : List J3) (w : World) (hb : b.length = 19) (hv : Trips w v js) :
    Calls Try.prog 35 #[aggI b, v] w fun e w' => e = .returned (djsV b js) ∧ Below w.heap.size w w' := by
  have hz : zeroI.length = 19 := by simp [zeroI]
  have hm := hv.le
  obtain ⟨va, vc, rfl, _, _, HC⟩ := hv.parts
  clear hv
  have r0 := World.rangeAt_alloc (range_new w (ints b) 50) zB
  have u0 := World.there_alloc (there_new w (ints b).toArray 50 (n := 19) (by simp [hb])) zB
  have t0 := there_new (w.alloc (.cells (ints b).toArray 50)) zBA 50 (n := 19) (by decide)
  have hb0 : Below w.heap.size w ((w.alloc (.cells (ints b).toArray 50)).alloc zB) := by (repeat (first | exact Below.refl _ _ | exact (Below.refl _ _).drew | assumption | exact below_one _ | refine Below.chain ?_ (by assumption) | refine Below.drew ?_ | refine Below.alc ?_ _ | refine below_drewN ?_ | (refine Below.setCell ?_ ?_ _) | exact Nat.le_refl _ | (simp; done) | (simp; omega)))
  simp only [World.size_alloc] at t0
  rcases hg : goodB b with _ | _
  · have HF : Hid (djsV b js = trV zeroI 0 false) := by show _ = _; unfold djsV; rw [hg]; rfl
    have HQ := Lib.hid hg; clear hg
    unfold trV aggI at *
    unfold zBA zB at *
    go_enter Try.func35, Try.ntmps35
    go_wp2_with (refine wpList_loadB rfl _ rfl _ rfl b r0 hb ?_)
    refine (l12Good_c b _ hb).mono ?_
    rintro e w1 ⟨rfl, hb1⟩
    rw [HQ.out]
    have t1 := there_below t0 hb1
    have b1 := Below.chain hb0 hb1
    have K5 := loadVarB (World.rangeAt_setCells_same w1 (w.heap.size + 1) 0 (ints zeroI) (by simpa [hz] using t1)) hz
    have K6 := below_cells (ints zeroI) w1 (w.heap.size + 1) 0 b1 (by omega)
    clear r0 t0 u0 hb0 hb1
    go_wp2_with (refine wpList_storeB rfl _ _ rfl _ zeroI rfl rfl t1 hz ?_)
    exact bodyPost_ret (v := trV zeroI 0 false) (res_cell3 Try.results35 rfl K5) rfl ⟨by rw [HF.out]; rfl, K6⟩
  · have HF : Hid (djsV b js = trV (runJ js b).1 (runJ js b).2 true) := by show _ = _; unfold djsV; rw [hg]; rfl
    have HQ := Lib.hid hg; clear hg
    unfold aggI at *
    unfold zBA zB at *
    go_enter Try.func35, Try.ntmps35
    go_wp2_with (refine wpList_loadB rfl _ rfl _ rfl b r0 hb ?_)
    refine (l12Good_c b _ hb).mono ?_
    rintro e w1 ⟨rfl, hb1⟩
    rw [HQ.out]
    have t1 := World.there_alloc (there_below t0 hb1) (.cells zBA 50)
    have r1 := range_below r0 hb1
    have b1 := Below.alc (Below.chain hb0 hb1) (.cells zBA 50)
    have z1 : w.heap.size + 1 + 1 ≤ w1.heap.size := Nat.le_trans (by simp) hb1.size
    have tn := there_new w1 zBA 50 (n := 19) (by decide)
    have r2 := World.rangeAt_setCells_same (w1.alloc (.cells zBA 50)) w1.heap.size 0 (ints b) (by rw [show (ints b).length = 19 by simp [ints, hb]]; exact tn)
    have tR := World.there_setCells t1 w1.heap.size 0 (ints b)
    have tO := World.there_setCells tn w1.heap.size 0 (ints b)
    have b2 := below_cells (ints b) (w1.alloc (.cells zBA 50)) w1.heap.size 0 b1 (by omega)
    unfold zBA at *
    clear r0 t0 u0 hb0 hb1
    go_wp2_with (first | (refine wpList_loadB rfl _ rfl _ rfl b r1 hb ?_) | (refine wpList_storeB rfl _ _ rfl _ b rfl rfl tn hb ?_))
    clear r1 t1 b1 tn
    generalize World.setCells _ _ _ _ = w2 at *
    generalize w1.heap.size = o at *
    go_loopw [8] (fun i wr => ∃ (k : Nat) (cur : List Int), k ≤ js.length ∧ i = .int .i64 (k : Int) ∧ cur.length = 19 ∧ Hid (goodB cur = true) ∧ Hid (RunAt js b k cur) ∧ wr.rangeAt o 0 (ints cur) ∧ wr.there o 0 19 ∧ wr.there (w.heap.size + 1) 0 19 ∧ Below w.heap.size w wr) (fun i _ => js.length - (intOf i).toNat)
    case atStart => exact ⟨0, b, by omega, rfl, hb, HQ, RunAt.zero js b, r2, tO, tR, b2⟩
    case round =>
      obtain ⟨k, cur, hk, rfl, hl, hgc, hrun, hr, hu, ht, hbw⟩ := hrel
      clear r2 tO tR b2
      by_cases hlt : k < js.length
      · have hd : decide ((k : Int) < (js.length : Int)) = true := by simp; omega
        have n0 : (0 : Int) ≤ (k : Int) := by omega
        have n1 : (k : Int) < (js.length : Int) := by omega
        obtain ⟨x, hx⟩ := elem_at hlt
        obtain ⟨bb, off, rfl, f0, f1, f2⟩ := HC.out k x hx.out
        have R_wr := hr
        have C0_wr := cell_later hbw f0
        have C1_wr := cell_later hbw f1
        have C2_wr := cell_later hbw f2
        have TR_wr := ht
        have TO_wr := hu
        have B_wr := hbw
        have hY := jobB_len hl hgc.out x.1 x.2.1 x.2.2
        have HLL := Lib.hid (fun w => l12Do_c cur x.1 x.2.1 x.2.2 w hl hgc.out)
        unfold jobsV at HLL
        generalize hYJ : jobB cur x.1 x.2.1 x.2.2 = Y at *
        have HYJ := Lib.hid hYJ
        clear hr ht hu hbw f0 f1 f2 hYJ
        unfold mkV aggI jobV at HLL
        go_wp2
        have R_wd := (show World.rangeAt (wr.drew) _ _ _ from R_wr)
        have C0_wd := (show World.cell? (wr.drew) _ = some _ from C0_wr)
        have C1_wd := (show World.cell? (wr.drew) _ = some _ from C1_wr)
        have C2_wd := (show World.cell? (wr.drew) _ = some _ from C2_wr)
        have TR_wd := (show World.there (wr.drew) _ _ _ from TR_wr)
        have TO_wd := (show World.there (wr.drew) _ _ _ from TO_wr)
        have B_wd := B_wr.drew
        refine wp_region_held_drew (S := fun w' : World => w'.rangeAt o 0 (ints cur) ∧ w'.cell? ⟨bb, off + k * 3, none⟩ = some (.int .i64 x.1) ∧ w'.cell? ⟨bb, off + k * 3 + 1, none⟩ = some (.int .i64 x.2.1) ∧ w'.cell? ⟨bb, off + k * 3 + 2, none⟩ = some (.int .i64 x.2.2)) (by kernel_rfl) ⟨R_wd, C0_wd, C1_wd, C2_wd⟩ (fun hHeld => ?_)
        generalize wr.drew = wd at *
        clear R_wr C0_wr C1_wr C2_wr TR_wr TO_wr B_wr
        refine' wpAnyH_take (i := 0) (oi := _) (v := _) ?e_1 ?a_1 ?b_1 ?c_1 ?q_1 ?y_1 hHeld ?r_1
        case e_1 => (simp only [List.getElem?_toArray, List.getElem?_cons_zero, List.getElem?_cons_succ]; exact rfl)
        case a_1 => kernel_rfl
        case b_1 => kernel_rfl
        case c_1 => kernel_rfl
        case q_1 => exact fun _ _ _ h => h
        case y_1 =>
          refine' yieldsIf_load_mid ?hw_1 _ _ rfl _ _ rfl (ints cur) _ ?hS_1 ?hu_1 ?hd_1 ?hi_1
          case hw_1 => rfl
          case hS_1 => exact fun (w' : World) (h : w'.rangeAt o 0 (ints cur) ∧ w'.cell? ⟨bb, off + k * 3, none⟩ = some (.int .i64 x.1) ∧ w'.cell? ⟨bb, off + k * 3 + 1, none⟩ = some (.int .i64 x.2.1) ∧ w'.cell? ⟨bb, off + k * 3 + 2, none⟩ = some (.int .i64 x.2.2)) => h.1
          case hu_1 => exact Try.underlying50
          case hd_1 => rfl
          case hi_1 => exact (hi19 hl)
        try simp only [Act.put, List.setIfInBounds_toArray, List.set_cons_zero, List.set_cons_succ]
        refine' wpAnyH_take (i := 1) (oi := _) (v := _) ?e_2 ?a_2 ?b_2 ?c_2 ?q_2 ?y_2 hHeld ?r_2
        case e_2 => (simp only [List.getElem?_toArray, List.getElem?_cons_zero, List.getElem?_cons_succ]; exact rfl)
        case a_2 => kernel_rfl
        case b_2 => kernel_rfl
        case c_2 => kernel_rfl
        case q_2 => exact fun _ _ _ h => h
        case y_2 => exact Or.inl ⟨by rfl, by (intro w hSw; (try dsimp only at hSw); go_simp; first | done | with_reducible rfl)⟩
        try simp only [Act.put, List.setIfInBounds_toArray, List.set_cons_zero, List.set_cons_succ]
        refine' wpAnyH_take (i := 2) (oi := _) (v := _) ?e_3 ?a_3 ?b_3 ?c_3 ?q_3 ?y_3 hHeld ?r_3
        case e_3 => (simp only [List.getElem?_toArray, List.getElem?_cons_zero, List.getElem?_cons_succ]; exact rfl)
        case a_3 => kernel_rfl
        case b_3 => kernel_rfl
        case c_3 => kernel_rfl
        case q_3 => exact fun _ _ _ h => h
        case y_3 => exact Or.inl ⟨by rfl, by (intro w hSw; (try dsimp only at hSw); go_simp; first | done | with_reducible rfl)⟩
        try simp only [Act.put, List.setIfInBounds_toArray, List.set_cons_zero, List.set_cons_succ]
        refine' wpAnyH_take (i := 3) (oi := _) (v := _) ?e_4 ?a_4 ?b_4 ?c_4 ?q_4 ?y_4 hHeld ?r_4
        case e_4 => (simp only [List.getElem?_toArray, List.getElem?_cons_zero, List.getElem?_cons_succ]; exact rfl)
        case a_4 => kernel_rfl
        case b_4 => kernel_rfl
        case c_4 => kernel_rfl
        case q_4 => exact fun _ _ _ h => h
        case y_4 => exact Or.inl ⟨by rfl, by (intro w hSw; (try dsimp only at hSw); go_simp; first | done | with_reducible rfl)⟩
        try simp only [Act.put, List.setIfInBounds_toArray, List.set_cons_zero, List.set_cons_succ]
        refine' wpAnyH_take (i := 4) (oi := _) (v := _) ?e_5 ?a_5 ?b_5 ?c_5 ?q_5 ?y_5 hHeld ?r_5
        case e_5 => (simp only [List.getElem?_toArray, List.getElem?_cons_zero, List.getElem?_cons_succ]; exact rfl)
        case a_5 => kernel_rfl
        case b_5 => kernel_rfl
        case c_5 => kernel_rfl
        case q_5 => exact fun _ _ _ h => h
        case y_5 => exact Or.inl ⟨by rfl, by (intro w hSw; (try dsimp only at hSw); go_simp; first | done | with_reducible rfl)⟩
        try simp only [Act.put, List.setIfInBounds_toArray, List.set_cons_zero, List.set_cons_succ]
        refine wpAnyH_ready (rs := [5, 9]) (by kernel_rfl) (by simp) ?_
        refine' AllReadyH.cons (o := _) ?e_6 ?st_6 ?more_6
        case e_6 => (simp only [List.getElem?_toArray, List.getElem?_cons_zero, List.getElem?_cons_succ]; exact rfl)
        case st_6 =>
          intro K hK
          go_simp
          refine (HLL.out _).mono ?_
          rintro e wc7 ⟨rfl, hx8⟩
          have R_wc7 := range_below R_wd hx8
          have C0_wc7 := cell_later hx8 C0_wd
          have C1_wc7 := cell_later hx8 C1_wd
          have C2_wc7 := cell_later hx8 C2_wd
          have TR_wc7 := there_below TR_wd hx8
          have TO_wc7 := there_below TO_wd hx8
          have B_wc7 := Below.chain B_wd hx8
          clear R_wd C0_wd C1_wd C2_wd TR_wd TO_wd B_wd hx8
          go_wp2_with fail
          refine hK.out _ _ ⟨R_wc7, C0_wc7, C1_wc7, C2_wc7⟩ (fun hHeld => ?_)
          clear hK K
          try simp only [Act.put, List.setIfInBounds_toArray, List.set_cons_zero, List.set_cons_succ]
          refine' wpAnyH_take (i := 6) (oi := _) (v := _) ?e_9 ?a_9 ?b_9 ?c_9 ?q_9 ?y_9 hHeld ?r_9
          case e_9 => (simp only [List.getElem?_toArray, List.getElem?_cons_zero, List.getElem?_cons_succ]; exact rfl)
          case a_9 => kernel_rfl
          case b_9 => kernel_rfl
          case c_9 => kernel_rfl
          case q_9 => exact fun _ _ _ h => h
          case y_9 => exact Or.inl ⟨by rfl, by (intro w hSw; (try dsimp only at hSw); go_simp; first | done | with_reducible rfl)⟩
          try simp only [Act.put, List.setIfInBounds_toArray, List.set_cons_zero, List.set_cons_succ]
          refine' wpAnyH_take (i := 7) (oi := _) (v := _) ?e_10 ?a_10 ?b_10 ?c_10 ?q_10 ?y_10 hHeld ?r_10
          case e_10 => (simp only [List.getElem?_toArray, List.getElem?_cons_zero, List.getElem?_cons_succ]; exact rfl)
          case a_10 => kernel_rfl
          case b_10 => kernel_rfl
          case c_10 => kernel_rfl
          case q_10 => exact fun _ _ _ h => h
          case y_10 => exact Or.inl ⟨by rfl, by (intro w hSw; (try dsimp only at hSw); go_simp; first | done | with_reducible rfl)⟩
          try simp only [Act.put, List.setIfInBounds_toArray, List.set_cons_zero, List.set_cons_succ]
          refine' wpAnyH_take (i := 8) (oi := _) (v := _) ?e_11 ?a_11 ?b_11 ?c_11 ?q_11 ?y_11 hHeld ?r_11
          case e_11 => (simp only [List.getElem?_toArray, List.getElem?_cons_zero, List.getElem?_cons_succ]; exact rfl)
          case a_11 => kernel_rfl
          case b_11 => kernel_rfl
          case c_11 => kernel_rfl
          case q_11 => exact fun _ _ _ h => h
          case y_11 => exact Or.inl ⟨by rfl, by (intro w hSw; (try dsimp only at hSw); go_simp; first | done | with_reducible rfl)⟩
          try simp only [Act.put, List.setIfInBounds_toArray, List.set_cons_zero, List.set_cons_succ]
          refine wpAnyH_ready (rs := [9]) (by kernel_rfl) (by simp) ?_
          refine' AllReadyH.cons (o := _) ?e_12 ?st_12 AllReadyH.nil
          case e_12 => (simp only [List.getElem?_toArray, List.getElem?_cons_zero, List.getElem?_cons_succ]; exact rfl)
          case st_12 =>
            intro K hK
            go_simp
            have R_wa13 := World.rangeAt_alloc R_wc7 (.cells zBA 50)
            have C0_wa13 := cell_later (below_one (w := wc7) (.cells zBA 50)) C0_wc7
            have C1_wa13 := cell_later (below_one (w := wc7) (.cells zBA 50)) C1_wc7
            have C2_wa13 := cell_later (below_one (w := wc7) (.cells zBA 50)) C2_wc7
            have TR_wa13 := World.there_alloc TR_wc7 (.cells zBA 50)
            have TO_wa13 := World.there_alloc TO_wc7 (.cells zBA 50)
            have B_wa13 := Below.alc B_wc7 (.cells zBA 50)
            have T_wa13 := there_new wc7 zBA 50 (n := 19) (by decide)
            have hg1 : w.heap.size + 1 ≤ wc7.heap.size := by have := B_wc7.size; have := World.block_lt_of_cell? _ _ (cell18 R_wc7 (j := 0) (by omega)); have := World.block_lt_of_cell? _ _ C0_wc7; simp at *; omega
            have hg2 : ∀ x o u, wc7.cell? ⟨x, o, none⟩ = some u → x < wc7.heap.size := fun x o u h => World.block_lt_of_cell? _ _ h
            have hn_C0 := hg2 _ _ _ C0_wc7
            have hn_C1 := hg2 _ _ _ C1_wc7
            have hn_C2 := hg2 _ _ _ C2_wc7
            have hn_R := hg2 _ _ _ (cell18 R_wc7 (j := 0) (by omega))
            unfold zBA at *
            generalize wc7.heap.size = g at *
            generalize World.alloc _ _ = wa13 at *
            clear R_wc7 C0_wc7 C1_wc7 C2_wc7 TR_wc7 TO_wc7 B_wc7 hg2
            refine hK.out _ _ ⟨R_wa13, C0_wa13, C1_wa13, C2_wa13⟩ (fun hHeld => ?_)
            clear hK K
            try simp only [Act.put, List.setIfInBounds_toArray, List.set_cons_zero, List.set_cons_succ]
            refine wpAnyH_ready (rs := [10]) (by kernel_rfl) (by simp) ?_
            refine' AllReadyH.cons (o := _) ?e_15 ?st_15 AllReadyH.nil
            case e_15 => (simp only [List.getElem?_toArray, List.getElem?_cons_zero, List.getElem?_cons_succ]; exact rfl)
            intro K hK
            rw [if_pos (by rfl)]
            refine wp_store_mid _ _ _ rfl _ _ (ints Y).toArray rfl rfl (by rw [show (ints Y).toArray.size = 19 by simp [ints, hY]]; exact T_wa13) (by simpa using hi19 hY) (all_oneCell_toArray ints_one) ?_
            simp only [Act.put, List.setIfInBounds_toArray, List.set_cons_zero, List.set_cons_succ, List.toList_toArray]
            have R_ws14 := World.rangeAt_setCells_apart R_wa13 g 0 (ints Y) (.inl (by omega))
            have C0_ws14 := cell_far2 (g2 := g) (o2 := 0) (vs := ints Y) C0_wa13 (by omega)
            have C1_ws14 := cell_far2 (g2 := g) (o2 := 0) (vs := ints Y) C1_wa13 (by omega)
            have C2_ws14 := cell_far2 (g2 := g) (o2 := 0) (vs := ints Y) C2_wa13 (by omega)
            have TR_ws14 := World.there_setCells TR_wa13 g 0 (ints Y)
            have TO_ws14 := World.there_setCells TO_wa13 g 0 (ints Y)
            have B_ws14 := below_cells (ints Y) wa13 g 0 B_wa13 (by omega)
            have Y_ws14 := World.rangeAt_setCells_same wa13 g 0 (ints Y) (by rw [show (ints Y).length = 19 by simp [ints, hY]]; exact T_wa13)
            have T_ws14 := World.there_setCells T_wa13 g 0 (ints Y)
            have hgV := World.block_lt_of_cell? _ _ (cell18 Y_ws14 (j := 0) (by omega))
            generalize World.setCells _ _ _ _ = ws14 at *
            refine hK.out _ _ ⟨R_ws14, C0_ws14, C1_ws14, C2_ws14⟩ (fun hHeld => ?_)
            clear hK K
            try simp only [Act.put, List.setIfInBounds_toArray, List.set_cons_zero, List.set_cons_succ]
            refine' wpAnyH_take (i := 11) (oi := _) (v := _) ?e_16 ?a_16 ?b_16 ?c_16 ?q_16 ?y_16 hHeld ?r_16
            case e_16 => (simp only [List.getElem?_toArray, List.getElem?_cons_zero, List.getElem?_cons_succ]; exact rfl)
            case a_16 => kernel_rfl
            case b_16 => kernel_rfl
            case c_16 => kernel_rfl
            case q_16 => exact fun _ _ _ h => h
            case y_16 => exact Or.inl ⟨by rfl, by (intro w hSw; (try dsimp only at hSw); go_simp; first | done | with_reducible rfl)⟩
            try simp only [Act.put, List.setIfInBounds_toArray, List.set_cons_zero, List.set_cons_succ]
            refine wpAnyH_done (by kernel_rfl) ?_ _
            rcases hp : possB cur x.1 x.2.1 x.2.2 with _ | _
            · have HF2 : Hid (djsV b js = trV cur k true) := by show _ = _; rw [HF.out, hrun.out.stop hx.out hp]
              have K5 := loadVarB (World.rangeAt_setCells_same ws14 (w.heap.size + 1) 0 (ints cur) (by rw [show (ints cur).length = 19 by simp [ints, hl]]; exact TR_ws14)) hl
              have K6 := below_cells (ints cur) ws14 (w.heap.size + 1) 0 B_ws14 (by omega)
              clear hp
              go_wp2_with (first | (refine wpList_loadB rfl _ rfl _ rfl cur R_ws14 hl ?_) | (refine wpList_storeB rfl _ _ rfl _ cur rfl rfl TR_ws14 hl ?_))
              exact bodyPost_ret (v := trV cur k true) (res_cell3 Try.results35 rfl K5) rfl ⟨by rw [HF2.out], K6⟩
            · have hG := poss_good hl hgc.out hp
              have hN := Lib.hid (hrun.out.next hx.out hp)
              have hY2 : Y = doB cur x.1 x.2.1 x.2.2 := by rw [← HYJ.out]; unfold jobB; rw [if_pos hp]
              rw [← hY2] at hG hN
              have hGG := Lib.hid hG.1
              clear hp hG hY2
              have R5 := Lib.hid (World.rangeAt_setCells_same ws14 o 0 (ints Y) (by rw [show (ints Y).length = 19 by simp [ints, hY]]; exact TO_ws14))
              have U5 := Lib.hid (World.there_setCells TO_ws14 o 0 (ints Y))
              have T5 := Lib.hid (World.there_setCells TR_ws14 o 0 (ints Y))
              have B5 := Lib.hid (below_cells (ints Y) ws14 o 0 B_ws14 (by omega))
              go_wp2_with (first | (refine wpList_loadB rfl _ rfl _ rfl Y Y_ws14 hY ?_) | (refine wpList_storeB rfl _ _ rfl _ Y rfl rfl TO_ws14 hY ?_))
              go_roundw
              case rel => exact ⟨k + 1, Y, by omega, by go_num, hY, hGG, hN, R5.out, U5.out, T5.out, B5.out⟩
              case measure => simp [intOf]; omega
        case more_6 =>
          refine' AllReadyH.cons (o := _) ?e_17 ?st_17 AllReadyH.nil
          case e_17 => (simp only [List.getElem?_toArray, List.getElem?_cons_zero, List.getElem?_cons_succ]; exact rfl)
          case st_17 =>
            intro K hK
            go_simp
            have R_wa18 := World.rangeAt_alloc R_wd (.cells zBA 50)
            have C0_wa18 := cell_later (below_one (w := wd) (.cells zBA 50)) C0_wd
            have C1_wa18 := cell_later (below_one (w := wd) (.cells zBA 50)) C1_wd
            have C2_wa18 := cell_later (below_one (w := wd) (.cells zBA 50)) C2_wd
            have TR_wa18 := World.there_alloc TR_wd (.cells zBA 50)
            have TO_wa18 := World.there_alloc TO_wd (.cells zBA 50)
            have B_wa18 := Below.alc B_wd (.cells zBA 50)
            have T_wa18 := there_new wd zBA 50 (n := 19) (by decide)
            have hg1 : w.heap.size + 1 ≤ wd.heap.size := by have := B_wd.size; have := World.block_lt_of_cell? _ _ (cell18 R_wd (j := 0) (by omega)); have := World.block_lt_of_cell? _ _ C0_wd; simp at *; omega
            have hg2 : ∀ x o u, wd.cell? ⟨x, o, none⟩ = some u → x < wd.heap.size := fun x o u h => World.block_lt_of_cell? _ _ h
            have hn_C0 := hg2 _ _ _ C0_wd
            have hn_C1 := hg2 _ _ _ C1_wd
            have hn_C2 := hg2 _ _ _ C2_wd
            have hn_R := hg2 _ _ _ (cell18 R_wd (j := 0) (by omega))
            unfold zBA at *
            generalize wd.heap.size = g at *
            generalize World.alloc _ _ = wa18 at *
            clear R_wd C0_wd C1_wd C2_wd TR_wd TO_wd B_wd hg2
            refine hK.out _ _ ⟨R_wa18, C0_wa18, C1_wa18, C2_wa18⟩ (fun hHeld => ?_)
            clear hK K
            try simp only [Act.put, List.setIfInBounds_toArray, List.set_cons_zero, List.set_cons_succ]
            refine wpAnyH_ready (rs := [5]) (by kernel_rfl) (by simp) ?_
            refine' AllReadyH.cons (o := _) ?e_19 ?st_19 AllReadyH.nil
            case e_19 => (simp only [List.getElem?_toArray, List.getElem?_cons_zero, List.getElem?_cons_succ]; exact rfl)
            case st_19 =>
              intro K hK
              go_simp
              refine (HLL.out _).mono ?_
              rintro e wc20 ⟨rfl, hx21⟩
              have R_wc20 := range_below R_wa18 hx21
              have C0_wc20 := cell_later hx21 C0_wa18
              have C1_wc20 := cell_later hx21 C1_wa18
              have C2_wc20 := cell_later hx21 C2_wa18
              have TR_wc20 := there_below TR_wa18 hx21
              have TO_wc20 := there_below TO_wa18 hx21
              have B_wc20 := Below.chain B_wa18 hx21
              have T_wc20 := there_below T_wa18 hx21
              clear R_wa18 C0_wa18 C1_wa18 C2_wa18 TR_wa18 TO_wa18 B_wa18 T_wa18 hx21
              go_wp2_with fail
              refine hK.out _ _ ⟨R_wc20, C0_wc20, C1_wc20, C2_wc20⟩ (fun hHeld => ?_)
              clear hK K
              try simp only [Act.put, List.setIfInBounds_toArray, List.set_cons_zero, List.set_cons_succ]
              refine' wpAnyH_take (i := 6) (oi := _) (v := _) ?e_22 ?a_22 ?b_22 ?c_22 ?q_22 ?y_22 hHeld ?r_22
              case e_22 => (simp only [List.getElem?_toArray, List.getElem?_cons_zero, List.getElem?_cons_succ]; exact rfl)
              case a_22 => kernel_rfl
              case b_22 => kernel_rfl
              case c_22 => kernel_rfl
              case q_22 => exact fun _ _ _ h => h
              case y_22 => exact Or.inl ⟨by rfl, by (intro w hSw; (try dsimp only at hSw); go_simp; first | done | with_reducible rfl)⟩
              try simp only [Act.put, List.setIfInBounds_toArray, List.set_cons_zero, List.set_cons_succ]
              refine' wpAnyH_take (i := 7) (oi := _) (v := _) ?e_23 ?a_23 ?b_23 ?c_23 ?q_23 ?y_23 hHeld ?r_23
              case e_23 => (simp only [List.getElem?_toArray, List.getElem?_cons_zero, List.getElem?_cons_succ]; exact rfl)
              case a_23 => kernel_rfl
              case b_23 => kernel_rfl
              case c_23 => kernel_rfl
              case q_23 => exact fun _ _ _ h => h
              case y_23 => exact Or.inl ⟨by rfl, by (intro w hSw; (try dsimp only at hSw); go_simp; first | done | with_reducible rfl)⟩
              try simp only [Act.put, List.setIfInBounds_toArray, List.set_cons_zero, List.set_cons_succ]
              refine' wpAnyH_take (i := 8) (oi := _) (v := _) ?e_24 ?a_24 ?b_24 ?c_24 ?q_24 ?y_24 hHeld ?r_24
              case e_24 => (simp only [List.getElem?_toArray, List.getElem?_cons_zero, List.getElem?_cons_succ]; exact rfl)
              case a_24 => kernel_rfl
              case b_24 => kernel_rfl
              case c_24 => kernel_rfl
              case q_24 => exact fun _ _ _ h => h
              case y_24 => exact Or.inl ⟨by rfl, by (intro w hSw; (try dsimp only at hSw); go_simp; first | done | with_reducible rfl)⟩
              try simp only [Act.put, List.setIfInBounds_toArray, List.set_cons_zero, List.set_cons_succ]
              refine wpAnyH_ready (rs := [10]) (by kernel_rfl) (by simp) ?_
              refine' AllReadyH.cons (o := _) ?e_26 ?st_26 AllReadyH.nil
              case e_26 => (simp only [List.getElem?_toArray, List.getElem?_cons_zero, List.getElem?_cons_succ]; exact rfl)
              intro K hK
              rw [if_pos (by rfl)]
              refine wp_store_mid _ _ _ rfl _ _ (ints Y).toArray rfl rfl (by rw [show (ints Y).toArray.size = 19 by simp [ints, hY]]; exact T_wc20) (by simpa using hi19 hY) (all_oneCell_toArray ints_one) ?_
              simp only [Act.put, List.setIfInBounds_toArray, List.set_cons_zero, List.set_cons_succ, List.toList_toArray]
              have R_ws25 := World.rangeAt_setCells_apart R_wc20 g 0 (ints Y) (.inl (by omega))
              have C0_ws25 := cell_far2 (g2 := g) (o2 := 0) (vs := ints Y) C0_wc20 (by omega)
              have C1_ws25 := cell_far2 (g2 := g) (o2 := 0) (vs := ints Y) C1_wc20 (by omega)
              have C2_ws25 := cell_far2 (g2 := g) (o2 := 0) (vs := ints Y) C2_wc20 (by omega)
              have TR_ws25 := World.there_setCells TR_wc20 g 0 (ints Y)
              have TO_ws25 := World.there_setCells TO_wc20 g 0 (ints Y)
              have B_ws25 := below_cells (ints Y) wc20 g 0 B_wc20 (by omega)
              have Y_ws25 := World.rangeAt_setCells_same wc20 g 0 (ints Y) (by rw [show (ints Y).length = 19 by simp [ints, hY]]; exact T_wc20)
              have T_ws25 := World.there_setCells T_wc20 g 0 (ints Y)
              have hgV := World.block_lt_of_cell? _ _ (cell18 Y_ws25 (j := 0) (by omega))
              generalize World.setCells _ _ _ _ = ws25 at *
              refine hK.out _ _ ⟨R_ws25, C0_ws25, C1_ws25, C2_ws25⟩ (fun hHeld => ?_)
              clear hK K
              try simp only [Act.put, List.setIfInBounds_toArray, List.set_cons_zero, List.set_cons_succ]
              refine' wpAnyH_take (i := 11) (oi := _) (v := _) ?e_27 ?a_27 ?b_27 ?c_27 ?q_27 ?y_27 hHeld ?r_27
              case e_27 => (simp only [List.getElem?_toArray, List.getElem?_cons_zero, List.getElem?_cons_succ]; exact rfl)
              case a_27 => kernel_rfl
              case b_27 => kernel_rfl
              case c_27 => kernel_rfl
              case q_27 => exact fun _ _ _ h => h
              case y_27 => exact Or.inl ⟨by rfl, by (intro w hSw; (try dsimp only at hSw); go_simp; first | done | with_reducible rfl)⟩
              try simp only [Act.put, List.setIfInBounds_toArray, List.set_cons_zero, List.set_cons_succ]
              refine wpAnyH_done (by kernel_rfl) ?_ _
              rcases hp : possB cur x.1 x.2.1 x.2.2 with _ | _
              · have HF2 : Hid (djsV b js = trV cur k true) := by show _ = _; rw [HF.out, hrun.out.stop hx.out hp]
                have K5 := loadVarB (World.rangeAt_setCells_same ws25 (w.heap.size + 1) 0 (ints cur) (by rw [show (ints cur).length = 19 by simp [ints, hl]]; exact TR_ws25)) hl
                have K6 := below_cells (ints cur) ws25 (w.heap.size + 1) 0 B_ws25 (by omega)
                clear hp
                go_wp2_with (first | (refine wpList_loadB rfl _ rfl _ rfl cur R_ws25 hl ?_) | (refine wpList_storeB rfl _ _ rfl _ cur rfl rfl TR_ws25 hl ?_))
                exact bodyPost_ret (v := trV cur k true) (res_cell3 Try.results35 rfl K5) rfl ⟨by rw [HF2.out], K6⟩
              · have hG := poss_good hl hgc.out hp
                have hN := Lib.hid (hrun.out.next hx.out hp)
                have hY2 : Y = doB cur x.1 x.2.1 x.2.2 := by rw [← HYJ.out]; unfold jobB; rw [if_pos hp]
                rw [← hY2] at hG hN
                have hGG := Lib.hid hG.1
                clear hp hG hY2
                have R5 := Lib.hid (World.rangeAt_setCells_same ws25 o 0 (ints Y) (by rw [show (ints Y).length = 19 by simp [ints, hY]]; exact TO_ws25))
                have U5 := Lib.hid (World.there_setCells TO_ws25 o 0 (ints Y))
                have T5 := Lib.hid (World.there_setCells TR_ws25 o 0 (ints Y))
                have B5 := Lib.hid (below_cells (ints Y) ws25 o 0 B_ws25 (by omega))
                go_wp2_with (first | (refine wpList_loadB rfl _ rfl _ rfl Y Y_ws25 hY ?_) | (refine wpList_storeB rfl _ _ rfl _ Y rfl rfl TO_ws25 hY ?_))
                go_roundw
                case rel => exact ⟨k + 1, Y, by omega, by go_num, hY, hGG, hN, R5.out, U5.out, T5.out, B5.out⟩
                case measure => simp [intOf]; omega
      · obtain rfl : k = js.length := by omega
        have HF2 : Hid (djsV b js = trV cur js.length true) := by show _ = _; rw [HF.out, hrun.out.done]
        have K5 := loadVarB (World.rangeAt_setCells_same wr (w.heap.size + 1) 0 (ints cur) (by simpa [hl] using ht)) hl
        have K6 := below_cells (ints cur) wr (w.heap.size + 1) 0 hbw (by omega)
        go_wp2_with (first | (refine wpList_loadB rfl _ rfl _ rfl cur hr hl ?_) | (refine wpList_storeB rfl _ _ rfl _ cur rfl rfl ht hl ?_))
        exact bodyPost_ret (v := trV cur js.length true) (res_cell3 Try.results35 rfl K5) rfl ⟨by rw [HF2.out], K6⟩
end Go.Proofs.Ytfbnmkpkihfocaa
namespace Go.Proofs.Ytfbnmkpkihfocaa
set_option linter.unusedVariables false
set_option linter.unusedSimpArgs false
theorem bn_and_all : ∀ t : Bool, ∀ a b : Fin 128, mvC t ((a.1 &&& b.1 : Nat) : Int) = (((mvC t (a.1 : Int)).toNat &&& (mvC t (b.1 : Int)).toNat : Nat) : Int) := by decide +kernel
theorem bn_or_all : ∀ t : Bool, ∀ a b : Fin 128, mvC t ((a.1 ||| b.1 : Nat) : Int) = (((mvC t (a.1 : Int)).toNat ||| (mvC t (b.1 : Int)).toNat : Nat) : Int) := by decide +kernel
theorem bn_sub_all : ∀ t : Bool, ∀ a : Fin 128, mvC t ((127 - a.1 : Nat) : Int) = ((127 - (mvC t (a.1 : Int)).toNat : Nat) : Int) := by decide +kernel
theorem bn_mv_all : ∀ t : Bool, ∀ a : Fin 128, mvC t (mvC t (a.1 : Int)) = (a.1 : Int) := by decide +kernel
theorem bn_mv (t : Bool) {c : Int} (h0 : 0 ≤ c) (h1 : c ≤ 127) : mvC t (mvC t c) = c := by
  obtain ⟨a, rfl⟩ := Int.eq_ofNat_of_zero_le h0
  exact bn_mv_all t ⟨a, by omega⟩
theorem bn_sh (t : Bool) {d l c : Int} (d0 : 0 ≤ d) (d1 : d ≤ 127) (l0 : 0 ≤ l) (l1 : l ≤ 127) (c0 : 0 ≤ c) (c1 : c ≤ 127) :
    mvC t (shC d l c) = shC (mvC t d) (mvC t l) (mvC t c) := by
  obtain ⟨d, rfl⟩ := Int.eq_ofNat_of_zero_le d0
  obtain ⟨l, rfl⟩ := Int.eq_ofNat_of_zero_le l0
  obtain ⟨c, rfl⟩ := Int.eq_ofNat_of_zero_le c0
  have hd : d < 128 := by omega
  have hl : l < 128 := by omega
  have hc : c < 128 := by omega
  have h1 : c &&& (127 - d) < 2 ^ 7 := Nat.and_lt_two_pow _ (by omega)
  unfold shC
  simp only [Int.toNat_natCast]
  rw [bn_or_all t ⟨c &&& (127 - d), by omega⟩ ⟨l, hl⟩]
  simp only
  rw [bn_and_all t ⟨c, hc⟩ ⟨127 - d, by omega⟩]
  simp only [Int.toNat_natCast]
  rw [bn_sub_all t ⟨d, hd⟩]
  simp only [Int.toNat_natCast]
theorem sh_bd {b : List Int} (h : goodB b = true) {k : Nat} (hk : k < 6) : 0 ≤ shAt b k ∧ shAt b k ≤ 127 := by
  obtain ⟨⟨d0, d1, l0, l1⟩, c0, c1⟩ := goodB_at h hk
  exact shC_bd c0 c1 l0 l1
/-- the row as it is seen from behind, or in a mirror -/
def bwL (t : Bool) (xs : List Int) : List Int := (xs.map (mvC t)).reverse
theorem shRow {b : List Int} (h : goodB b = true) : rowB (shTo b 6) = true := by
  unfold rowB
  rw [decide_eq_true (by simp [shTo]), Bool.true_and, List.all_eq_true]
  intro x hx
  unfold shTo at hx
  rw [List.mem_map] at hx
  obtain ⟨k, hk, rfl⟩ := hx
  have := sh_bd h (List.mem_range.1 hk)
  exact cellB_mk this.1 this.2
theorem seen_row (t : Bool) {b : List Int} (hb : b.length = 19) (hg : goodB b = true) (y : Int) : shTo ((seenI t b 6).set 18 y) 6 = bwL t (shTo b 6) := by
  have ha := fun k (hk : k < 6) => goodB_at hg hk
  match b, hb with
  | [x0, x1, x2, x3, x4, x5, x6, x7, x8, x9, x10, x11, x12, x13, x14, x15, x16, x17, x18], _ =>
    rw [seenI_x]
    obtain ⟨⟨d0, d1, l0, l1⟩, c0, c1⟩ := ha 0 (by omega)
    have h0 := bn_sh t d0 d1 l0 l1 c0 c1
    obtain ⟨⟨d0, d1, l0, l1⟩, c0, c1⟩ := ha 1 (by omega)
    have h1 := bn_sh t d0 d1 l0 l1 c0 c1
    obtain ⟨⟨d0, d1, l0, l1⟩, c0, c1⟩ := ha 2 (by omega)
    have h2 := bn_sh t d0 d1 l0 l1 c0 c1
    obtain ⟨⟨d0, d1, l0, l1⟩, c0, c1⟩ := ha 3 (by omega)
    have h3 := bn_sh t d0 d1 l0 l1 c0 c1
    obtain ⟨⟨d0, d1, l0, l1⟩, c0, c1⟩ := ha 4 (by omega)
    have h4 := bn_sh t d0 d1 l0 l1 c0 c1
    obtain ⟨⟨d0, d1, l0, l1⟩, c0, c1⟩ := ha 5 (by omega)
    have h5 := bn_sh t d0 d1 l0 l1 c0 c1
    show [shC (mvC t x11) (mvC t x17) (mvC t x5), shC (mvC t x10) (mvC t x16) (mvC t x4), shC (mvC t x9) (mvC t x15) (mvC t x3), shC (mvC t x8) (mvC t x14) (mvC t x2), shC (mvC t x7) (mvC t x13) (mvC t x1), shC (mvC t x6) (mvC t x12) (mvC t x0)] =
      [mvC t (shC x11 x17 x5), mvC t (shC x10 x16 x4), mvC t (shC x9 x15 x3), mvC t (shC x8 x14 x2), mvC t (shC x7 x13 x1), mvC t (shC x6 x12 x0)]
    rw [show mvC t (shC x11 x17 x5) = _ from h5, show mvC t (shC x10 x16 x4) = _ from h4, show mvC t (shC x9 x15 x3) = _ from h3, show mvC t (shC x8 x14 x2) = _ from h2, show mvC t (shC x7 x13 x1) = _ from h1, show mvC t (shC x6 x12 x0) = _ from h0]
    rfl
theorem seen_home (t : Bool) {b : List Int} (hb : b.length = 19) (hg : goodB b = true) (y z : Int) : ((seenI t ((seenI t b 6).set 18 y) 6).set 18 z).set 18 (bg b 18) = b := by
  have ha := fun k (hk : k < 6) => goodB_at hg hk
  match b, hb with
  | [x0, x1, x2, x3, x4, x5, x6, x7, x8, x9, x10, x11, x12, x13, x14, x15, x16, x17, x18], _ =>
    rw [seenI_x]
    show ((seenI t [mvC t x5, mvC t x4, mvC t x3, mvC t x2, mvC t x1, mvC t x0, mvC t x11, mvC t x10, mvC t x9, mvC t x8, mvC t x7, mvC t x6, mvC t x17, mvC t x16, mvC t x15, mvC t x14, mvC t x13, mvC t x12, y] 6).set 18 z).set 18 x18 = _
    rw [seenI_x]
    obtain ⟨⟨d0, d1, l0, l1⟩, c0, c1⟩ := ha 0 (by omega)
    have a0 : mvC t (mvC t x0) = x0 := bn_mv t c0 c1
    have b0 : mvC t (mvC t x6) = x6 := bn_mv t d0 d1
    have e0 : mvC t (mvC t x12) = x12 := bn_mv t l0 l1
    obtain ⟨⟨d0, d1, l0, l1⟩, c0, c1⟩ := ha 1 (by omega)
    have a1 : mvC t (mvC t x1) = x1 := bn_mv t c0 c1
    have b1 : mvC t (mvC t x7) = x7 := bn_mv t d0 d1
    have e1 : mvC t (mvC t x13) = x13 := bn_mv t l0 l1
    obtain ⟨⟨d0, d1, l0, l1⟩, c0, c1⟩ := ha 2 (by omega)
    have a2 : mvC t (mvC t x2) = x2 := bn_mv t c0 c1
    have b2 : mvC t (mvC t x8) = x8 := bn_mv t d0 d1
    have e2 : mvC t (mvC t x14) = x14 := bn_mv t l0 l1
    obtain ⟨⟨d0, d1, l0, l1⟩, c0, c1⟩ := ha 3 (by omega)
    have a3 : mvC t (mvC t x3) = x3 := bn_mv t c0 c1
    have b3 : mvC t (mvC t x9) = x9 := bn_mv t d0 d1
    have e3 : mvC t (mvC t x15) = x15 := bn_mv t l0 l1
    obtain ⟨⟨d0, d1, l0, l1⟩, c0, c1⟩ := ha 4 (by omega)
    have a4 : mvC t (mvC t x4) = x4 := bn_mv t c0 c1
    have b4 : mvC t (mvC t x10) = x10 := bn_mv t d0 d1
    have e4 : mvC t (mvC t x16) = x16 := bn_mv t l0 l1
    obtain ⟨⟨d0, d1, l0, l1⟩, c0, c1⟩ := ha 5 (by omega)
    have a5 : mvC t (mvC t x5) = x5 := bn_mv t c0 c1
    have b5 : mvC t (mvC t x11) = x11 := bn_mv t d0 d1
    have e5 : mvC t (mvC t x17) = x17 := bn_mv t l0 l1
    rw [a0, a1, a2, a3, a4, a5, b0, b1, b2, b3, b4, b5, e0, e1, e2, e3, e4, e5]
    rfl
/-- whether a Job turns, and which way -/
def kT (k : Int) : Bool := k == 6
theorem do67 {b : List Int} {k a v : Int} (hb : b.length = 19) (hg : goodB b = true) (hp : possB b k a v = true) (hk : k = 6 ∨ k = 7) :
    doB b k a v = (seenI (kT k) b 6).set 18 (bg b 18 + 1) := by
  have h3 := (cnt_good hb hg (poss_make hp)).2.2
  rw [h3]
  rcases hk with rfl | rfl <;> rfl
theorem do_18 {b : List Int} {k a v : Int} (hb : b.length = 19) (hg : goodB b = true) (hp : possB b k a v = true) : bg (doB b k a v) 18 = bg b 18 + 1 := by
  obtain ⟨_, hl, h3⟩ := cnt_good hb hg (poss_make hp)
  rw [h3, bg_set_same _ (by rw [h3, List.length_set] at hl; omega)]
theorem poss67 {b : List Int} {k a v : Int} (hp : possB b k a v = true) (hk : k = 6 ∨ k = 7) : a = 0 ∧ v = 0 := by
  have h := poss_make hp
  unfold makeB at h
  simp only [Bool.and_eq_true] at h
  have h1 := inB_true h.1
  have h2 := h.2
  unfold makeK at h2
  rcases hk with rfl | rfl
  all_goals
    simp at h2
    exact ⟨by omega, h2.2⟩
theorem poss_again {b : List Int} {k a v : Int} (hb : b.length = 19) (hg : goodB b = true) (hp : possB b k a v = true) (hk : k = 6 ∨ k = 7) (hc : bg b 18 + 1 ≠ 1000) : possB (doB b k a v) k a v = true := by
  obtain ⟨rfl, rfl⟩ := poss67 hp hk
  unfold possB
  rw [do_18 hb hg hp, show (bg b 18 + 1 == 1000) = false by simpa using hc]
  rcases hk with rfl | rfl <;> rfl
theorem home_eq {b : List Int} {k a v : Int} (hb : b.length = 19) (hg : goodB b = true) (hp : possB b k a v = true) (hk : k = 6 ∨ k = 7) (hc : bg b 18 + 1 ≠ 1000) :
    ((doB (doB b k a v) k a v).set 18 (bg b 18)) = b := by
  have hg2 := poss_good hb hg hp
  rw [do67 hg2.2 hg2.1 (poss_again hb hg hp hk hc) hk, do67 hb hg hp hk]
  exact seen_home (kT k) hb hg _ _
/-- all that the law asks of a Job that is possible -/
theorem bn_fine {b : List Int} {k a v : Int} (hb : b.length = 19) (hg : goodB b = true) (hp : possB b k a v = true) :
    goodB (doB b k a v) = true ∧ (doB b k a v).length = 19 ∧ bg (doB b k a v) 18 = bg b 18 + 1 := by
  have := poss_good hb hg hp
  exact ⟨this.1, this.2, do_18 hb hg hp⟩
theorem runJ_good : ∀ (js : List J3) {b : List Int}, b.length = 19 → goodB b = true → goodB (runJ js b).1 = true
  | [], b, _, hg => hg
  | j :: t, b, hb, hg => by
    unfold runJ
    split
    · rename_i h
      have := poss_good hb hg h
      exact runJ_good t this.2 this.1
    · exact hg
theorem djsV_good {b : List Int} (hb : b.length = 19) (js : List J3) : ∃ Y n ok, djsV b js = trV Y n ok ∧ Y.length = 19 ∧ (ok = true → goodB Y = true) := by
  unfold djsV
  rcases hg : goodB b with _ | _
  · exact ⟨zeroI, 0, false, rfl, by simp [zeroI], fun h => by cases h⟩
  · exact ⟨_, _, _, rfl, runJ_len js hb hg, fun _ => runJ_good js hb hg⟩
/-- the Bench that NewBench makes of a row -/
def padB (r : List Int) : List Int := r ++ List.replicate (19 - r.length) 0
def nbB (r : List Int) : List Int := if rowB r then padB r else zeroI
theorem rowB_len {r : List Int} (h : rowB r = true) : r.length ≤ 6 := by
  unfold rowB at h; simp only [Bool.and_eq_true, decide_eq_true_eq] at h; exact h.1
theorem padB_len {r : List Int} (h : r.length ≤ 6) : (padB r).length = 19 := by simp [padB]; omega
theorem nbB_len (r : List Int) : (nbB r).length = 19 := by
  unfold nbB
  split
  · exact padB_len (rowB_len ‹_›)
  · simp [zeroI]
theorem bg_pad_hi {r : List Int} (h : r.length ≤ 6) {j : Nat} (hj : r.length ≤ j) (hj2 : j < 19) : bg (padB r) j = 0 := by
  unfold bg padB
  rw [List.getD_eq_getElem?_getD, List.getElem?_append_right hj, List.getElem?_replicate]
  split <;> rfl
theorem bg_pad_lo {r : List Int} {j : Nat} (hj : j < r.length) : bg (padB r) j = bg r j := by
  unfold bg padB
  rw [List.getD_eq_getElem?_getD, List.getElem?_append_left hj, List.getD_eq_getElem?_getD]
theorem nbB_good {r : List Int} (h : rowB r = true) : goodB (nbB r) = true := by
  have hl := rowB_len h
  unfold nbB
  rw [if_pos h, goodB_all]
  refine ⟨fun j hj => ?_, by rw [bg_pad_hi hl (by omega) (by omega)]; rfl⟩
  have hf : faultB (bg (padB r) (6 + j)) (bg (padB r) (12 + j)) = true := by rw [bg_pad_hi hl (by omega) (by omega), bg_pad_hi hl (by omega) (by omega)]; rfl
  by_cases hj2 : j < r.length
  · have hc := rowB_cell h (List.getElem?_eq_getElem hj2)
    have e : bg (padB r) j = r[j] := by rw [bg_pad_lo hj2]; simp [bg, hj2]
    exact goodAt_mk (by rw [e]; exact hc.1) (by rw [e]; exact hc.2) hf
  · exact goodAt_mk (by rw [bg_pad_hi hl (by omega) (by omega)]; decide) (by rw [bg_pad_hi hl (by omega) (by omega)]; decide) hf
end Go.Proofs.Ytfbnmkpkihfocaa
