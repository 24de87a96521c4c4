/- Texts of this claim, gathered: DrawC, Back, Bnq, Bnl, Del, DelV, SS, HelpFault. -/
import Derived.Test.YtfbnmkpkihfocaaK12
import Derived.Test.YtfbnmkpkihfocaaShelf
import Derived.Sort.OwnSortedInts
import Derived.Lib.OwnBridge
import Derived.DeepKeys
import Derived.ChangeKeysEq
import Derived.Laws.StructEq
import Derived.Deep.RegionHeld3
namespace Go.Proofs.Ytfbnmkpkihfocaa
open Go.RowKit
set_option linter.unusedVariables false
set_option linter.unusedSimpArgs false
set_option maxRecDepth 100000
theorem res_cells2 {P : Program} {fn : Func} {r r2 : Nat} {t t2 : TypeId} {tmps : Array Value} {w : World} {g g2 : Nat} {v v2 : Value} (h : fn.results = #[.cell r t, .cell r2 t2]) (hr : tmps.getD r undef = .pointer (some ⟨g, 0, none⟩)) (hr2 : tmps.getD r2 undef = .pointer (some ⟨g2, 0, none⟩)) (hl : (loadVar t ⟨g, 0, none⟩).run P w = .ok v w) (hl2 : (loadVar t2 ⟨g2, 0, none⟩).run P w = .ok v2 w) :
    (results fn tmps).run P w = .ok (.tuple #[v, v2]) w := by
  unfold results
  rw [h]
  simp only [List.mapM_toArray, List.mapM_cons, List.mapM_nil, Sem.run_bind, Sem.run_pure, Sem.run_map, Result.andThen_ok, hr, hr2, asAddr, hl, hl2]
  rfl
theorem grow_puts : ∀ (vs : List Value) (w : World) (g o : Nat), w.grownBy (w.setCells g o vs) (some g)
  | [], w, g, o => grow_refl _ _
  | v :: r, w, g, o => grow_trans (show w.grownBy (w.setCell ⟨g, o, none⟩ v) (some g) from ⟨rfl, rfl, rfl, by simp [World.setCell], fun k hk hne => Below.heap_setCell _ _ _ _ (fun e => hne (by rw [e]))⟩) (grow_puts r _ g (o + 1))
theorem own_puts {w : World} {lo n size g o : Nat} {E : TypeId} {v : Value} {xs vs : List Value} (ho : w.ownsRow lo E size v n xs) (hlo : g < lo) : (w.setCells g o vs).ownsRow lo E size v n xs :=
  ho.kept (grow_puts vs w g o) (by
    rcases ho.2 with ⟨rfl, _⟩ | ⟨k, cap, cur, rfl, hb, _⟩
    · exact Or.inl rfl
    · right; simp [Value.ownBlock]; omega)
theorem DrawNewBench_c (v : Value) (xs : List Nat) (w : World) (h : Code w v xs) :
    Calls Try.prog 27 #[v] w fun e w' => ∃ (u : Value) (r : List Int), e = .returned u ∧ Ints w' u r ∧ Below w.heap.size w w' := by
  have HK := Lib.hid (cur_new h)
  obtain ⟨a, c, rfl, _⟩ := h
  go_enter Try.func27, Try.ntmps27
  go_wp2_with fail
  refine (row_c w.heap.size 0 _ HK.out (by omega)).mono ?_
  rintro e w1 ⟨u, r, rfl, hl, ho, hs⟩
  have HI := Lib.hid (Ints.of_own ho)
  have HB := Lib.hid (draw_below hs)
  clear ho hs HK
  go_wp2
  go_ret
  exact ⟨u, r, rfl, HI.out, HB.out⟩
set_option maxHeartbeats 4000000 in
theorem DrawDoJob_c (v : Value) (xs : List Nat) (w : World) (h : Code w v xs) :
    Calls Try.prog 30 #[v] w fun e w' => ∃ (b : List Int) (k a j : Int), b.length = 19 ∧ e = .returned (.tuple #[aggI b, jobV k a j]) ∧ Below w.heap.size w w' := by
  have B0 := below_one (w := w) (.cells zBA 50)
  have B1 := Below.alc B0 (.cells #[.int .i64 0, .int .i64 0, .int .i64 0] 54)
  have R0 := Lib.hid ((Bk.new w 50 zBA).alloc (.cells #[.int .i64 0, .int .i64 0, .int .i64 0] 54))
  have J0 := Lib.hid (Bk.new (w.alloc (.cells zBA 50)) 54 #[.int .i64 0, .int .i64 0, .int .i64 0])
  have HK := Lib.hid (cur_new (h.below B1))
  have BW := Lib.hid B1
  obtain ⟨a, c, rfl, _⟩ := h
  have R1 := Lib.hid (R0.out.alloc (.cells #[.slice a xs.length c, .int .i64 0, .int .u64 0] 75))
  have J1 := Lib.hid (J0.out.alloc (.cells #[.slice a xs.length c, .int .i64 0, .int .u64 0] 75))
  simp only [World.size_alloc] at HK J1
  clear B0 B1 R0 J0
  unfold aggI jobV
  unfold zBA at *
  go_enter Try.func30, Try.ntmps30
  go_wp2_with fail
  refine (bench_c (w.heap.size + 1 + 1) 0 _ HK.out (by omega)).mono ?_
  rintro e w1 ⟨b, hl, rfl, hs⟩
  have HS := Lib.hid hs
  have R2 := Lib.hid (R1.out.step hs (by omega))
  have J2 := Lib.hid (J1.out.step hs (by omega))
  clear hs R1 J1
  go_wp2_with fail
  refine (job12_c (w.heap.size + 1 + 1) _ _ HS.out.cur (by omega)).mono ?_
  rintro e w2 ⟨k, ja, jb, rfl, hs⟩
  have HB : Hid (Below w.heap.size w w2) := BW.out.trans (((below_one (w := ((w.alloc (.cells zBA 50)).alloc (.cells #[.int .i64 0, .int .i64 0, .int .i64 0] 54))) _).mono (by simp; omega)).trans ((HS.out.trans hs).low (by omega) (by simp; omega)))
  have R3 := R2.out.step hs (by omega)
  have J3 := J2.out.step hs (by omega)
  have rt := R3.there (n := 19) (by decide)
  have R4 : Bk (w2.setCells w.heap.size 0 (ints b)) w.heap.size 50 (ints b).toArray := Bk.putB (b := zeroI) R3 zero_len hl
  have J4 := J3.far (ints b) (g2 := w.heap.size) 0 (by omega)
  have R5 := Lib.hid (((R4.other (p := ⟨w.heap.size + 1, 0, none⟩) (by simp) (.int .i64 k)).other (p := ⟨w.heap.size + 1, 1, none⟩) (by simp) (.int .i64 ja)).other (p := ⟨w.heap.size + 1, 2, none⟩) (by simp) (.int .i64 jb))
  have J5 := Lib.hid (three_resB J4 (.int .i64 k) (.int .i64 ja) (.int .i64 jb))
  have L1 := loadVarB R5.out.range hl
  have L2 := loadVarJ J5.out
  have HB2 := Lib.hid ((((below_cells (ints b) w2 w.heap.size 0 HB.out (Nat.le_refl _)).setCell (p := ⟨w.heap.size + 1, 0, none⟩) (by simp) (.int .i64 k)).setCell (p := ⟨w.heap.size + 1, 1, none⟩) (by simp) (.int .i64 ja)).setCell (p := ⟨w.heap.size + 1, 2, none⟩) (by simp) (.int .i64 jb))
  have q0 := J4.cell 0
  have q1 := J4.cell 1
  have q2 := J4.cell 2
  have e0 := J4.frozen 0
  have e1 := J4.frozen 1
  have e2 := J4.frozen 2
  simp at q0 q1 q2 e0 e1 e2
  clear hs HS R2 J2 R3 J3 R4 J4 R5 J5
  unfold jobV
  go_wp2_with (refine wpList_storeB rfl _ _ rfl _ b rfl rfl ?_ hl ?_; exact rt)
  exact bodyPost_ret (v := .tuple #[.agg (ints b).toArray, .agg #[.int .i64 k, .int .i64 ja, .int .i64 jb]]) (res_cells2 Try.results30 rfl rfl L1 L2) rfl ⟨b, k, ja, jb, hl, rfl, HB2.out⟩
set_option maxHeartbeats 4000000 in
theorem DrawDoJobs_c (v : Value) (xs : List Nat) (w : World) (h : Code w v xs) :
    Calls Try.prog 33 #[v] w fun e w' => ∃ (b : List Int) (u : Value) (js : List J3), b.length = 19 ∧ e = .returned (.tuple #[aggI b, u]) ∧ Trips w' u js ∧ Below w.heap.size w w' := by
  obtain ⟨i, hi, hz0, hz1, hz2⟩ := info_parts info_Job
  have B0 := below_one (w := w) (.cells zBA 50)
  have HK := Lib.hid (cur_new (h.below B0))
  have BW := Lib.hid B0
  obtain ⟨a, c, rfl, _⟩ := h
  have R1 := Lib.hid ((Bk.new w 50 zBA).alloc (.cells #[.slice a xs.length c, .int .i64 0, .int .u64 0] 75))
  simp only [World.size_alloc] at HK
  clear B0
  unfold aggI
  unfold zBA at *
  have hga : w.heap.size + 1 < ((w.alloc (.cells zBA 50)).alloc (.cells #[.slice a xs.length c, .int .i64 0, .int .u64 0] 75)).heap.size := by simp
  go_enter Try.func33, Try.ntmps33
  go_wp2_with fail
  refine (bench_c (w.heap.size + 1) 0 _ HK.out (by omega)).mono ?_
  rintro e w1 ⟨b, hl, rfl, hs⟩
  have HS1 := Lib.hid (hs.alloc (.cells zBA 50))
  have R2 := Lib.hid ((R1.out.step hs (by omega)).alloc (.cells zBA 50))
  have O2 := Lib.hid (Bk.new w1 50 zBA)
  have hgl : w.heap.size + 1 < w1.heap.size := hs.cur.lt
  have rt := O2.out.there (n := 19) (by decide)
  have HS2 := Lib.hid ((HS1.out.puts (ints b) (g2 := w1.heap.size) 0 hga hs.gr.size).alloc (.cells #[] 54))
  have R3 := Lib.hid ((R2.out.far (ints b) (g2 := w1.heap.size) 0 (by omega)).alloc (.cells #[] 54))
  have O3 := Lib.hid ((show Bk ((w1.alloc (.cells zBA 50)).setCells w1.heap.size 0 (ints b)) w1.heap.size 50 (ints b).toArray from Bk.putB (b := zeroI) O2.out zero_len hl).alloc (.cells #[] 54))
  have P3 : Hid (World.ownsRow (((w1.alloc (.cells zBA 50)).setCells w1.heap.size 0 (ints b)).alloc (.cells #[] 54)) (w1.heap.size + 1) 54 3 (.slice (some ⟨w1.heap.size + 1, 0, none⟩) 0 0) 0 []) := by
    have h0 := World.ownsRow_lit (e := 54) (size := 3) (base := w1.heap.size + 1) ((w1.alloc (.cells zBA 50)).setCells w1.heap.size 0 (ints b)) #[] 0 (by rw [size_setCells]; simp) (by decide) rfl
    rw [size_setCells, World.size_alloc] at h0
    exact h0
  have hsz : (((w1.alloc (.cells zBA 50)).setCells w1.heap.size 0 (ints b))).heap.size = w1.heap.size + 1 := by rw [size_setCells, World.size_alloc]
  clear hs HK R1 HS1 R2 O2
  unfold zBA at *
  go_wp2_with (refine wpList_storeB rfl _ _ rfl _ b rfl rfl ?_ hl ?_; exact rt)
  generalize World.setCells _ w1.heap.size 0 (ints b) = w2 at *
  generalize w1.heap.size = O at *
  refine (pick_c 7 (w.heap.size + 1) _ _ HS2.out.cur (by omega)).mono ?_
  rintro e w3 ⟨x, rfl, hx, hs⟩
  have HS3 := Lib.hid (HS2.out.trans hs)
  have R4 := Lib.hid (R3.out.step hs (by omega))
  have O4 := Lib.hid (O3.out.step hs (by omega))
  have P4 := Lib.hid (hs.row P3.out (by omega))
  obtain ⟨n, rfl⟩ := Int.eq_ofNat_of_zero_le hx.1
  have hn : n ≤ 6 := by have := hx.2 (by omega); omega
  clear hs hx HS2 R3 O3 P3 rt
  go_wp2
  go_loopw [6, 7] (fun o j wr => ∃ (k : Nat) (js : List J3), k ≤ 6 ∧ j = .int .i64 (k : Int) ∧ js.length + k ≤ 6 ∧ Hid (wr.ownsRow (O + 1) 54 3 o js.length (flat3 js)) ∧ Hid (Bk wr O 50 (ints b).toArray) ∧ Hid (Bk wr w.heap.size 50 (ints zeroI).toArray) ∧ Hid (CStep ((w.alloc (.cells zBA 50)).alloc (.cells #[.slice a xs.length c, .int .i64 0, .int .u64 0] 75)) wr (w.heap.size + 1) (500 + 20 * (7 - k)))) (fun _ j _ => (intOf j).toNat)
  case atStart => exact ⟨n, [], hn, rfl, by simpa using hn, P4, O4, R4, HS3.out.mono (by omega)⟩
  case round =>
    obtain ⟨k, js, hk, rfl, hlj, PP, OO, RR, CC⟩ := hrel
    by_cases hk0 : 0 < k
    · have hd : decide (0 < (k : Int)) = true := by simp; omega
      go_wp2_with fail
      refine (job12_c (w.heap.size + 1) _ _ CC.out.cur (by omega)).mono ?_
      rintro e w4 ⟨jk, ja, jb, rfl, hs⟩
      have CS := Lib.hid ((CC.out.trans hs).alloc (.cells #[.int .i64 jk, .int .i64 ja, .int .i64 jb] 54))
      have P5 := Lib.hid (hs.row PP.out (by omega))
      have O5 := Lib.hid ((OO.out.step hs (by omega)).alloc (.cells #[.int .i64 jk, .int .i64 ja, .int .i64 jb] 54))
      have R5 := Lib.hid ((RR.out.step hs (by omega)).alloc (.cells #[.int .i64 jk, .int .i64 ja, .int .i64 jb] 54))
      have hgo : O + 1 ≤ w4.heap.size := (OO.out.step hs (by omega)).lt
      clear hs PP OO RR CC
      unfold jobV
      go_wp2_with (at_builtin; refine wpList_append_own_at _ rfl _ _ 58 rfl (O + 1) 54 i (.agg #[.int .i64 0, .int .i64 0, .int .i64 0]) 3 24 Try.underlying58 hi hz0 hz1 hz2 rfl (by decide) _ js.length (flat3 js) rfl (P5.out.alloc _) ⟨w4.heap.size, 0, none⟩ 1 1 [.int .i64 jk, .int .i64 ja, .int .i64 jb] rfl rfl (news_new _ [.int .i64 jk, .int .i64 ja, .int .i64 jb] _) (by simp [Value.oneCell']) (by unfold maxLen; omega) (by omega) (by simp; omega) ?_)
      intro v' w5 ho5 hg5 _ _
      have hlt5 := (P5.out.alloc (.cells #[.int .i64 jk, .int .i64 ja, .int .i64 jb] 54)).lt
      have CS6 := Lib.hid (CS.out.grown hg5 hga (fun k hk => by have := (hlt5 k hk).1; simp only [World.size_alloc]; omega))
      have O6 := Lib.hid (O5.out.grown hg5 (fun e => by have := (hlt5 O e.symm).1; omega))
      have R6 := Lib.hid (R5.out.grown hg5 (fun e => by have := (hlt5 w.heap.size e.symm).1; omega))
      have P6 := Lib.hid ho5
      clear ho5 hg5 hlt5 P5 O5 R5 CS
      go_wp2
      go_roundw
      case rel => exact ⟨k - 1, js ++ [(jk, ja, jb)], by omega, by go_num, by simp; omega, ownsRow_cast P6.out (by simp) (by rw [flat3_append]; rfl), O6, R6, CS6.out.mono (by omega)⟩
      case measure => simp [intOf]; omega
    · obtain rfl : k = 0 := by omega
      have hd : decide (0 < ((0 : Nat) : Int)) = false := by simp
      have ar := OO.out.range
      have rt := RR.out.there (n := 19) (by rw [ints_size zero_len]; decide)
      have hB : Below w.heap.size w wr := BW.out.trans (((below_one (w := w.alloc (.cells zBA 50)) _).mono (by simp)).trans (CC.out.low (by omega) (by simp; omega)))
      have HB2 := Lib.hid (below_cells (ints b) wr w.heap.size 0 hB (Nat.le_refl _))
      have L1 := loadVarB (Bk.putB RR.out zero_len hl).range hl
      have HT := Lib.hid (Trips.of_own (own_puts (g := w.heap.size) (o := 0) (vs := ints b) PP.out (by omega)))
      clear hB OO RR CC PP
      go_wp2_with (first | (refine wpList_loadB rfl _ rfl _ rfl b ?_ hl ?_; exact ar) | (refine wpList_storeB rfl _ _ rfl _ b rfl rfl ?_ hl ?_; exact rt))
      exact bodyPost_ret (v := .tuple #[.agg (ints b).toArray, _]) (res_cell2 Try.results33 rfl L1) rfl ⟨b, _, js, hl, rfl, HT.out, HB2.out⟩
end Go.Proofs.Ytfbnmkpkihfocaa
namespace Go.Proofs.Ytfbnmkpkihfocaa
open Go.RowKit
set_option linter.unusedVariables false
set_option maxRecDepth 100000
theorem Reverse_c (v : Value) (xs : List Int) (lo : Nat) (w : World) (ho : w.ownsRow lo 3 1 v xs.length (xs.map (Value.int .i64))) (hn : xs.length ≤ 1048576) :
    Calls Try.prog 100 #[v] w fun e w' => e = .returned (.tuple #[]) ∧ w'.ownsRow lo 3 1 v xs.length (xs.reverse.map (Value.int .i64)) ∧ w.grownBy w' v.ownBlock := by
  by_cases hz : xs.length = 0
  · obtain ⟨a, c, rfl, _⟩ := (Sl.of_own ho).slice
    have hx : xs = [] := List.eq_nil_of_length_eq_zero hz
    subst hx
    refine (Try.slices_Reverse_int_empty a c w).mono ?_
    rintro e w' ⟨rfl, rfl⟩
    exact ⟨rfl, by simpa using ho, World.grownBy.refl _ _⟩
  · have hv : v ≠ .slice none 0 0 := by
      intro e
      obtain ⟨a, c, e2, _⟩ := (Sl.of_own ho).slice
      rw [e] at e2
      injection e2 with _ e3
      omega
    obtain ⟨g, cap, rfl, hlo, hlt, h1, h2, _, hH⟩ := Lib.holds_of_ownsRow ho hv
    refine (Try.slices_Reverse_int g 0 cap xs w hH (by omega)).mono ?_
    rintro e w' ⟨rfl, q, rfl⟩
    have h3 := Lib.ownsRow_putRow (q := q) (k := xs.length) (ys := xs.reverse) ho (by simp) (Nat.le_refl _)
    rw [List.take_of_length_le (by simp)] at h3
    have h4 := grownBy_sortedI (w := w) (g := g) (n := q) (os := #[]) xs.reverse.toArray
    rw [Sort.grow_empty] at h4
    exact ⟨rfl, h3, h4⟩

/-- the first cells of a row, moved -/
def mvTo (t : Bool) (xs : List Int) (k : Nat) : List Int := (xs.take k).map (mvC t)
theorem mvTo_len (t : Bool) (xs : List Int) : (mvTo t xs xs.length).length = xs.length := by simp [mvTo]
theorem mvTo_all (t : Bool) (xs : List Int) : mvTo t xs xs.length = xs.map (mvC t) := by simp [mvTo]
theorem backwardsT_c (v : Value) (xs : List Int) (w : World) (hv : Ints w v xs) (hx : ∀ (k : Nat) (x : Int), xs[k]? = some x → 0 ≤ x ∧ x ≤ 127) (hn : xs.length ≤ 6) :
    Calls Try.prog 85 #[v, .func (.func 86) #[] #[]] w fun e w' => ∃ u, e = .returned u ∧ w'.ownsRow w.heap.size 3 1 u xs.length (((xs.map (mvC true)).reverse).map (Value.int .i64)) ∧ Below w.heap.size w w' := by
  obtain ⟨i, hi, hz0, hz1, hz2⟩ := info_parts info_int
  have HV := Lib.hid hv
  have HX := Lib.hid hx
  obtain ⟨a, c, rfl, _, _, _⟩ := hv.parts
  clear hv hx
  go_enter Try.func85, Try.ntmps85
  go_wp2
  go_loopw [5, 10] (fun o j wr => ∃ k : Nat, k ≤ xs.length ∧ j = .int .i64 (k : Int) ∧ wr.ownsRow w.heap.size 3 1 o k ((mvTo true xs k).map (Value.int .i64)) ∧ Below w.heap.size w wr) (fun _ j _ => 7 - (intOf j).toNat)
  case atStart => exact ⟨0, by omega, rfl, World.ownsRow_nil _ _ _ _, Below.refl _ _⟩
  case round =>
    obtain ⟨k, hk, rfl, ho, hb⟩ := hrel
    by_cases hlt : k < xs.length
    · have hd : decide ((k : Int) < (xs.length : Int)) = true := by simp; omega
      obtain ⟨x, hxx⟩ := elem_at hlt
      obtain ⟨_, _, he, _, _, H2⟩ := (HV.out.below hb).parts
      simp only [Value.slice.injEq, true_and] at he
      obtain ⟨rfl, rfl⟩ := he
      obtain ⟨b, off, rfl, hc⟩ := H2.out k x hxx.out
      obtain ⟨x0, x1⟩ := HX.out k x hxx.out
      have HS : Hid ((mvTo true xs (k + 1)).map (Value.int .i64) = (mvTo true xs k).map (Value.int .i64) ++ [.int .i64 (mvC true x)]) := by
        show _ = _
        unfold mvTo
        rw [take_snoc hxx.out]; simp
      clear H2
      go_wp2_with fail
      refine (turned_c x _ x0 x1).mono ?_
      rintro e w1 ⟨rfl, hb1⟩
      have HB := Lib.hid (Below.chain hb hb1)
      have HO := Lib.hid (own_keep ho hb1)
      clear hb hb1 ho hc
      go_wp2_with (at_builtin; refine wpList_append_own_at _ rfl _ _ 27 rfl w.heap.size 3 i (.int .i64 0) 1 8 Try.underlying27 hi hz0 hz1 hz2 rfl (by decide) _ k ((mvTo true xs k).map (Value.int .i64)) rfl (HO.out.alloc _) ⟨w1.heap.size, 0, none⟩ 1 1 [.int .i64 (mvC true x)] rfl rfl (news_new _ [.int .i64 (mvC true x)] _) (by simp [Value.oneCell']) (by unfold maxLen; omega) (by omega) (by have := HB.out.size; simp; omega) ?_)
      intro v' w4 ho5 hg5 _ _
      have HB2 : Hid (Below w.heap.size w w4) := (Below.alc HB.out _).grown hg5 (by have := HB.out.size; simp; omega) (fun g hg => (HO.out.lt g hg).1)
      have HO5 := Lib.hid ho5
      clear ho5 hg5
      go_wp2
      go_roundw
      case rel => exact ⟨k + 1, by omega, by go_num, by rw [HS.out]; exact HO5.out, HB2.out⟩
      case measure => simp [intOf]; omega
    · obtain rfl : k = xs.length := by omega
      have HE : Hid ((mvTo true xs xs.length).length = xs.length) := mvTo_len true xs
      have HO := Lib.hid (ownsRow_cast ho HE.out.symm rfl)
      clear ho
      go_wp2_with fail
      refine (Reverse_c _ (mvTo true xs xs.length) w.heap.size _ HO.out (by rw [HE.out]; omega)).mono ?_
      rintro e w1 ⟨rfl, ho1, hg1⟩
      have hb2 : Below w.heap.size w w1 := hb.grown hg1 hb.size (fun g hg => (HO.out.lt g hg).1)
      rw [HE.out, mvTo_all] at ho1
      clear hg1
      go_wp2
      go_ret
      exact ⟨_, rfl, ho1, hb2⟩

theorem backwardsM_c (v : Value) (xs : List Int) (w : World) (hv : Ints w v xs) (hx : ∀ (k : Nat) (x : Int), xs[k]? = some x → 0 ≤ x ∧ x ≤ 127) (hn : xs.length ≤ 6) :
    Calls Try.prog 85 #[v, .func (.func 87) #[] #[]] w fun e w' => ∃ u, e = .returned u ∧ w'.ownsRow w.heap.size 3 1 u xs.length (((xs.map (mvC false)).reverse).map (Value.int .i64)) ∧ Below w.heap.size w w' := by
  obtain ⟨i, hi, hz0, hz1, hz2⟩ := info_parts info_int
  have HV := Lib.hid hv
  have HX := Lib.hid hx
  obtain ⟨a, c, rfl, _, _, _⟩ := hv.parts
  clear hv hx
  go_enter Try.func85, Try.ntmps85
  go_wp2
  go_loopw [5, 10] (fun o j wr => ∃ k : Nat, k ≤ xs.length ∧ j = .int .i64 (k : Int) ∧ wr.ownsRow w.heap.size 3 1 o k ((mvTo false xs k).map (Value.int .i64)) ∧ Below w.heap.size w wr) (fun _ j _ => 7 - (intOf j).toNat)
  case atStart => exact ⟨0, by omega, rfl, World.ownsRow_nil _ _ _ _, Below.refl _ _⟩
  case round =>
    obtain ⟨k, hk, rfl, ho, hb⟩ := hrel
    by_cases hlt : k < xs.length
    · have hd : decide ((k : Int) < (xs.length : Int)) = true := by simp; omega
      obtain ⟨x, hxx⟩ := elem_at hlt
      obtain ⟨_, _, he, _, _, H2⟩ := (HV.out.below hb).parts
      simp only [Value.slice.injEq, true_and] at he
      obtain ⟨rfl, rfl⟩ := he
      obtain ⟨b, off, rfl, hc⟩ := H2.out k x hxx.out
      obtain ⟨x0, x1⟩ := HX.out k x hxx.out
      have HS : Hid ((mvTo false xs (k + 1)).map (Value.int .i64) = (mvTo false xs k).map (Value.int .i64) ++ [.int .i64 (mvC false x)]) := by
        show _ = _
        unfold mvTo
        rw [take_snoc hxx.out]; simp
      clear H2
      go_wp2_with fail
      refine (mirrored_c x _ x0 x1).mono ?_
      rintro e w1 ⟨rfl, hb1⟩
      have HB := Lib.hid (Below.chain hb hb1)
      have HO := Lib.hid (own_keep ho hb1)
      clear hb hb1 ho hc
      go_wp2_with (at_builtin; refine wpList_append_own_at _ rfl _ _ 27 rfl w.heap.size 3 i (.int .i64 0) 1 8 Try.underlying27 hi hz0 hz1 hz2 rfl (by decide) _ k ((mvTo false xs k).map (Value.int .i64)) rfl (HO.out.alloc _) ⟨w1.heap.size, 0, none⟩ 1 1 [.int .i64 (mvC false x)] rfl rfl (news_new _ [.int .i64 (mvC false x)] _) (by simp [Value.oneCell']) (by unfold maxLen; omega) (by omega) (by have := HB.out.size; simp; omega) ?_)
      intro v' w4 ho5 hg5 _ _
      have HB2 : Hid (Below w.heap.size w w4) := (Below.alc HB.out _).grown hg5 (by have := HB.out.size; simp; omega) (fun g hg => (HO.out.lt g hg).1)
      have HO5 := Lib.hid ho5
      clear ho5 hg5
      go_wp2
      go_roundw
      case rel => exact ⟨k + 1, by omega, by go_num, by rw [HS.out]; exact HO5.out, HB2.out⟩
      case measure => simp [intOf]; omega
    · obtain rfl : k = xs.length := by omega
      have HE : Hid ((mvTo false xs xs.length).length = xs.length) := mvTo_len false xs
      have HO := Lib.hid (ownsRow_cast ho HE.out.symm rfl)
      clear ho
      go_wp2_with fail
      refine (Reverse_c _ (mvTo false xs xs.length) w.heap.size _ HO.out (by rw [HE.out]; omega)).mono ?_
      rintro e w1 ⟨rfl, ho1, hg1⟩
      have hb2 : Below w.heap.size w w1 := hb.grown hg1 hb.size (fun g hg => (HO.out.lt g hg).1)
      rw [HE.out, mvTo_all] at ho1
      clear hg1
      go_wp2
      go_ret
      exact ⟨_, rfl, ho1, hb2⟩

/-- the row as it is seen from behind, or in a mirror, where it is a row -/
def brvL (t : Bool) (xs : List Int) : List Int := if rowB xs then (xs.map (mvC t)).reverse else []

theorem TurnRow_c (v : Value) (xs : List Int) (w : World) (hv : Ints w v xs) : Calls Try.prog 42 #[v] w (IntsPost w (brvL true xs) (rowB xs)) := by
  have HV := Lib.hid hv
  have HR := Lib.hid (fun w h => IsRow_c v xs w h)
  obtain ⟨a, c, rfl, _, _, _⟩ := hv.parts
  clear hv
  rcases hq : rowB xs with _ | _
  · have HL := Lib.hid (show brvL true xs = [] by simp [brvL, hq])
    have HQ := Lib.hid hq; clear hq
    go_enter Try.func42, Try.ntmps42
    go_wp2_with fail
    refine (HR.out _ HV.out).mono ?_
    rintro e w1 ⟨rfl, hb1⟩
    rw [HQ.out]
    go_wp2
    go_ret2
    exact IntsPost.mk' HL.out rfl (World.ownsRow_nil _ _ _ _) hb1
  · have HL := Lib.hid (show brvL true xs = (xs.map (mvC true)).reverse by simp [brvL, hq])
    have HQ := Lib.hid hq
    have hn : xs.length ≤ 6 := by unfold rowB at hq; simp only [Bool.and_eq_true, decide_eq_true_eq] at hq; exact hq.1
    have HX : Hid (∀ (k : Nat) (x : Int), xs[k]? = some x → 0 ≤ x ∧ x ≤ 127) := fun k x h => rowB_cell hq h
    clear hq
    go_enter Try.func42, Try.ntmps42
    go_wp2_with fail
    refine (HR.out _ HV.out).mono ?_
    rintro e w1 ⟨rfl, hb1⟩
    rw [HQ.out]
    have HV1 := Lib.hid (HV.out.below hb1)
    go_wp2_with fail
    refine (backwardsT_c _ xs _ HV1.out HX.out hn).mono ?_
    rintro e w2 ⟨u, rfl, ho, hb2⟩
    have hb3 := Below.chain hb1 hb2
    have HO := Lib.hid (own_lo ho hb1.size)
    clear ho hb2
    go_wp2
    go_ret2
    exact IntsPost.mk' HL.out rfl (ownsRow_cast HO.out (by simp) rfl) hb3

theorem MirrorRow_c (v : Value) (xs : List Int) (w : World) (hv : Ints w v xs) : Calls Try.prog 43 #[v] w (IntsPost w (brvL false xs) (rowB xs)) := by
  have HV := Lib.hid hv
  have HR := Lib.hid (fun w h => IsRow_c v xs w h)
  obtain ⟨a, c, rfl, _, _, _⟩ := hv.parts
  clear hv
  rcases hq : rowB xs with _ | _
  · have HL := Lib.hid (show brvL false xs = [] by simp [brvL, hq])
    have HQ := Lib.hid hq; clear hq
    go_enter Try.func43, Try.ntmps43
    go_wp2_with fail
    refine (HR.out _ HV.out).mono ?_
    rintro e w1 ⟨rfl, hb1⟩
    rw [HQ.out]
    go_wp2
    go_ret2
    exact IntsPost.mk' HL.out rfl (World.ownsRow_nil _ _ _ _) hb1
  · have HL := Lib.hid (show brvL false xs = (xs.map (mvC false)).reverse by simp [brvL, hq])
    have HQ := Lib.hid hq
    have hn : xs.length ≤ 6 := by unfold rowB at hq; simp only [Bool.and_eq_true, decide_eq_true_eq] at hq; exact hq.1
    have HX : Hid (∀ (k : Nat) (x : Int), xs[k]? = some x → 0 ≤ x ∧ x ≤ 127) := fun k x h => rowB_cell hq h
    clear hq
    go_enter Try.func43, Try.ntmps43
    go_wp2_with fail
    refine (HR.out _ HV.out).mono ?_
    rintro e w1 ⟨rfl, hb1⟩
    rw [HQ.out]
    have HV1 := Lib.hid (HV.out.below hb1)
    go_wp2_with fail
    refine (backwardsM_c _ xs _ HV1.out HX.out hn).mono ?_
    rintro e w2 ⟨u, rfl, ho, hb2⟩
    have hb3 := Below.chain hb1 hb2
    have HO := Lib.hid (own_lo ho hb1.size)
    clear ho hb2
    go_wp2
    go_ret2
    exact IntsPost.mk' HL.out rfl (ownsRow_cast HO.out (by simp) rfl) hb3
end Go.Proofs.Ytfbnmkpkihfocaa
namespace Go.Proofs.Ytfbnmkpkihfocaa
open Go.RowKit
set_option linter.unusedVariables false
set_option maxRecDepth 100000
theorem bench_guard : Try.prog.eqGuardType Try.prog.depth 50 = false := by kernel_rfl
theorem items_same (xs : Array Value) (w : World) : ∀ is : List Nat, (∀ i ∈ is, ∃ x : Int, xs[i]? = some (.int .i64 x)) → (Op.eqItems 9998 3 (Try.prog.cellsOf 3) xs xs is).run Try.prog w = .ok true w
  | [], _ => rfl
  | i :: is, h => by
    obtain ⟨x, hx⟩ := h i (by simp)
    have hc : Try.prog.cellsOf 3 = 1 := by kernel_rfl
    have hp : (part 3 xs (i * Try.prog.cellsOf 3)).run Try.prog w = .ok (.int .i64 x) w := by
      rw [hc, Nat.mul_one]; exact run_part_plain w (by kernel_rfl) hx
    have he : (Op.equalIn 9998 3 (.int .i64 x) (.int .i64 x)).run Try.prog w = .ok (x == x) w := run_equalIn_int w 9997 3 .i64 .i64 x x Try.underlying3
    have ih := items_same xs w is (fun j hj => h j (by simp [hj]))
    simp only [Op.eqItems, Sem.run_bind, hp, Result.andThen_ok, he, beq_self_eq_true, Bool.not_true, Bool.false_eq_true, if_false, ih]
theorem bench_equal {b : List Int} (hb : b.length = 19) (w : World) : (Op.equalIn 10000 50 (.agg (ints b).toArray) (.agg (ints b).toArray)).run Try.prog w = .ok true w := by
  match b, hb with
  | [x0, x1, x2, x3, x4, x5, x6, x7, x8, x9, x10, x11, x12, x13, x14, x15, x16, x17, x18], _ =>
    have hA := fun (d : Nat) (xs ys : Array Value) (w : World) => run_equalIn_array (P := Try.prog) w d xs ys (t := 48) Try.underlying48 (e := 3) (i := _) rfl
    have hI : ∀ (y0 y1 y2 y3 y4 y5 : Int) (w : World), (Op.eqItems 9998 3 (Try.prog.cellsOf 3) #[.int .i64 y0, .int .i64 y1, .int .i64 y2, .int .i64 y3, .int .i64 y4, .int .i64 y5] #[.int .i64 y0, .int .i64 y1, .int .i64 y2, .int .i64 y3, .int .i64 y4, .int .i64 y5] [0, 1, 2, 3, 4, 5]).run Try.prog w = .ok true w :=
      fun y0 y1 y2 y3 y4 y5 w => items_same _ w _ (fun i hi => by
        simp only [List.mem_cons, List.not_mem_nil, or_false] at hi
        rcases hi with rfl | rfl | rfl | rfl | rfl | rfl <;> exact ⟨_, rfl⟩)
    simp only [ints, List.map_cons, List.map_nil]
    go_simp
end Go.Proofs.Ytfbnmkpkihfocaa
namespace Go.Proofs.Ytfbnmkpkihfocaa
open Go.RowKit
set_option linter.unusedVariables false
set_option maxRecDepth 100000
theorem sIsBench_c (b : List Int) (w : World) (hb : b.length = 19) :
    Calls Try.prog 41 #[aggI b] w fun e w' => e = .returned (.bool (goodB b)) ∧ Below w.heap.size w w' := by
  have r0 := range_new w (ints b) 50
  have hb0 := below_one (w := w) (.cells (ints b).toArray 50)
  unfold aggI
  go_enter Try.func41, Try.ntmps41
  go_wp2_with (refine wpList_loadB rfl _ rfl _ rfl b r0 hb ?_)
  refine (l12Good_c b _ hb).mono ?_
  rintro e w1 ⟨rfl, hb1⟩
  go_wp2
  go_ret
  exact ⟨rfl, Below.chain hb0 hb1⟩
theorem djV_full {b : List Int} (hb : b.length = 19) (k a v : Int) : ∃ Y ok, djV b k a v = mkV Y ok ∧ Y.length = 19 ∧ (ok = true → goodB b = true ∧ possB b k a v = true ∧ Y = doB b k a v) := by
  unfold djV
  rcases hg : goodB b with _ | _
  · exact ⟨zeroI, false, rfl, zero_len, fun h => by cases h⟩
  · refine ⟨jobB b k a v, possB b k a v, rfl, jobB_len hb hg k a v, fun h => ⟨rfl, h, ?_⟩⟩
    unfold jobB; rw [if_pos h]
/-- all that the law asks of a Bench, a Job that is possible, and the Bench behind it -/
theorem bn_law {b : List Int} {k a v : Int} (hb : b.length = 19) (hg : goodB b = true) (hp : possB b k a v = true) :
    goodB (doB b k a v) = true ∧ (doB b k a v).length = 19 ∧ bg (doB b k a v) 18 = bg b 18 + 1 ∧ (0 ≤ bg b 18 ∧ bg b 18 ≤ 1000) ∧
    (k = 6 ∨ k = 7 → rowB (brL b true) = true ∧ brL (doB b k a v) true = brvL (kT k) (brL b true) ∧
      (bg b 18 + 1 ≠ 1000 → ∃ H, djV (doB b k a v) k a v = mkV H true ∧ H.length = 19 ∧ H.set 18 (bg b 18) = b)) := by
  obtain ⟨h1, h2, h3⟩ := bn_fine hb hg hp
  have hc := inB_true (goodB_all.1 hg).2
  refine ⟨h1, h2, h3, hc, fun hk => ?_⟩
  have e1 : brL b true = shTo b 6 := by unfold brL; rw [if_pos hg]; rfl
  have e2 : brL (doB b k a v) true = shTo (doB b k a v) 6 := by unfold brL; rw [if_pos h1]; rfl
  have hr := shRow hg
  refine ⟨by rw [e1]; exact hr, ?_, fun hn => ?_⟩
  · rw [e1, e2, do67 hb hg hp hk, seen_row (kT k) hb hg]
    unfold brvL bwL; rw [if_pos hr]
  · have hp2 := poss_again hb hg hp hk hn
    refine ⟨doB (doB b k a v) k a v, ?_, (poss_good h2 h1 hp2).2, home_eq hb hg hp hk hn⟩
    unfold djV jobsV jobB; rw [if_pos h1, if_pos hp2, hp2]
end Go.Proofs.Ytfbnmkpkihfocaa
namespace Go.Proofs.Ytfbnmkpkihfocaa
open Go.RowKit
set_option linter.unusedVariables false
/-- the row while it is gone through: what is kept, what is left over, what is still to come -/
def DInv {α : Type} (p : α → Bool) (es : List α) (j i : Nat) (R : List α) : Prop :=
  ∃ J, R = (es.take j).filter (fun x => !p x) ++ (J ++ es.drop j) ∧ ((es.take j).filter fun x => !p x).length = i ∧ i + J.length = j ∧ i < j ∧ j ≤ es.length
theorem DInv.start {α : Type} {p : α → Bool} {es : List α} {k : Nat} {x : α} (hx : es[k]? = some x) (hp : p x = true) (h : ∀ j y, j < k → es[j]? = some y → p y = false) : DInv p es (k + 1) k es := by
  have hk : k < es.length := (List.getElem?_eq_some_iff.1 hx).1
  have hall : (es.take k).filter (fun x => !p x) = es.take k := by
    rw [List.filter_eq_self]
    intro y hy
    obtain ⟨j, hj, rfl⟩ := List.getElem_of_mem hy
    have hj2 : j < k := by rw [List.length_take] at hj; omega
    have := h j (es.take k)[j] hj2 (by rw [List.getElem_take, List.getElem?_eq_getElem (by omega)])
    rw [this]; rfl
  have hf : (es.take (k + 1)).filter (fun x => !p x) = es.take k := by
    rw [List.take_succ_eq_append_getElem hk, List.filter_append, hall]
    have : es[k] = x := by rw [List.getElem?_eq_getElem hk] at hx; exact Option.some.inj hx
    simp [this, hp]
  refine ⟨[x], ?_, ?_, by simp, by omega, hk⟩
  · rw [hf]
    have e : es[k] = x := by rw [List.getElem?_eq_getElem hk] at hx; exact Option.some.inj hx
    calc es = es.take k ++ es.drop k := (List.take_append_drop k es).symm
      _ = _ := by rw [List.drop_eq_getElem_cons hk, e]; rfl
  · rw [hf, List.length_take]; omega
theorem DInv.len {α : Type} {p : α → Bool} {es R : List α} {i j : Nat} (h : DInv p es j i R) : R.length = es.length := by
  obtain ⟨J, rfl, h1, h2, h3, h4⟩ := h
  simp only [List.length_append, List.length_drop]; omega
theorem DInv.get {α : Type} {p : α → Bool} {es R : List α} {i j : Nat} {x : α} (h : DInv p es j i R) (hx : es[j]? = some x) : R[j]? = some x := by
  obtain ⟨J, rfl, h1, h2, h3, h4⟩ := h
  rw [List.getElem?_append_right (by omega), List.getElem?_append_right (by omega), List.getElem?_drop, ← hx]
  congr 1; omega
theorem DInv.skip {α : Type} {p : α → Bool} {es R : List α} {i j : Nat} {x : α} (h : DInv p es j i R) (hx : es[j]? = some x) (hp : p x = true) : DInv p es (j + 1) i R := by
  obtain ⟨J, rfl, h1, h2, h3, h4⟩ := h
  have hj : j < es.length := (List.getElem?_eq_some_iff.1 hx).1
  have e : es[j] = x := by rw [List.getElem?_eq_getElem hj] at hx; exact Option.some.inj hx
  have hf : (es.take (j + 1)).filter (fun x => !p x) = (es.take j).filter (fun x => !p x) := by
    rw [List.take_succ_eq_append_getElem hj, List.filter_append]; simp [e, hp]
  refine ⟨J ++ [x], ?_, by rw [hf]; exact h1, by simp; omega, by omega, hj⟩
  rw [hf, List.drop_eq_getElem_cons hj, e]; simp
theorem DInv.keep {α : Type} {p : α → Bool} {es R : List α} {i j : Nat} {x : α} (h : DInv p es j i R) (hx : es[j]? = some x) (hp : p x = false) : DInv p es (j + 1) (i + 1) (R.set i x) := by
  obtain ⟨J, rfl, h1, h2, h3, h4⟩ := h
  have hj : j < es.length := (List.getElem?_eq_some_iff.1 hx).1
  have e : es[j] = x := by rw [List.getElem?_eq_getElem hj] at hx; exact Option.some.inj hx
  have hf : (es.take (j + 1)).filter (fun x => !p x) = (es.take j).filter (fun x => !p x) ++ [x] := by
    rw [List.take_succ_eq_append_getElem hj, List.filter_append]; simp [e, hp]
  cases J with
  | nil => simp at h2; omega
  | cons y J' =>
    refine ⟨J' ++ [x], ?_, by rw [hf, List.length_append, h1]; rfl, by simp at h2 ⊢; omega, by omega, hj⟩
    rw [hf, List.drop_eq_getElem_cons hj, e, List.cons_append, set_mid _ _ _ _ h1.symm]
    simp
theorem DInv.done {α : Type} {p : α → Bool} {es R : List α} {i : Nat} (h : DInv p es es.length i R) : R.take i = es.filter (fun x => !p x) ∧ i = (es.filter fun x => !p x).length := by
  obtain ⟨J, rfl, h1, h2, h3, h4⟩ := h
  rw [List.take_length] at h1 ⊢
  exact ⟨by rw [List.take_left' h1], h1.symm⟩
/-- cells stored one after the other into a row -/
theorem own_cells {lo size n cap g : Nat} {e : TypeId} : ∀ (vs : List Value) (o : Nat) (w : World) (xs : List Value), w.ownsRow lo e size (.slice (some ⟨g, 0, none⟩) n cap) n xs →
    ∃ ys, (w.setCells g o vs).ownsRow lo e size (.slice (some ⟨g, 0, none⟩) n cap) n ys ∧ ys.take o = xs.take o ∧ w.grownBy (w.setCells g o vs) (some g)
  | [], o, w, xs, h => ⟨xs, h, rfl, World.grownBy.refl _ _⟩
  | v :: r, o, w, xs, h => by
    have h1 := h.stored o v
    obtain ⟨ys, h2, h3, h4⟩ := own_cells r (o + 1) (w.setCell ⟨g, o, none⟩ v) _ h1.1
    refine ⟨ys, h2, ?_, ?_⟩
    · have : (ys.take (o + 1)).take o = ((xs.set o v).take (o + 1)).take o := by rw [h3]
      rw [List.take_take, List.take_take, Nat.min_eq_left (by omega)] at this
      rw [this, List.take_set_of_le (Nat.le_refl _)]
    · exact ⟨h4.os.trans h1.2.os, h4.tape.trans h1.2.tape, h4.output.trans h1.2.output, Nat.le_trans h1.2.size h4.size, fun k hk hne => (h4.block k (Nat.lt_of_lt_of_le hk h1.2.size) hne).trans (h1.2.block k hk hne)⟩
/-- the head of a row -/
theorem own_cut {w : World} {lo size n m cap g : Nat} {e : TypeId} {xs : List Value} (h : w.ownsRow lo e size (.slice (some ⟨g, 0, none⟩) n cap) n xs) (hm : m ≤ n) :
    w.ownsRow lo e size (.slice (some ⟨g, 0, none⟩) m cap) m (xs.take (m * size)) := by
  have hl := h.1
  refine ⟨?_, ?_⟩
  · rw [List.length_take, hl]; exact Nat.min_eq_left (Nat.mul_le_mul_right _ hm)
  · rcases h.2 with ⟨h', _⟩ | ⟨g', cap', cur, h', hb, hg, hnc, hcm, hcs, ht⟩
    · cases h'
    · injection h' with h1 _ h3
      injection h1 with h1; injection h1 with h1
      subst h1 h3
      exact .inr ⟨g, cap, cur, rfl, hb, hg, by omega, hcm, hcs, by rw [← ht, List.take_take, Nat.min_eq_left (Nat.mul_le_mul_right _ hm)]⟩
theorem run_clear_cells {P : Program} (w : World) (t e ty : TypeId) (z : Value) (ht : P.underlying t = some (.slice e)) (hv : ∀ w, (zeroValue e).run P w = .ok z w) (h1 : ∀ v ∈ z.cells.toList, v.oneCell' = true) (hpos : 0 < z.cells.size) (b o n c : Nat) (hn : 0 < n)
    (hth : w.there b o (n * z.cells.size)) :
    (Builtin.clear_ #[t] ty #[.slice (some ⟨b, o, none⟩) n c]).run P w = .ok (.tuple #[]) (w.setCells b o (Builtin.zeroCells z.cells n).toList) := by
  have hlen : (Builtin.zeroCells z.cells n).toList.length = n * z.cells.size := by simp [Builtin.zeroCells]
  have hst := run_storeCells_cells (P := P) b o (Builtin.zeroCells z.cells n).toList 0 w (by rw [hlen]; exact fun j hj => by simpa using (hth j hj).1) (by rw [hlen]; exact fun j hj => by simpa using (hth j hj).2)
    (by
      intro v hv'
      simp only [Builtin.zeroCells, Array.toList_map, List.mem_map, Array.toList_range, List.mem_range] at hv'
      obtain ⟨i, _, rfl⟩ := hv'
      have hlt := Nat.mod_lt i hpos
      have : z.cells[i % z.cells.size]! = z.cells[i % z.cells.size] := by simp [hlt]
      rw [this]
      exact h1 _ (by simp))
  simp only [Nat.add_zero] at hst
  obtain ⟨m, rfl⟩ : ∃ m, n = m + 1 := ⟨n - 1, by omega⟩
  simp [Builtin.clear_, run_underlying ht, hv, hst]
theorem own_there {w : World} {lo size n cap g : Nat} {e : TypeId} {xs : List Value} (h : w.ownsRow lo e size (.slice (some ⟨g, 0, none⟩) n cap) n xs) : w.there g 0 (n * size) := fun j hj => by
  rw [Nat.zero_add]
  refine ⟨?_, h.frozenAt j⟩
  rw [h.cellAt j hj, List.getElem?_eq_getElem (by rw [h.1]; exact hj)]; rfl
end Go.Proofs.Ytfbnmkpkihfocaa
namespace Go.Proofs.Ytfbnmkpkihfocaa
open Go.RowKit
set_option linter.unusedVariables false
set_option maxRecDepth 100000
theorem Sl.partsV {w : World} {v : Value} {xs : List Value} (h : Sl w 1 v xs.length xs) : ∃ a c, v = .slice a xs.length c ∧ xs.length ≤ c ∧ c ≤ 9223372036854775807 ∧
    Hid (∀ k x, xs[k]? = some x → ∃ b off, a = some ⟨b, off, none⟩ ∧ w.cell? ⟨b, off + k, none⟩ = some x) := by
  obtain ⟨a, c, rfl, h1, h2, h3, h4⟩ := h
  refine ⟨a, c, rfl, h1, by unfold maxLen at h2; omega, fun k x hk => ?_⟩
  have hlt : k < xs.length := (List.getElem?_eq_some_iff.1 hk).1
  obtain ⟨b, off, rfl, hc⟩ := h4 (by omega)
  exact ⟨b, off, rfl, by rw [hc k (by omega), hk]⟩
theorem IndexFuncV_c (v : Value) (xs : List Value) (fn : Nat) (cap : Array Value) (p : Value → Bool) (w : World) (hv : Sl w 1 v xs.length xs) (hf : CallsIt fn)
    (hp : ∀ (x : Value) (w' : World), x ∈ xs → Below w.heap.size w w' → Calls Try.prog fn (#[x] ++ cap) w' fun e w'' => e = .returned (.bool (p x)) ∧ Below w'.heap.size w' w'') :
    Calls Try.prog 88 #[v, .func (.func fn) #[] cap] w fun e w' => e = .returned (.int .i64 (firstAt p xs)) ∧ Below w.heap.size w w' := by
  obtain ⟨a, c, rfl, hc1, hc2, HC⟩ := hv.partsV
  have hf' : ∀ (bs : Array Value) (w : World), (callFunc fn bs).run Try.prog w = .ok (.enter fn bs) w := hf
  go_enter Try.func88, Try.ntmps88
  go_wp2
  go_loopw [8] (fun i wr => ∃ k : Nat, k ≤ xs.length ∧ i = .int .i64 k ∧ Hid (∀ j x, j < k → xs[j]? = some x → p x = false) ∧ Below w.heap.size w wr) (fun i _ => xs.length - (intOf i).toNat)
  case atStart => exact ⟨0, by omega, rfl, fun j x hj => by omega, Below.refl _ _⟩
  case round =>
    obtain ⟨k, hk, rfl, hbef, hb⟩ := hrel
    have hlen := hv.le
    by_cases hlt : k < xs.length
    · obtain ⟨x, hx⟩ := elem_at hlt
      obtain ⟨b, off, rfl, g0⟩ := HC.out k x hx.out
      have hblt : b < w.heap.size := World.block_lt_of_cell? w _ g0
      have g1 : wr.cell? ⟨b, off + k, none⟩ = some x := ((bcell hb).1 _ _ hblt).trans g0
      clear g0
      go_wp2_with fail
      refine (hp x _ (List.mem_of_getElem? hx.out) hb).mono ?_
      rintro e w1 ⟨rfl, hb1⟩
      have hb2 : Below w.heap.size w w1 := hb.trans (hb1.mono hb.size)
      rcases hpx : p x with _ | _
      · have HP := Lib.hid hpx; clear hpx
        go_wp2
        go_roundw
        case rel => exact ⟨k + 1, by omega, by go_num, fun j y hj hy => by
          by_cases hj2 : j < k
          · exact hbef.out j y hj2 hy
          · obtain rfl : j = k := by omega
            rw [hx.out] at hy; obtain rfl := Option.some.inj hy; exact HP.out, hb2⟩
        case measure => simp [intOf]; omega
      · have HP := Lib.hid hpx; clear hpx
        go_wp2
        go_ret
        exact ⟨int_ret (firstAt_some hx.out HP.out hbef.out).symm, hb2⟩
    · go_wp2
      go_ret
      exact ⟨int_ret (firstAt_none (by omega) hbef.out).symm, hb⟩
theorem firstAt_cases {α : Type} (p : α → Bool) (xs : List α) : (firstAt p xs = -1 ∧ xs.filter (fun x => !p x) = xs) ∨ ∃ (k : Nat) (x : α), firstAt p xs = (k : Int) ∧ xs[k]? = some x ∧ p x = true ∧ ∀ (j : Nat) (y : α), j < k → xs[j]? = some y → p y = false := by
  unfold firstAt
  cases h : xs.findIdx? p with
  | none =>
    left
    rw [List.findIdx?_eq_none_iff] at h
    exact ⟨rfl, by rw [List.filter_eq_self]; intro x hx; rw [h x hx]; rfl⟩
  | some k =>
    right
    rw [List.findIdx?_eq_some_iff_getElem] at h
    obtain ⟨hk, hp, hb⟩ := h
    refine ⟨k, xs[k], rfl, List.getElem?_eq_getElem hk, hp, fun j y hj hy => ?_⟩
    have hjl : j < xs.length := by omega
    have := hb j hj
    rw [List.getElem?_eq_getElem hjl] at hy
    have e := Option.some.inj hy
    rw [e] at this
    simpa using this
theorem DeleteFuncV_c (u : Value) (vs : List Value) (fn lo : Nat) (p : Value → Bool) (w : World) (ho : w.ownsRow lo 27 1 u vs.length vs) (hf : CallsIt fn) (hsl : ∀ x ∈ vs, ∃ a n c, x = Value.slice a n c)
    (hp : ∀ (x : Value) (w' : World), x ∈ vs → Calls Try.prog fn #[x] w' fun e w'' => e = .returned (.bool (p x)) ∧ Below w'.heap.size w' w'') :
    Calls Try.prog 49 #[u, .func (.func fn) #[] #[]] w fun e w' => ∃ u', e = .returned u' ∧ w'.ownsRow lo 27 1 u' (vs.filter fun x => !p x).length (vs.filter fun x => !p x) ∧ w.grownBy w' u.ownBlock := by
  have hS : Sl w 1 u vs.length vs := Sl.of_own ho
  have hlen := hS.le
  have hf' : ∀ (bs : Array Value) (w : World), (callFunc fn bs).run Try.prog w = .ok (.enter fn bs) w := hf
  rcases firstAt_cases p vs with ⟨hm, hfil⟩ | ⟨k0, x0, hm, hx0, hp0, hbef⟩
  · have HM := Lib.hid hm; have HF := Lib.hid hfil
    clear hm hfil
    obtain ⟨a, c, rfl, _⟩ := hS.slice
    go_enter Try.func49, Try.ntmps49
    go_wp2_with fail
    refine (IndexFuncV_c _ vs fn #[] p _ hS hf (fun x w' hx _ => by simpa using hp x w' hx)).mono ?_
    rintro e w1 ⟨rfl, hb1⟩
    rw [HM.out]
    have hg := Below.gr hb1
    go_wp2
    go_ret
    exact ⟨_, rfl, by rw [HF.out]; exact own_keep ho hb1, ⟨hg.os, hg.tape, hg.output, hg.size, fun k hk _ => hg.block k hk (by simp)⟩⟩
  · have HM := Lib.hid hm
    have hk0 : k0 < vs.length := (List.getElem?_eq_some_iff.1 hx0).1
    have HD := Lib.hid (DInv.start hx0 hp0 hbef)
    clear hm hbef hx0 hp0
    obtain ⟨g, cap, rfl, hlo, hgl, hnc, hcm⟩ := own_form ho (by omega)
    have hcm2 : cap ≤ 9223372036854775807 := by unfold maxLen at hcm; omega
    have hne1 : (((k0 : Int)) == -1) = false := by simp
    have hne2 : decide ((k0 : Int) = -1) = false := by simp
    obtain ⟨inf, hi, hz0, hz1, hz2⟩ := info_parts info_ints
    have hzv : ∀ w : World, (zeroValue 27).run Try.prog w = .ok (.slice none 0 0) w := Try.zeroValue27
    have HZ := Lib.hid hzv
    clear hzv hi hz0 hz1 hz2
    go_enter Try.func49, Try.ntmps49
    go_wp2_with fail
    refine (IndexFuncV_c _ vs fn #[] p _ hS hf (fun x w' hx _ => by simpa using hp x w' hx)).mono ?_
    rintro e w1 ⟨rfl, hb1⟩
    rw [HM.out]
    have ho1 := own_keep ho hb1
    have hg1 : w.grownBy w1 (some g) := by
      have hg := Below.gr hb1
      exact ⟨hg.os, hg.tape, hg.output, hg.size, fun k hk _ => hg.block k hk (by simp)⟩
    clear hS ho hb1
    go_wp2
    go_loopw [5, 6] (fun s5 s6 wr => ∃ (i j : Nat) (R : List Value), s5 = .int .i64 (i : Int) ∧ s6 = .int .i64 (j : Int) ∧ i < j ∧ j ≤ vs.length ∧ Hid (DInv p vs j i R) ∧ wr.ownsRow lo 27 1 (.slice (some ⟨g, 0, none⟩) vs.length cap) vs.length R ∧ w.grownBy wr (some g)) (fun _ s6 _ => vs.length - (intOf s6).toNat)
    case atStart => exact ⟨k0, k0 + 1, vs, rfl, by go_num, by omega, by omega, HD, ho1, hg1⟩
    case round =>
      obtain ⟨i, j, R, rfl, rfl, hij, hjn, HI, ho, hg⟩ := hrel
      clear ho1 hg1 HD
      by_cases hlt : j < vs.length
      · have hd : decide ((j : Int) < (vs.length : Int)) = true := by simp; omega
        obtain ⟨x, hx⟩ := elem_at hlt
        obtain ⟨xa, xn, xc, rfl⟩ := hsl x (List.mem_of_getElem? hx.out)
        have g0 : wr.cell? ⟨g, j, none⟩ = some (.slice xa xn xc) := by rw [ho.cellAt j (by omega)]; exact HI.out.get hx.out
        go_wp2_with fail
        refine (hp _ _ (List.mem_of_getElem? hx.out)).mono ?_
        rintro e w2 ⟨rfl, hb2⟩
        have ho2 := own_keep ho hb2
        have hg2 : w.grownBy w2 (some g) := by
          have h := Below.gr hb2
          exact ⟨h.os.trans hg.os, h.tape.trans hg.tape, h.output.trans hg.output, Nat.le_trans hg.size h.size, fun k hk hne => (h.block k (Nat.lt_of_lt_of_le hk hg.size) (by simp)).trans (hg.block k hk hne)⟩
        have hRl := HI.out.len
        clear ho hg hb2 g0
        rcases hq : p (.slice xa xn xc) with _ | _
        · have HI2 := Lib.hid (HI.out.keep hx.out hq)
          have gi : w2.cell? ⟨g, i, none⟩ = some (R[i]'(by omega)) := by rw [ho2.cellAt i (by omega)]; exact List.getElem?_eq_getElem (by omega)
          have fi := ho2.frozenAt i
          have hst := ho2.stored i (.slice xa xn xc)
          have ho3 := hst.1
          have hg3 : w.grownBy (w2.setCell ⟨g, i, none⟩ (.slice xa xn xc)) (some g) :=
            ⟨hst.2.os.trans hg2.os, hst.2.tape.trans hg2.tape, hst.2.output.trans hg2.output, Nat.le_trans hg2.size hst.2.size, fun k hk hne => (hst.2.block k (Nat.lt_of_lt_of_le hk hg2.size) hne).trans (hg2.block k hk hne)⟩
          generalize R[i]'(by omega) = old at gi
          have HQ := Lib.hid hq
          have HO := Lib.hid ho3; have HG := Lib.hid hg3
          clear hst ho2 hg2 hq ho3 hg3
          go_wp2
          go_roundw
          case rel => exact ⟨i + 1, j + 1, R.set i (.slice xa xn xc), by go_num, by go_num, by omega, by omega, HI2, HO.out, HG.out⟩
          case measure => simp [intOf]; omega
        · have HI2 := Lib.hid (HI.out.skip hx.out hq)
          have HQ := Lib.hid hq
          clear hq
          go_wp2
          go_roundw
          case rel => exact ⟨i, j + 1, R, rfl, by go_num, by omega, by omega, HI2, ho2, hg2⟩
          case measure => simp [intOf]; omega
      · obtain rfl : j = vs.length := by omega
        have hdn := HI.out.done
        obtain ⟨ys, ho3, hys, hg3⟩ := own_cells (Builtin.zeroCells (Value.slice none 0 0).cells (vs.length - i)).toList i wr R ho
        have ho4 := own_cut ho3 (show i ≤ vs.length by omega)
        rw [Nat.mul_one, hys, hdn.1] at ho4
        have hcl : ∀ ty, (Builtin.clear_ #[30] ty #[.slice (some ⟨g, i, none⟩) (vs.length - i) (cap - i)]).run Try.prog wr = .ok (.tuple #[]) (wr.setCells g i (Builtin.zeroCells (Value.slice none 0 0).cells (vs.length - i)).toList) := fun ty =>
          run_clear_cells wr 30 27 ty (.slice none 0 0) Try.underlying30 HZ.out (by simp [Value.cells]; rfl) (by simp [Value.cells]) g i (vs.length - i) (cap - i) (by omega) (there_sub (own_there ho) (by omega) (by simp [Value.cells]; omega))
        have hg5 : w.grownBy (wr.setCells g i (Builtin.zeroCells (Value.slice none 0 0).cells (vs.length - i)).toList) (some g) :=
          ⟨hg3.os.trans hg.os, hg3.tape.trans hg.tape, hg3.output.trans hg.output, Nat.le_trans hg.size hg3.size, fun k hk hne => (hg3.block k (Nat.lt_of_lt_of_le hk hg.size) hne).trans (hg.block k hk hne)⟩
        have HDN := Lib.hid hdn.2
        have HO := Lib.hid ho4; have HG := Lib.hid hg5
        clear hdn ho4 hg5 ho3 hys hg3 ho hg
        go_wp2
        go_ret
        exact ⟨_, rfl, ownsRow_cast HO.out HDN.out rfl, HG.out⟩
end Go.Proofs.Ytfbnmkpkihfocaa
namespace Go.Proofs.Ytfbnmkpkihfocaa
open Go.RowKit
set_option linter.unusedVariables false
set_option maxRecDepth 100000
theorem Sl.keepB {w w' : World} {size n B : Nat} {v : Value} {xs : List Value} (h : Sl w size v n xs) (hb : Below B w w') (hv : ∀ g, v.ownBlock = some g → g < B) : Sl w' size v n xs := by
  obtain ⟨a, c, rfl, h1, h2, h3, h4⟩ := h
  refine ⟨a, c, rfl, h1, h2, h3, fun hn => ?_⟩
  obtain ⟨b, off, rfl, hc⟩ := h4 hn
  refine ⟨b, off, rfl, fun j hj => ?_⟩
  have hlt := hv b rfl
  rw [← hc j hj]
  exact hb.cell (p := ⟨b, off + j, none⟩) hlt
/-- a slice of slices that reads so, all its blocks below B -/
def RdSS (w : World) (B : Nat) (u : Value) (xss : List (List Int)) : Prop :=
  ∃ vs, vs.length = xss.length ∧ Sl w 1 u vs.length vs ∧ (∀ g, u.ownBlock = some g → g < B) ∧
    ∀ (k : Nat) (v : Value) (xs : List Int), vs[k]? = some v → xss[k]? = some xs → Ints w v xs ∧ ∀ g, v.ownBlock = some g → g < B
theorem RdSS.keep {w w' : World} {B B' : Nat} {u : Value} {xss : List (List Int)} (h : RdSS w B u xss) (hb : Below B' w w') (hB : B ≤ B') : RdSS w' B u xss := by
  obtain ⟨vs, h1, h2, h3, h4⟩ := h
  exact ⟨vs, h1, h2.keepB hb (fun g hg => Nat.lt_of_lt_of_le (h3 g hg) hB), h3, fun k v xs hv hx => ⟨Sl.keepB (h4 k v xs hv hx).1 hb (fun g hg => Nat.lt_of_lt_of_le ((h4 k v xs hv hx).2 g hg) hB), (h4 k v xs hv hx).2⟩⟩
theorem OwnSS.rd {w : World} {lo : Nat} {u : Value} {xss : List (List Int)} (h : OwnSS w lo u xss) : RdSS w w.heap.size u xss := by
  obtain ⟨vs, ho, hi⟩ := h
  exact ⟨vs, hi.1, Sl.of_own (ownsRow_cast ho hi.1.symm rfl), fun g hg => (ho.lt g hg).2, fun k v xs hv hx => ⟨Ints.of_own (hi.2.1 k v xs hv hx), fun g hg => ((hi.2.1 k v xs hv hx).lt g hg).2⟩⟩
theorem RdSS.parts {w : World} {B : Nat} {u : Value} {xss : List (List Int)} (h : RdSS w B u xss) : ∃ a c, u = .slice a xss.length c ∧ xss.length ≤ 9223372036854775807 ∧
    Hid (∀ k xs, xss[k]? = some xs → ∃ b off a' c', a = some ⟨b, off, none⟩ ∧ w.cell? ⟨b, off + k, none⟩ = some (.slice a' xs.length c') ∧ Ints w (.slice a' xs.length c') xs) := by
  obtain ⟨vs, h1, h2, h3, h4⟩ := h
  have hle := h2.le
  obtain ⟨a, c, rfl, _, _, HC⟩ := h2.partsV
  refine ⟨a, c, by rw [h1], by omega, fun k xs hk => ?_⟩
  have hlt : k < vs.length := by rw [h1]; exact (List.getElem?_eq_some_iff.1 hk).1
  have hv : vs[k]? = some vs[k] := List.getElem?_eq_getElem hlt
  obtain ⟨b, off, e, hc⟩ := HC.out k _ hv
  have hI := (h4 k _ xs hv hk).1
  obtain ⟨a', c', e2, _⟩ := hI.parts
  exact ⟨b, off, a', c', e, by rw [hc, e2], by rw [← e2]; exact hI⟩
/-! marks -/
def totSS (xss : List (List Int)) : Nat := (xss.map List.length).sum
def seqSS : Int → List (List Int) → List (List Int)
  | _, [] => []
  | k, xs :: t => seqI k xs.length :: seqSS (k + xs.length) t
theorem seqSS_len : ∀ (k : Int) (xss : List (List Int)), (seqSS k xss).length = xss.length
  | _, [] => rfl
  | k, xs :: t => by simp [seqSS, seqSS_len]
theorem seqSS_append : ∀ (k : Int) (a b : List (List Int)), seqSS k (a ++ b) = seqSS k a ++ seqSS (k + totSS a) b
  | k, [], b => by simp [seqSS, totSS]
  | k, xs :: t, b => by
    simp only [List.cons_append, seqSS, seqSS_append]
    congr 3
    simp only [totSS, List.map_cons, List.sum_cons]; omega
theorem totSS_succ {xss : List (List Int)} {i : Nat} {xs : List Int} (h : xss[i]? = some xs) : totSS (xss.take (i + 1)) = totSS (xss.take i) + xs.length := by
  unfold totSS; rw [take_snoc h, List.map_append, List.sum_append]; simp
theorem totSS_le (xss : List (List Int)) (i : Nat) : totSS (xss.take i) ≤ totSS xss := by
  have h : totSS xss = totSS (xss.take i) + totSS (xss.drop i) := by
    unfold totSS
    rw [← List.sum_append, ← List.map_append, List.take_append_drop]
  omega
theorem seqSS_at {k : Int} {xss : List (List Int)} {i : Nat} {xs : List Int} (h : xss[i]? = some xs) : (seqSS k xss)[i]? = some (seqI (k + totSS (xss.take i)) xs.length) := by
  have hi : i < xss.length := (List.getElem?_eq_some_iff.1 h).1
  have e : xss = xss.take i ++ xs :: xss.drop (i + 1) := by
    have hx : xss[i] = xs := (List.getElem?_eq_some_iff.1 h).2
    conv => lhs; rw [← List.take_append_drop i xss, List.drop_eq_getElem_cons hi, hx]
  have hl : (seqSS k (xss.take i)).length = i := by rw [seqSS_len, List.length_take]; omega
  conv => lhs; rw [e]
  rw [seqSS_append, List.getElem?_append_right (by omega), hl, Nat.sub_self]; rfl
/-- marked as far as i -/
def mkSS (k : Int) (xss : List (List Int)) (i : Nat) : List (List Int) := seqSS k (xss.take i) ++ xss.drop i
theorem mkSS_at {k : Int} {xss : List (List Int)} {i : Nat} (hi : i ≤ xss.length) : (mkSS k xss i)[i]? = xss[i]? := by
  unfold mkSS
  have hl : (seqSS k (xss.take i)).length = i := by rw [seqSS_len, List.length_take]; omega
  rw [List.getElem?_append_right (by omega), hl, Nat.sub_self, List.getElem?_drop, Nat.add_zero]
theorem mkSS_succ {k : Int} {xss : List (List Int)} {i : Nat} {xs : List Int} (h : xss[i]? = some xs) : (mkSS k xss i).set i (seqI (k + totSS (xss.take i)) xs.length) = mkSS k xss (i + 1) := by
  have hi : i < xss.length := (List.getElem?_eq_some_iff.1 h).1
  have hx : xss[i] = xs := (List.getElem?_eq_some_iff.1 h).2
  have hl : (seqSS k (xss.take i)).length = i := by rw [seqSS_len, List.length_take]; omega
  unfold mkSS
  rw [List.drop_eq_getElem_cons hi, set_mid _ _ _ _ hl.symm, take_snoc h, seqSS_append]
  simp [seqSS]
theorem mkSS_zero (k : Int) (xss : List (List Int)) : mkSS k xss 0 = xss := rfl
theorem mkSS_all (k : Int) (xss : List (List Int)) : mkSS k xss xss.length = seqSS k xss := by unfold mkSS; rw [List.take_length, List.drop_length, List.append_nil]
theorem mkSS_len {k : Int} {xss : List (List Int)} {i : Nat} (hi : i ≤ xss.length) : (mkSS k xss i).length = xss.length := by
  unfold mkSS; rw [List.length_append, seqSS_len, List.length_take, List.length_drop]; omega
theorem Inn.set {w w' : World} {lo : Nat} {vs : List Value} {xss : List (List Int)} {i : Nat} {v : Value} {ys : List Int} (h : Inn w lo vs xss) (hv : vs[i]? = some v) (hi : i < xss.length)
    (ho : w'.ownsRow lo 3 1 v ys.length (ints ys)) (hg : w.grownBy w' v.ownBlock) : Inn w' lo vs (xss.set i ys) := by
  refine ⟨by rw [List.length_set]; exact h.1, fun k a xs ha hx => ?_, h.2.2⟩
  by_cases hk : k = i
  · subst hk
    rw [List.getElem?_set_self hi] at hx
    rw [hv] at ha
    obtain rfl := Option.some.inj ha
    obtain rfl := Option.some.inj hx
    exact ho
  · rw [List.getElem?_set_ne (by omega)] at hx
    have h1 := h.2.1 k a xs ha hx
    refine h1.kept hg ?_
    by_cases hlt : k < i
    · rcases h.2.2 k i a v hlt ha hv with h2 | h2
      · rw [h2]; cases a.ownBlock <;> simp
      · exact .inr (fun e => h2 e.symm)
    · rcases h.2.2 i k v a (by omega) hv ha with h2 | h2
      · exact .inl h2
      · exact .inr h2
end Go.Proofs.Ytfbnmkpkihfocaa
namespace Go.Proofs.Ytfbnmkpkihfocaa
open Go.RowKit
set_option linter.unusedVariables false
set_option maxRecDepth 100000

end Go.Proofs.Ytfbnmkpkihfocaa
