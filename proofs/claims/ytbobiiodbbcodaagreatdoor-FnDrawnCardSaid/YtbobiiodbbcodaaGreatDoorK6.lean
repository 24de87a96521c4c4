/- Texts of this claim, gathered: Mb2, Mem, Bench, Chg. -/
import Derived.Test.YtbobiiodbbcodaaGreatDoorK5
import Derived.Deep.MidRow
namespace Go.Proofs.YtbobiiodbbcodaaGreatDoor
open Go.RowKit
set_option linter.unusedVariables false
set_option linter.unusedSimpArgs false
set_option maxRecDepth 100000
def mbS (n : Nat) : Nat := ((List.range n).map litN).sum
theorem mbS_succ (n : Nat) : mbS (n + 1) = mbS n + litN n := by unfold mbS; rw [List.range_succ, List.map_append, List.sum_append]; simp
theorem litN_bd {u : Nat} (h : u < 10000) : litN u ≤ 28 := by
  have h1 := litL_bd (rowL_cells u) (rowL u).length (Nat.le_refl _)
  rw [List.take_length] at h1
  have h2 := (rowL_row h).2
  show litL (rowL u) ≤ 28
  omega
theorem mbS_le : ∀ n, n ≤ 10000 → mbS n ≤ 28 * n
  | 0, _ => by simp [mbS]
  | n + 1, h => by
    rw [mbS_succ]
    have h1 := mbS_le n (by omega)
    have h2 := litN_bd (show n < 10000 by omega)
    omega
def mbV (n : Int) : Value := .tuple #[if inB n 0 9999 then fracV (mbS (n.toNat + 1)) (n.toNat + 1) else .agg #[.int .i64 0, .int .i64 0], .bool (inB n 0 9999)]
set_option maxHeartbeats 2000000 in
theorem MeanBars_c (n : Int) (w : World) (ht : TabM w) : Calls Tryz.prog 14 #[.int .i64 n] w fun e w' => e = .returned (mbV n) ∧ Below w.heap.size w w' := by
  have B0 := Lib.hid (Bk.new w 25 #[.int .i64 0, .int .i64 0])
  have HB0 := Lib.hid (below_one (w := w) (.cells #[.int .i64 0, .int .i64 0] 25))
  rcases hq : inB n 0 9999 with _ | _
  · have HF := Lib.hid (show mbV n = .tuple #[.agg #[.int .i64 0, .int .i64 0], .bool false] by simp [mbV, hq])
    have HQ := Lib.hid hq; clear hq
    go_enter Tryz.func14, Tryz.ntmps14
    go_wp2_with fail
    refine (within_c n 0 9999 _).mono ?_
    rintro e w1 ⟨rfl, rfl⟩
    rw [HQ.out]
    obtain ⟨d0, d1, z0, z1⟩ : (w.alloc (.cells #[.int .i64 0, .int .i64 0] 25)).cell? ⟨w.heap.size, 0, none⟩ = some (.int .i64 0) ∧ (w.alloc (.cells #[.int .i64 0, .int .i64 0] 25)).cell? ⟨w.heap.size, 1, none⟩ = some (.int .i64 0) ∧ (w.alloc (.cells #[.int .i64 0, .int .i64 0] 25)).frozen? ⟨w.heap.size, 0, none⟩ = false ∧ (w.alloc (.cells #[.int .i64 0, .int .i64 0] 25)).frozen? ⟨w.heap.size, 1, none⟩ = false := ⟨B0.out.cell 0, B0.out.cell 1, B0.out.frozen 0, B0.out.frozen 1⟩
    go_wp2
    refine bodyPost_ret (v := mbV n) (by rw [HF.out]; simp [results, Tryz.results14, go_sem, d0, d1]) rfl ⟨rfl, HB0.out⟩
  · obtain ⟨n0, n1⟩ := inB_true hq
    obtain ⟨N, rfl⟩ := Int.eq_ofNat_of_zero_le n0
    have HF : Hid (mbV (N : Int) = .tuple #[fracV (mbS (N + 1)) (N + 1), .bool true]) := by show _ = _; unfold mbV; rw [hq]; simp
    have HQ := Lib.hid hq; clear hq
    have HT := Lib.hid ht
    clear ht
    go_enter Tryz.func14, Tryz.ntmps14
    go_wp2_with fail
    refine (within_c (N : Int) 0 9999 _).mono ?_
    rintro e w1 ⟨rfl, rfl⟩
    rw [HQ.out]
    go_wp2
    go_loopw [4, 14] (fun s j wr => ∃ k : Nat, k ≤ N + 1 ∧ j = .int .i64 (k : Int) ∧ s = .int .i64 ((mbS k : Nat) : Int) ∧ Hid (Bk wr w.heap.size 25 #[.int .i64 0, .int .i64 0]) ∧ Hid (Below w.heap.size w wr)) (fun _ j _ => N + 1 - (intOf j).toNat)
    case atStart => exact ⟨0, by omega, rfl, rfl, B0, HB0⟩
    case round =>
      obtain ⟨k, hk, rfl, rfl, BB, HB⟩ := hrel
      by_cases hlt : k < N + 1
      · have hdd : decide ((k : Int) < (N : Int) + 1) = true := by simp; omega
        have hsk := mbS_le k (by omega)
        have hlk := litN_bd (show k < 10000 by omega)
        have HS := Lib.hid (mbS_succ k)
        have HRW := Lib.hid (rowOf_c k (by omega) wr (HT.out.on HB.out))
        have hrr := (rowL_row (show k < 10000 by omega)).1
        have HLN : Hid (litL (rowL k) = litN k) := rfl
        generalize mbS k = s at *
        generalize rowL k = R at *
        generalize litN k = ln at *
        go_wp2_with fail
        refine HRW.out.mono ?_
        rintro e w2 ⟨v, rfl, ho, hb2⟩
        have HI := Lib.hid (Ints.of_own ho)
        have HB2 := Lib.hid (Below.chain HB.out hb2)
        have BB2 := Lib.hid (BB.out.below hb2)
        clear ho hb2 HRW
        go_wp2_with fail
        refine (LitOf_c v R w2 HI.out hrr).mono ?_
        rintro e w3 ⟨rfl, hb3⟩
        have HB3 := Lib.hid (Below.chain HB2.out hb3)
        have BB3 := Lib.hid (BB2.out.below hb3)
        rw [HLN.out]
        clear hb3
        go_wp2
        go_roundw
        case rel => exact ⟨k + 1, by omega, by go_num, by rw [HS.out]; first | rfl | simp | exact int_val (by rw [IntWalk.i64_in _ (by omega)]; simp), BB3, HB3⟩
        case measure => simp [intOf]; omega
      · obtain rfl : k = N + 1 := by omega
        have hdd : decide (((N + 1 : Nat) : Int) < (N : Int) + 1) = false := by simp
        have hsk := mbS_le (N + 1) (by omega)
        generalize mbS (N + 1) = s at *
        have hfr := fraction_c s (N + 1) (by omega) (by omega) (by omega) wr
        rw [show ((N + 1 : Nat) : Int) = (N : Int) + 1 by omega] at hfr
        have HFR := Lib.hid hfr
        clear hfr
        go_wp2_with fail
        refine HFR.out.mono ?_
        rintro e w2 ⟨rfl, hb5⟩
        have BB2 := BB.out.below hb5
        have hb6 := Below.chain HB.out hb5
        have e0 : w2.cell? ⟨w.heap.size, 0, none⟩ = some (.int .i64 0) := BB2.cell 0
        have e1 : w2.cell? ⟨w.heap.size, 1, none⟩ = some (.int .i64 0) := BB2.cell 1
        have f0 := BB2.frozen 0
        have f1 := BB2.frozen 1
        obtain ⟨u0, u1, hb7⟩ := two_set (.int .i64 (fracN s (N + 1))) (.int .i64 (fracD s (N + 1))) e0 e1 hb6 (Nat.le_refl _)
        clear BB2 hb6 hb5 BB HB
        unfold fracV at HF ⊢
        go_wp2
        clear e0 e1 f0 f1
        generalize (World.setCell (World.setCell w2 _ _) _ _) = w3 at *
        refine bodyPost_ret (v := mbV (N : Int)) (by rw [HF.out]; simp [results, Tryz.results14, go_sem, u0, u1]) rfl ⟨rfl, hb7⟩
set_option maxHeartbeats 2000000 in
theorem sMeanBars_c (n : Int) (w : World) : Calls Tryz.prog 15 #[.int .i64 n] w fun e w' => e = .returned (mbV n) ∧ Below w.heap.size w w' := by
  have B0 := Lib.hid (Bk.new w 25 #[.int .i64 0, .int .i64 0])
  have HB0 := Lib.hid (below_one (w := w) (.cells #[.int .i64 0, .int .i64 0] 25))
  rcases hq : inB n 0 9999 with _ | _
  · have HF := Lib.hid (show mbV n = .tuple #[.agg #[.int .i64 0, .int .i64 0], .bool false] by simp [mbV, hq])
    have HQ := Lib.hid hq; clear hq
    go_enter Tryz.func15, Tryz.ntmps15
    go_wp2_with fail
    refine (l1In_c n 0 9999 _).mono ?_
    rintro e w1 ⟨rfl, rfl⟩
    rw [HQ.out]
    obtain ⟨d0, d1, z0, z1⟩ : (w.alloc (.cells #[.int .i64 0, .int .i64 0] 25)).cell? ⟨w.heap.size, 0, none⟩ = some (.int .i64 0) ∧ (w.alloc (.cells #[.int .i64 0, .int .i64 0] 25)).cell? ⟨w.heap.size, 1, none⟩ = some (.int .i64 0) ∧ (w.alloc (.cells #[.int .i64 0, .int .i64 0] 25)).frozen? ⟨w.heap.size, 0, none⟩ = false ∧ (w.alloc (.cells #[.int .i64 0, .int .i64 0] 25)).frozen? ⟨w.heap.size, 1, none⟩ = false := ⟨B0.out.cell 0, B0.out.cell 1, B0.out.frozen 0, B0.out.frozen 1⟩
    go_wp2
    refine bodyPost_ret (v := mbV n) (by rw [HF.out]; simp [results, Tryz.results15, go_sem, d0, d1]) rfl ⟨rfl, HB0.out⟩
  · obtain ⟨n0, n1⟩ := inB_true hq
    obtain ⟨N, rfl⟩ := Int.eq_ofNat_of_zero_le n0
    have HF : Hid (mbV (N : Int) = .tuple #[fracV (mbS (N + 1)) (N + 1), .bool true]) := by show _ = _; unfold mbV; rw [hq]; simp
    have HQ := Lib.hid hq; clear hq
    go_enter Tryz.func15, Tryz.ntmps15
    go_wp2_with fail
    refine (l1In_c (N : Int) 0 9999 _).mono ?_
    rintro e w1 ⟨rfl, rfl⟩
    rw [HQ.out]
    go_wp2
    go_loopw [4, 5] (fun s j wr => ∃ k : Nat, k ≤ N + 1 ∧ j = .int .i64 (k : Int) ∧ s = .int .i64 ((mbS k : Nat) : Int) ∧ Hid (Bk wr w.heap.size 25 #[.int .i64 0, .int .i64 0]) ∧ Hid (Below w.heap.size w wr)) (fun _ j _ => N + 1 - (intOf j).toNat)
    case atStart => exact ⟨0, by omega, rfl, rfl, B0, HB0⟩
    case round =>
      obtain ⟨k, hk, rfl, rfl, BB, HB⟩ := hrel
      by_cases hlt : k < N + 1
      · have hdd : decide ((k : Int) ≤ (N : Int)) = true := by simp; omega
        have hddn : decide (k ≤ N) = true := by simp; omega
        have hsk := mbS_le k (by omega)
        have hlk := litN_bd (show k < 10000 by omega)
        have HS := Lib.hid (mbS_succ k)
        rename World => wo
        go_wp2
        go_loopw [4, 6] (fun s j wr => ∃ (u t : Nat), u < 10000 ∧ j = .int .i64 (u : Int) ∧ s = .int .i64 ((t : Nat) : Int) ∧ t + litN u = mbS k + litN k ∧ Hid (Bk wr w.heap.size 25 #[.int .i64 0, .int .i64 0]) ∧ Hid (Below w.heap.size w wr)) (fun _ j _ => (intOf j).toNat)
        case atStart => exact ⟨k, mbS k, by omega, rfl, rfl, rfl, BB, HB⟩
        case round =>
          obtain ⟨u, t, hu, rfl, rfl, htu, BBi, HBi⟩ := hrel
          have hum : ((u % 10 : Nat) : Int) = (u : Int) % 10 := by omega
          have hud : ((u / 10 : Nat) : Int) = (u : Int) / 10 := by omega
          have htm : Int.tmod (u : Int) 10 = ((u % 10 : Nat) : Int) := by rw [Int.tmod_eq_emod_of_nonneg (by omega)]; omega
          have htd : Int.tdiv (u : Int) 10 = ((u / 10 : Nat) : Int) := by rw [Int.tdiv_eq_ediv_of_nonneg (by omega)]; omega
          have h10 : u % 10 < 10 := Nat.mod_lt _ (by decide)
          have HD := Lib.hid (fun w => l2Digit_c ((u % 10 : Nat) : Int) (by omega) (by omega) w)
          have hdb := dg_bd ((u % 10 : Nat) : Int)
          obtain ⟨e1, e2⟩ := cnt_cN hdb.1 hdb.2
          have HC := Lib.hid (fun w => l2Count_c (dg ((u % 10 : Nat) : Int)) hdb.1 hdb.2 w)
          rw [e1] at HC
          have hmk := mbS_le k (by omega)
          generalize hdd2 : dg ((u % 10 : Nat) : Int) = dz at *
          have HDZ := Lib.hid hdd2
          have htb : t ≤ 280028 := by omega
          have hw1 : IntKind.i64.wrap ((t : Int) + (cN dz : Int)) = ((t + cN dz : Nat) : Int) := by rw [IntWalk.i64_in _ (by omega)]; simp
          clear e1 hdd2
          go_wp2_with fail
          refine (HD.out _).mono ?_
          rintro e w4 ⟨rfl, hb4⟩
          have HB4 := Lib.hid (Below.chain HBi.out hb4)
          have BB4 := Lib.hid (BBi.out.below hb4)
          clear hb4
          go_wp2_with fail
          refine (HC.out _).mono ?_
          rintro e _ ⟨rfl, rfl⟩
          by_cases hu10 : u < 10
          · have hd10 : decide ((u : Int) < 10) = true := by simp; omega
            have HL := Lib.hid (litN_small hu10)
            have HT2 : Hid (t + cN dz = mbS (k + 1)) := by
              show _ = _
              rw [HS.out, ← htu, HL.out]
              have : dg (u : Int) = dz := by rw [← HDZ.out, Nat.mod_eq_of_lt hu10]
              rw [this]
            generalize cN dz = cz at *
            go_wp2
            go_roundw
            case rel => exact ⟨k + 1, by omega, by go_num, by rw [← HT2.out]; first | rfl | simp, BB4, HB4⟩
            case measure => simp [intOf]; omega
          · have hd10 : decide ((u : Int) < 10) = false := by simp; omega
            have HL := Lib.hid (litN_big hu10)
            have HT2 : t + cN dz + litN (u / 10) = mbS k + litN k := by
              have h1 := HL.out
              rw [HDZ.out] at h1
              omega
            generalize cN dz = cz at *
            go_wp2
            go_roundw
            case rel => exact ⟨u / 10, t + cz, by omega, by first | rfl | simp, by first | rfl | simp, HT2, BB4, HB4⟩
            case measure => simp [intOf]; omega
      · obtain rfl : k = N + 1 := by omega
        have hdd : decide (((N + 1 : Nat) : Int) ≤ (N : Int)) = false := by simp; omega
        have hsk := mbS_le (N + 1) (by omega)
        generalize mbS (N + 1) = s at *
        have hfr := l9Cut_c s (N + 1) (by omega) (by omega) (by omega) wr
        rw [show ((N + 1 : Nat) : Int) = (N : Int) + 1 by omega] at hfr
        have HFR := Lib.hid hfr
        clear hfr
        go_wp2_with fail
        refine HFR.out.mono ?_
        rintro e w2 ⟨rfl, hb5⟩
        have BB2 := BB.out.below hb5
        have hb6 := Below.chain HB.out hb5
        have e0 : w2.cell? ⟨w.heap.size, 0, none⟩ = some (.int .i64 0) := BB2.cell 0
        have e1 : w2.cell? ⟨w.heap.size, 1, none⟩ = some (.int .i64 0) := BB2.cell 1
        have f0 := BB2.frozen 0
        have f1 := BB2.frozen 1
        obtain ⟨u0, u1, hb7⟩ := two_set (.int .i64 (fracN s (N + 1))) (.int .i64 (fracD s (N + 1))) e0 e1 hb6 (Nat.le_refl _)
        clear BB2 hb6 hb5 BB HB
        unfold fracV at HF ⊢
        go_wp2
        clear e0 e1 f0 f1
        generalize (World.setCell (World.setCell w2 _ _) _ _) = w3 at *
        refine bodyPost_ret (v := mbV (N : Int)) (by rw [HF.out]; simp [results, Tryz.results15, go_sem, u0, u1]) rfl ⟨rfl, hb7⟩
end Go.Proofs.YtbobiiodbbcodaaGreatDoor
namespace Go.Proofs.YtbobiiodbbcodaaGreatDoor
open Go.RowKit
set_option linter.unusedVariables false
theorem range_below {w w' : World} {g o : Nat} {cs : List Value} (h : w.rangeAt g o cs) (hb : Below w.heap.size w w') : w'.rangeAt g o cs := fun j v hv => cell_later hb (h j v hv)
theorem there_below {w w' : World} {g o n : Nat} (h : w.there g o n) (hb : Below w.heap.size w w') : w'.there g o n := fun j hj => by
  obtain ⟨h1, h2⟩ := h j hj
  obtain ⟨u, hu⟩ := Option.isSome_iff_exists.1 h1
  have hlt := World.block_lt_of_cell? w _ hu
  exact ⟨by rw [cell_later hb hu]; rfl, by rw [hb.frozen (p := ⟨g, o + j, none⟩) hlt]; exact h2⟩
theorem there_new (w : World) (cs : Array Value) (t : TypeId) {n : Nat} (h : n ≤ cs.size) : (w.alloc (.cells cs t)).there w.heap.size 0 n := fun j hj => by
  rw [Nat.zero_add]
  refine ⟨?_, World.frozen?_alloc_new _ _ _ _⟩
  rw [World.cell?_alloc_at _ _ _ _ rfl, Array.getElem?_eq_getElem (by omega)]; rfl
theorem range_new (w : World) (cs : List Value) (t : TypeId) : (w.alloc (.cells cs.toArray t)).rangeAt w.heap.size 0 cs := fun j v hv => by
  rw [Nat.zero_add, World.cell?_alloc_at _ _ _ _ rfl]; simpa using hv
theorem there_sub {w : World} {g o n o' n' : Nat} (h : w.there g o n) (h1 : o ≤ o') (h2 : o' + n' ≤ o + n) : w.there g o' n' := fun j hj => by
  have := h (o' - o + j) (by omega)
  rwa [show o + (o' - o + j) = o' + j by omega] at this
theorem range_sub {w : World} {g o : Nat} {cs : List Value} (h : w.rangeAt g o cs) (p n : Nat) : w.rangeAt g (o + p) ((cs.drop p).take n) := fun j v hv => by
  rw [List.getElem?_take] at hv
  split at hv
  · rw [List.getElem?_drop] at hv
    have := h (p + j) v hv
    rwa [← Nat.add_assoc] at this
  · cases hv
theorem range_nil (w : World) (g o : Nat) : w.rangeAt g o [] := fun j v hv => by simp at hv
theorem range_append {w : World} {g o : Nat} {xs ys : List Value} (h1 : w.rangeAt g o xs) (h2 : w.rangeAt g (o + xs.length) ys) : w.rangeAt g o (xs ++ ys) := fun j v hv => by
  by_cases hj : j < xs.length
  · rw [List.getElem?_append_left hj] at hv; exact h1 j v hv
  · rw [List.getElem?_append_right (by omega)] at hv
    have := h2 _ v hv
    rwa [show o + xs.length + (j - xs.length) = o + j by omega] at this
theorem below_cells {w : World} : ∀ (vs : List Value) (a : World) (g o : Nat), Below w.heap.size w a → w.heap.size ≤ g → Below w.heap.size w (a.setCells g o vs)
  | [], _, _, _, h, _ => h
  | v :: r, a, g, o, h, hg => by rw [World.setCells]; exact below_cells r _ g (o + 1) (h.setCell hg v) hg
theorem range_grow {w : World} {g : Nat} {xs ys : List Value} (h : w.rangeAt g 0 xs) (ht : w.there g xs.length ys.length) : (w.setCells g xs.length ys).rangeAt g 0 (xs ++ ys) :=
  range_append (World.rangeAt_setCells_apart h _ _ _ (.inr (.inl (by omega)))) (by rw [Nat.zero_add]; exact World.rangeAt_setCells_same _ _ _ _ ht)
theorem wpList_load_want {P : Program} {ops : Array Oper} {rest : List Oper} {op : Oper} {a : Act} {w : World} {Q : Exit → Act → World → Prop} (hw : Region.wanted op (yielded ops a.tmps) = true) (ty : TypeId) (x : Operand) (ho : op.op = .load ty x)
    (b o : Nat) (hx : a.eval x = .pointer (some ⟨b, o, none⟩)) (cs : List Value) (d : TypeDesc) (hc : w.rangeAt b o cs)
    (hu : P.underlying ty = some d) (hd : d.isRow = true) (hi : (P.info? ty).map (·.size) = some cs.length)
    (h : wpList P ops Q rest (a.put op.dst (.agg cs.toArray)) w) : wpList P ops Q (op :: rest) a w :=
  BigFrame.wpList_want hw fun _ hK => wp_load_mid ty x ho b o hx cs d hc hu hd hi (hK _ _ h)
theorem wpList_store_want {P : Program} {ops : Array Oper} {rest : List Oper} {op : Oper} {a : Act} {w : World} {Q : Exit → Act → World → Prop} (hw : Region.wanted op (yielded ops a.tmps) = true) (ty : TypeId) (x y : Operand) (ho : op.op = .store ty x y)
    (b o : Nat) (cs : List Value) (hx : a.eval x = .pointer (some ⟨b, o, none⟩)) (hy : a.eval y = .agg cs.toArray)
    (ht : w.there b o cs.length) (hi : (P.info? ty).map (·.size) = some cs.length) (h1 : ∀ v ∈ cs, v.oneCell' = true)
    (h : wpList P ops Q rest (a.put op.dst undef) (w.setCells b o cs)) : wpList P ops Q (op :: rest) a w :=
  BigFrame.wpList_want hw fun _ hK => wp_store_mid ty x y ho b o cs.toArray hx hy (by simpa using ht) (by simpa using hi) (all_oneCell_toArray h1) (hK _ _ (by simpa using h))
/-- the results of a function whose result lies in memory -/
theorem res_cell {P : Program} {fn : Func} {r : Nat} {t : TypeId} {tmps : Array Value} {w : World} {g : Nat} {v : Value} (h : fn.results = #[.cell r t]) (hr : tmps.getD r undef = .pointer (some ⟨g, 0, none⟩)) (hl : (loadVar t ⟨g, 0, none⟩).run P w = .ok v w) :
    (results fn tmps).run P w = .ok v w := by
  unfold results
  rw [h]
  simp only [List.mapM_toArray, List.mapM_cons, List.mapM_nil, Sem.run_bind, Sem.run_pure, Sem.run_map, Result.andThen_ok, hr, asAddr, hl]
  rfl
theorem res_cell2 {P : Program} {fn : Func} {r k : Nat} {t : TypeId} {tmps : Array Value} {w : World} {g : Nat} {v : Value} (h : fn.results = #[.cell r t, .tmp k]) (hr : tmps.getD r undef = .pointer (some ⟨g, 0, none⟩)) (hl : (loadVar t ⟨g, 0, none⟩).run P w = .ok v w) :
    (results fn tmps).run P w = .ok (.tuple #[v, tmps.getD k undef]) w := by
  unfold results
  rw [h]
  simp only [List.mapM_toArray, List.mapM_cons, List.mapM_nil, Sem.run_bind, Sem.run_pure, Sem.run_map, Result.andThen_ok, hr, asAddr, hl]
  rfl
end Go.Proofs.YtbobiiodbbcodaaGreatDoor
namespace Go.Proofs.YtbobiiodbbcodaaGreatDoor
open Go.RowKit
set_option linter.unusedVariables false
set_option maxRecDepth 100000
/-- a value of so many ints -/
def aggI (b : List Int) : Value := .agg (ints b).toArray
def bg (b : List Int) (j : Nat) : Int := b.getD j 0
/-- the dark bars and the lit ones of a place -/
def bF (b : List Int) (k : Nat) : Int × Int := (bg b (6 + k), bg b (12 + k))
theorem ints_get {b : List Int} {j : Nat} (h : j < b.length) : (ints b).toArray[j]? = some (.int .i64 (bg b j)) := by
  simp [ints, h, bg]
/-- the cells of a Bench's box, behind whatever was made behind it -/
theorem bench_cell {w w1 : World} {b : List Int} {t : TypeId} (hb : Below (w.alloc (.cells (ints b).toArray t)).heap.size (w.alloc (.cells (ints b).toArray t)) w1) {j : Nat} (h : j < b.length) :
    w1.cell? ⟨w.heap.size, j, none⟩ = some (.int .i64 (bg b j)) := (box_after hb).1 j _ (ints_get h)
theorem bench_range {w w1 : World} {b : List Int} {t : TypeId} (hb : Below (w.alloc (.cells (ints b).toArray t)).heap.size (w.alloc (.cells (ints b).toArray t)) w1) :
    w1.rangeAt w.heap.size 0 (ints b) := fun j v h => by rw [Nat.zero_add]; exact (box_after hb).1 j v (by simpa using h)
theorem ints_one {b : List Int} : ∀ v ∈ ints b, v.oneCell' = true := fun v hv => by
  simp only [ints, List.mem_map] at hv
  obtain ⟨x, _, rfl⟩ := hv
  rfl
def fsB (b : List Int) : List (Int × Int) := (List.range 6).map (bF b)
def goodAt (b : List Int) (k : Nat) : Bool := cellB (bg b k) && fB (bF b k)
def goodTo (b : List Int) (n : Nat) : Bool := (List.range n).all (goodAt b)
def goodB (b : List Int) : Bool := goodTo b 6 && inB (bg b 18) 0 1000
theorem goodTo_succ (b : List Int) (n : Nat) : goodTo b (n + 1) = (goodTo b n && goodAt b n) := by
  unfold goodTo; rw [List.range_succ, List.all_append]; simp
theorem goodTo_bad {b : List Int} {k n : Nat} (hk : k < n) (h : goodAt b k = false) : goodTo b n = false := by
  unfold goodTo
  rw [Bool.eq_false_iff]; intro h2
  rw [List.all_eq_true] at h2
  rw [h2 k (List.mem_range.2 hk)] at h; cases h
theorem take_range {b : List Int} {n : Nat} (h : n ≤ b.length) : b.take n = (List.range n).map (bg b) := by
  apply List.ext_getElem?
  intro i
  rw [List.getElem?_take, List.getElem?_map]
  by_cases hi : i < n
  · rw [if_pos hi, List.getElem?_range hi, List.getElem?_eq_getElem (by omega)]
    simp [bg, show i < b.length by omega]
  · rw [if_neg hi, List.getElem?_eq_none (by simp; omega)]; rfl
theorem goodB_eq {b : List Int} (hb : b.length = 19) : goodB b = ((rowB (b.take 6) && (fsB b).all fB) && inB (bg b 18) 0 1000) := by
  unfold goodB goodTo rowB fsB
  congr 1
  rw [take_range (by omega), decide_eq_true (by simp), Bool.true_and, List.all_map, List.all_map, Bool.eq_iff_iff]
  simp only [Bool.and_eq_true, List.all_eq_true, goodAt, Function.comp]
  exact ⟨fun h => ⟨fun x hx => (h x hx).1, fun x hx => (h x hx).2⟩, fun h x hx => ⟨h.1 x hx, h.2 x hx⟩⟩
def fsTo (b : List Int) (n : Nat) : List (Int × Int) := (List.range n).map (bF b)
theorem fsTo_succ (b : List Int) (n : Nat) : fsTo b (n + 1) = fsTo b n ++ [bF b n] := by unfold fsTo; rw [List.range_succ, List.map_append]; rfl
theorem fsTo_len (b : List Int) (n : Nat) : (fsTo b n).length = n := by simp [fsTo]
theorem ints_box {w w1 : World} {b : List Int} {t : TypeId} (hb : Below (w.alloc (.cells (ints b).toArray t)).heap.size (w.alloc (.cells (ints b).toArray t)) w1) {n : Nat} (h : n ≤ b.length) (hm : b.length ≤ 1000) (c : Nat) (hc : n ≤ c) (hcm : c ≤ 1000) :
    Ints w1 (.slice (some ⟨w.heap.size, 0, none⟩) n c) (b.take n) := by
  have hl : (b.take n).length = n := by rw [List.length_take]; omega
  refine ⟨_, _, by rw [hl], by rw [hl]; exact hc, by unfold maxLen; omega, by simp, fun _ => ⟨_, _, rfl, fun j hj => ?_⟩⟩
  rw [hl] at hj
  rw [Nat.zero_add, bench_cell hb (by omega), List.getElem?_map, List.getElem?_take, if_pos (by omega), List.getElem?_eq_getElem (by omega)]
  simp [bg, show j < b.length by omega]
end Go.Proofs.YtbobiiodbbcodaaGreatDoor
namespace Go.Proofs.YtbobiiodbbcodaaGreatDoor
open Go.RowKit
set_option linter.unusedVariables false
set_option linter.unusedSimpArgs false
set_option maxRecDepth 100000
/-- how many bars two digits differ in -/
def frI (x y : Int) : Int := cnt (((dg x).toNat ^^^ (dg y).toNat : Nat) : Int)
theorem xor_all : ∀ x y : Fin 10, bits .xor .i64 (dg (x.1 : Int)) (dg (y.1 : Int)) = (((dg (x.1 : Int)).toNat ^^^ (dg (y.1 : Int)).toNat : Nat) : Int) ∧ (((dg (x.1 : Int)).toNat ^^^ (dg (y.1 : Int)).toNat : Nat) : Int) ≤ 127 := by decide +kernel
theorem fr_all : ∀ x y : Fin 10, 0 ≤ frI (x.1 : Int) (y.1 : Int) ∧ frI (x.1 : Int) (y.1 : Int) ≤ 7 := by decide +kernel
theorem xor_dg {x y : Int} (x0 : 0 ≤ x) (x1 : x ≤ 9) (y0 : 0 ≤ y) (y1 : y ≤ 9) : ∃ z : Int, bits .xor .i64 (dg x) (dg y) = z ∧ 0 ≤ z ∧ z ≤ 127 ∧ cnt z = frI x y := by
  obtain ⟨a, rfl⟩ := Int.eq_ofNat_of_zero_le x0
  obtain ⟨b, rfl⟩ := Int.eq_ofNat_of_zero_le y0
  have h := xor_all ⟨a, by omega⟩ ⟨b, by omega⟩
  exact ⟨_, h.1, by omega, h.2, rfl⟩
theorem fr_bd {x y : Int} (x0 : 0 ≤ x) (x1 : x ≤ 9) (y0 : 0 ≤ y) (y1 : y ≤ 9) : 0 ≤ frI x y ∧ frI x y ≤ 7 := by
  obtain ⟨a, rfl⟩ := Int.eq_ofNat_of_zero_le x0
  obtain ⟨b, rfl⟩ := Int.eq_ofNat_of_zero_le y0
  exact fr_all ⟨a, by omega⟩ ⟨b, by omega⟩
/-- the changes of the first so many steps -/
def chTo (xs : List Int) (n : Nat) : Int := (List.range n).foldl (fun s k => s + frI (xs.getD k 0) (xs.getD (k + 1) 0)) 0
def chL (xs : List Int) : Int := chTo xs (xs.length - 1)
theorem chTo_succ (xs : List Int) (n : Nat) : chTo xs (n + 1) = chTo xs n + frI (xs.getD n 0) (xs.getD (n + 1) 0) := by unfold chTo; rw [List.range_succ, List.foldl_append]; rfl
theorem chTo_bd {xs : List Int} (h : ∀ x ∈ xs, 0 ≤ x ∧ x ≤ 9) : ∀ n, n < xs.length → 0 ≤ chTo xs n ∧ chTo xs n ≤ 7 * n
  | 0, _ => ⟨Int.le_refl _, Int.le_refl _⟩
  | n + 1, hn => by
    have ih := chTo_bd h n (by omega)
    rw [chTo_succ]
    have hx : ∀ k, k < xs.length → 0 ≤ xs.getD k 0 ∧ xs.getD k 0 ≤ 9 := fun k hk => by
      have e : xs.getD k 0 = xs[k] := by simp [hk]
      rw [e]; exact h _ (List.getElem_mem hk)
    have h1 := hx n (by omega)
    have h2 := hx (n + 1) hn
    have := fr_bd h1.1 h1.2 h2.1 h2.2
    omega
theorem chL_bd {xs : List Int} (h : ∀ x ∈ xs, 0 ≤ x ∧ x ≤ 9) (hn : xs.length ≤ 10) : 0 ≤ chL xs ∧ chL xs ≤ 70 := by
  unfold chL
  by_cases hz : xs.length = 0
  · rw [hz]; exact ⟨Int.le_refl _, show (0 : Int) ≤ 70 by omega⟩
  · have := chTo_bd h (xs.length - 1) (by omega)
    omega
/-- the table as it grows -/
def tabTo (n : Nat) : List Int := (List.range 100).map fun i => if i < n then frI ((i / 10 : Nat) : Int) ((i % 10 : Nat) : Int) else 0
theorem tabTo_len (n : Nat) : (tabTo n).length = 100 := by simp [tabTo]
theorem tabTo_get {n i : Nat} (h : i < 100) : (tabTo n)[i]? = some (if i < n then frI ((i / 10 : Nat) : Int) ((i % 10 : Nat) : Int) else 0) := by
  unfold tabTo; rw [List.getElem?_map, List.getElem?_range h]; rfl
theorem tabTo_succ {a b : Nat} (ha : a < 10) (hb : b < 10) : (tabTo (a * 10 + b)).set (a * 10 + b) (frI (a : Int) (b : Int)) = tabTo (a * 10 + b + 1) := by
  apply List.ext_getElem?
  intro i
  by_cases hi : i < 100
  · rw [List.getElem?_set, tabTo_get hi, tabTo_get hi]
    by_cases he : a * 10 + b = i
    · rw [if_pos he, if_pos (by rw [tabTo_len]; omega), if_pos (by omega), ← he]
      rw [show (a * 10 + b) / 10 = a by omega, show (a * 10 + b) % 10 = b by omega]
    · rw [if_neg he]
      by_cases hl : i < a * 10 + b
      · rw [if_pos hl, if_pos (by omega)]
      · rw [if_neg hl, if_neg (by omega)]
  · rw [List.getElem?_eq_none (by rw [List.length_set, tabTo_len]; omega), List.getElem?_eq_none (by rw [tabTo_len]; omega)]
def tabV : Value := .agg (ints (tabTo 100)).toArray
def z100 : Array Value := Array.replicate 100 (.int .i64 0)
theorem tab_zero : (ints (tabTo 0)).toArray = z100 := rfl
theorem info_tab : (Tryz.prog.info? 68).map (fun i => i.size) = some 100 := by kernel_rfl
theorem l2Far_c (x y : Int) (x0 : 0 ≤ x) (x1 : x ≤ 9) (y0 : 0 ≤ y) (y1 : y ≤ 9) (w : World) : Calls Tryz.prog 61 #[.int .i64 (dg x), .int .i64 (dg y)] w fun e w' => e = .returned (.int .i64 (frI x y)) ∧ w = w' := by
  obtain ⟨z, hz, z0, z1, hc⟩ := xor_dg x0 x1 y0 y1
  have HC := Lib.hid (fun w => l2Count_c z z0 z1 w)
  rw [hc] at HC
  generalize dg x = dx at *
  generalize dg y = dy at *
  clear hc
  go_enter Tryz.func61, Tryz.ntmps61
  go_wp2_with fail
  refine (HC.out _).mono ?_
  rintro e _ ⟨rfl, rfl⟩
  go_wp2
  go_ret
  exact ⟨rfl, rfl⟩
theorem digits_all {xs : List Int} (h : xs.all digitB = true) : ∀ x ∈ xs, 0 ≤ x ∧ x ≤ 9 := fun x hx => digitB_true (List.all_eq_true.1 h x hx)
theorem wpList_store100 {ops : Array Oper} {rest : List Oper} {op : Oper} {a : Act} {w : World} {Q : Exit → Act → World → Prop} (hw : Region.wanted op (yielded ops a.tmps) = true) (x y : Operand) (ho : op.op = .store 68 x y)
    (g : Nat) (b : List Int) (hx : a.eval x = .pointer (some ⟨g, 0, none⟩)) (hy : a.eval y = .agg (ints b).toArray) (ht : w.there g 0 100) (hb : b.length = 100)
    (h : wpList Tryz.prog ops Q rest (a.put op.dst undef) (w.setCells g 0 (ints b))) : wpList Tryz.prog ops Q (op :: rest) a w :=
  wpList_store_want hw _ x y ho g 0 (ints b) hx hy (by rw [show (ints b).length = 100 by simp [ints, hb]]; exact ht) (by rw [show (ints b).length = 100 by simp [ints, hb]]; kernel_rfl) ints_one h
theorem wpList_load100 {ops : Array Oper} {rest : List Oper} {op : Oper} {a : Act} {w : World} {Q : Exit → Act → World → Prop} (hw : Region.wanted op (yielded ops a.tmps) = true) (x : Operand) (ho : op.op = .load 68 x)
    (g : Nat) (hx : a.eval x = .pointer (some ⟨g, 0, none⟩)) (b : List Int) (hc : w.rangeAt g 0 (ints b)) (hb : b.length = 100)
    (h : wpList Tryz.prog ops Q rest (a.put op.dst (.agg (ints b).toArray)) w) : wpList Tryz.prog ops Q (op :: rest) a w :=
  wpList_load_want hw _ x ho g 0 hx (ints b) _ hc Tryz.underlying68 rfl (by rw [show (ints b).length = 100 by simp [ints, hb]]; kernel_rfl) h
theorem loadVar100 {w : World} {g : Nat} {b : List Int} (h : w.rangeAt g 0 (ints b)) (hb : b.length = 100) : (loadVar 68 ⟨g, 0, none⟩).run Tryz.prog w = .ok (aggI b) w :=
  run_loadVar_mid w g 0 _ (ints b) _ h Tryz.underlying68 rfl (by rw [show (ints b).length = 100 by simp [ints, hb]]; kernel_rfl)
theorem wpList_load10 {ops : Array Oper} {rest : List Oper} {op : Oper} {a : Act} {w : World} {Q : Exit → Act → World → Prop} (hw : Region.wanted op (yielded ops a.tmps) = true) (x : Operand) (ho : op.op = .load 67 x)
    (g : Nat) (hx : a.eval x = .pointer (some ⟨g, 0, none⟩)) (h2 : Bk w g 67 #[.int .i64 63, .int .i64 6, .int .i64 91, .int .i64 79, .int .i64 102, .int .i64 109, .int .i64 125, .int .i64 7, .int .i64 127, .int .i64 111])
    (h : wpList Tryz.prog ops Q rest (a.put op.dst digA) w) : wpList Tryz.prog ops Q (op :: rest) a w :=
  wpList_load_want hw _ x ho g 0 hx (ints [63, 6, 91, 79, 102, 109, 125, 7, 127, 111]) _ (fun j v hv => by rw [Nat.zero_add, h2.cell j]; simpa [ints] using hv) Tryz.underlying67 rfl (by kernel_rfl) h
/-- the table -/
def tabB (n : Nat) : Array Value := (ints (tabTo n)).toArray
theorem Bk.rangeC {w : World} {g t : Nat} {b : List Value} (h : Bk w g t b.toArray) : w.rangeAt g 0 b := fun j v hv => by
  rw [Nat.zero_add, h.cell j]; simpa using hv
theorem Bk.thereC {w : World} {g t : Nat} {cs : Array Value} (h : Bk w g t cs) {n : Nat} (hn : n ≤ cs.size) : w.there g 0 n := fun j hj => by
  rw [Nat.zero_add]
  exact ⟨by rw [h.cell j, Array.getElem?_eq_getElem (by omega)]; rfl, h.frozen j⟩
theorem tabB_size (n : Nat) : (tabB n).size = 100 := by simp [tabB, ints, tabTo_len]
theorem tabB_some {n i : Nat} (h : i < 100) : ∃ u, (tabB n)[i]? = some u := ⟨_, Array.getElem?_eq_getElem (by rw [tabB_size]; exact h)⟩
theorem Bk.setT {w : World} {g t a b : Nat} (h : Bk w g t (tabB (a * 10 + b))) (ha : a < 10) (hb : b < 10) : Bk (w.setCell ⟨g, a * 10 + b, none⟩ (.int .i64 (frI (a : Int) (b : Int)))) g t (tabB (a * 10 + b + 1)) := by
  have h2 := h.set (a * 10 + b) (.int .i64 (frI (a : Int) (b : Int)))
  unfold tabB at *
  rw [← tabTo_succ ha hb]
  unfold ints at *
  rw [List.map_set]
  simpa using h2
def digC : Array Value := #[.int .i64 63, .int .i64 6, .int .i64 91, .int .i64 79, .int .i64 102, .int .i64 109, .int .i64 125, .int .i64 7, .int .i64 127, .int .i64 111]
/-- what the rounds of ChangeTable keep -/
structure Tb (w : World) (D n : Nat) (wr : World) : Prop where
  b : Bk wr (w.heap.size + 1) 68 (tabB n)
  r : Bk wr w.heap.size 68 (tabB 0)
  d : Bk wr D 67 digC
  low : Below w.heap.size w wr
  hD : w.heap.size + 1 < D
theorem Tb.drew {w wr : World} {D n : Nat} (h : Tb w D n wr) : Tb w D n wr.drew := ⟨h.b, h.r, h.d, h.low.drew, h.hD⟩
theorem Tb.put {w wr : World} {D a b : Nat} (h : Tb w D (a * 10 + b) wr) (ha : a < 10) (hb : b < 10) : Tb w D (a * 10 + b + 1) (wr.setCell ⟨w.heap.size + 1, a * 10 + b, none⟩ (.int .i64 (frI (a : Int) (b : Int)))) :=
  ⟨h.b.setT ha hb, h.r.other (by simp) _, h.d.other (by have := h.hD; simp; omega) _, h.low.setCell (by simp) _, h.hD⟩
set_option maxHeartbeats 4000000 in
theorem ChangeTable_c (w : World) : Calls Tryz.prog 60 #[] w fun e w' => e = .returned (aggI (tabTo 100)) ∧ Below w.heap.size w w' := by
  have T0 := (Bk.new w 68 (tabB 0)).alloc (.cells (tabB 0) 68)
  have T1 := Bk.new (w.alloc (.cells (tabB 0) 68)) 68 (tabB 0)
  have hb0 : Below w.heap.size w ((w.alloc (.cells (tabB 0) 68)).alloc (.cells (tabB 0) 68)) := by (repeat (first | exact Below.refl _ _ | exact (Below.refl _ _).drew | assumption | exact below_one _ | refine Below.chain ?_ (by assumption) | refine Below.drew ?_ | refine Below.alc ?_ _ | refine below_drewN ?_ | (refine Below.setCell ?_ ?_ _) | exact Nat.le_refl _ | (simp; done) | (simp; omega)))
  rw [World.size_alloc] at T1
  have hz : tabB 0 = #[.int .i64 0, .int .i64 0, .int .i64 0, .int .i64 0, .int .i64 0, .int .i64 0, .int .i64 0, .int .i64 0, .int .i64 0, .int .i64 0, .int .i64 0, .int .i64 0, .int .i64 0, .int .i64 0, .int .i64 0, .int .i64 0, .int .i64 0, .int .i64 0, .int .i64 0, .int .i64 0, .int .i64 0, .int .i64 0, .int .i64 0, .int .i64 0, .int .i64 0, .int .i64 0, .int .i64 0, .int .i64 0, .int .i64 0, .int .i64 0, .int .i64 0, .int .i64 0, .int .i64 0, .int .i64 0, .int .i64 0, .int .i64 0, .int .i64 0, .int .i64 0, .int .i64 0, .int .i64 0, .int .i64 0, .int .i64 0, .int .i64 0, .int .i64 0, .int .i64 0, .int .i64 0, .int .i64 0, .int .i64 0, .int .i64 0, .int .i64 0, .int .i64 0, .int .i64 0, .int .i64 0, .int .i64 0, .int .i64 0, .int .i64 0, .int .i64 0, .int .i64 0, .int .i64 0, .int .i64 0, .int .i64 0, .int .i64 0, .int .i64 0, .int .i64 0, .int .i64 0, .int .i64 0, .int .i64 0, .int .i64 0, .int .i64 0, .int .i64 0, .int .i64 0, .int .i64 0, .int .i64 0, .int .i64 0, .int .i64 0, .int .i64 0, .int .i64 0, .int .i64 0, .int .i64 0, .int .i64 0, .int .i64 0, .int .i64 0, .int .i64 0, .int .i64 0, .int .i64 0, .int .i64 0, .int .i64 0, .int .i64 0, .int .i64 0, .int .i64 0, .int .i64 0, .int .i64 0, .int .i64 0, .int .i64 0, .int .i64 0, .int .i64 0, .int .i64 0, .int .i64 0, .int .i64 0, .int .i64 0] := tab_zero
  have T0h := Lib.hid T0
  have T1h := Lib.hid T1
  have HB0 := Lib.hid hb0
  clear T0 T1 hb0
  rw [hz] at T0h T1h HB0
  go_enter Tryz.func60, Tryz.ntmps60
  go_wp2_with fail
  refine (digitCells_c _).mono ?_
  rintro e w1 ⟨rfl, hb1⟩
  have hT : Tb w w1.heap.size 0 (w1.alloc (.cells digC 67)) := ⟨by rw [hz]; exact (T1h.out.below hb1).alloc _, by rw [hz]; exact (T0h.out.below hb1).alloc _, Bk.new w1 67 digC, Below.alc (Below.chain HB0.out hb1) _, (T1h.out.below hb1).lt⟩
  have HT := Lib.hid hT
  have dB := hT.d
  clear hT hb1 T0h T1h HB0
  unfold digC at dB HT
  unfold digA
  go_wp2_with (refine wpList_load10 rfl _ rfl _ rfl ?_ ?_; exact dB)
  clear dB
  generalize World.alloc _ _ = w2 at *
  go_loopw [9] (fun j wr => ∃ k : Nat, k ≤ 10 ∧ j = .int .i64 (k : Int) ∧ Hid (Tb w w1.heap.size (k * 10) wr)) (fun j _ => 10 - (intOf j).toNat)
  case atStart => exact ⟨0, by omega, rfl, HT⟩
  case round =>
    obtain ⟨k, hk, rfl, HT1⟩ := hrel
    by_cases hlt : k < 10
    · have hdk : decide ((k : Int) < 10) = true := by simp; omega
      have hIk := fun w => index_dig (k : Int) (by omega) (by omega) w
      have dB : Bk wr w1.heap.size 67 #[.int .i64 63, .int .i64 6, .int .i64 91, .int .i64 79, .int .i64 102, .int .i64 109, .int .i64 125, .int .i64 7, .int .i64 127, .int .i64 111] := HT1.out.d
      rename World => wo
      go_wp2_with (refine wpList_load10 rfl _ rfl _ rfl ?_ ?_; exact dB)
      clear dB
      go_loopw [14] (fun j wr => ∃ m : Nat, m ≤ 10 ∧ j = .int .i64 (m : Int) ∧ Hid (Tb w w1.heap.size (k * 10 + m) wr)) (fun j _ => 10 - (intOf j).toNat)
      case atStart => exact ⟨0, by omega, rfl, HT1⟩
      case round =>
        obtain ⟨m, hm, rfl, HT2⟩ := hrel
        by_cases hlm : m < 10
        · have hdm : decide ((m : Int) < 10) = true := by simp; omega
          have hIm := fun w => index_dig (m : Int) (by omega) (by omega) w
          obtain ⟨z, hz1, z0, z1, hc⟩ := xor_dg (x := (k : Int)) (y := (m : Int)) (by omega) (by omega) (by omega) (by omega)
          have HC := Lib.hid (fun w => count_c z z0 z1 w)
          rw [hc] at HC
          have n1 : (0 : Int) ≤ (k : Int) := by omega
          have n2 : (k : Int) < 10 := by omega
          have n3 : (0 : Int) ≤ (m : Int) := by omega
          have n4 : (m : Int) < 10 := by omega
          have HP := Lib.hid (HT2.out.drew.put hlt hlm)
          obtain ⟨u9, hu9⟩ := tabB_some (n := k * 10 + m) (i := k * 10 + m) (by omega)
          have hcl : wr.cell? ⟨w.heap.size + 1, k * 10 + m, none⟩ = some u9 := by rw [HT2.out.b.cell]; exact hu9
          have hfz : wr.frozen? ⟨w.heap.size + 1, k * 10 + m, none⟩ = false := HT2.out.b.frozen _
          have hrh : (wr.drew.cell? ⟨w.heap.size + 1, k * 10 + m, none⟩ = some u9 ∧ wr.drew.frozen? ⟨w.heap.size + 1, k * 10 + m, none⟩ = false) := ⟨hcl, hfz⟩
          generalize dg (k : Int) = dk at *
          generalize dg (m : Int) = dm at *
          generalize frI (k : Int) (m : Int) = fr at *
          clear hc hu9
          go_wp2_with fail
          refine wp_region_noPanic ?_
          refine wp_region_held_drew (S := fun w' : World => (∃ u, w'.cell? ⟨w.heap.size + 1, k * 10 + m, none⟩ = some u) ∧ w'.frozen? ⟨w.heap.size + 1, k * 10 + m, none⟩ = false) (by kernel_rfl) ⟨⟨_, hrh.1⟩, hrh.2⟩ (fun hHeld => ?_)
          refine' wpAnyH_take (i := 0) (oi := _) (v := _) ?e_16 ?a_16 ?b_16 ?c_16 ?q_16 ?y_16 hHeld ?r_16
          case e_16 => (simp only [List.getElem?_toArray, List.getElem?_cons_zero, List.getElem?_cons_succ]; exact rfl)
          case a_16 => kernel_rfl
          case b_16 => kernel_rfl
          case c_16 => kernel_rfl
          case q_16 => exact fun _ _ _ h => h
          case y_16 => exact Or.inl ⟨by rfl, by (intro w hSw; (try dsimp only at hSw); go_simp; first | done | with_reducible rfl)⟩
          try simp only [Act.put, List.setIfInBounds_toArray, List.set_cons_zero, List.set_cons_succ]
          refine' wpAnyH_take (i := 1) (oi := _) (v := _) ?e_17 ?a_17 ?b_17 ?c_17 ?q_17 ?y_17 hHeld ?r_17
          case e_17 => (simp only [List.getElem?_toArray, List.getElem?_cons_zero, List.getElem?_cons_succ]; exact rfl)
          case a_17 => kernel_rfl
          case b_17 => kernel_rfl
          case c_17 => kernel_rfl
          case q_17 => exact fun _ _ _ h => h
          case y_17 => exact Or.inl ⟨by rfl, by (intro w hSw; (try dsimp only at hSw); go_simp; first | done | with_reducible rfl)⟩
          try simp only [Act.put, List.setIfInBounds_toArray, List.set_cons_zero, List.set_cons_succ]
          refine' wpAnyH_take (i := 2) (oi := _) (v := _) ?e_18 ?a_18 ?b_18 ?c_18 ?q_18 ?y_18 hHeld ?r_18
          case e_18 => (simp only [List.getElem?_toArray, List.getElem?_cons_zero, List.getElem?_cons_succ]; exact rfl)
          case a_18 => kernel_rfl
          case b_18 => kernel_rfl
          case c_18 => kernel_rfl
          case q_18 => exact fun _ _ _ h => h
          case y_18 => exact Or.inl ⟨by rfl, by (intro w hSw; (try dsimp only at hSw); go_simp; first | done | with_reducible rfl)⟩
          try simp only [Act.put, List.setIfInBounds_toArray, List.set_cons_zero, List.set_cons_succ]
          refine' wpAnyH_take (i := 3) (oi := _) (v := _) ?e_19 ?a_19 ?b_19 ?c_19 ?q_19 ?y_19 hHeld ?r_19
          case e_19 => (simp only [List.getElem?_toArray, List.getElem?_cons_zero, List.getElem?_cons_succ]; exact rfl)
          case a_19 => kernel_rfl
          case b_19 => kernel_rfl
          case c_19 => kernel_rfl
          case q_19 => exact fun _ _ _ h => h
          case y_19 => exact Or.inl ⟨by rfl, by (intro w hSw; (try dsimp only at hSw); go_simp; first | done | with_reducible rfl)⟩
          try simp only [Act.put, List.setIfInBounds_toArray, List.set_cons_zero, List.set_cons_succ]
          refine' wpAnyH_take (i := 4) (oi := _) (v := _) ?e_20 ?a_20 ?b_20 ?c_20 ?q_20 ?y_20 hHeld ?r_20
          case e_20 => (simp only [List.getElem?_toArray, List.getElem?_cons_zero, List.getElem?_cons_succ]; exact rfl)
          case a_20 => kernel_rfl
          case b_20 => kernel_rfl
          case c_20 => kernel_rfl
          case q_20 => exact fun _ _ _ h => h
          case y_20 => exact Or.inl ⟨by rfl, by (intro w hSw; (try dsimp only at hSw); go_simp; first | done | with_reducible rfl)⟩
          try simp only [Act.put, List.setIfInBounds_toArray, List.set_cons_zero, List.set_cons_succ]
          refine' wpAnyH_take (i := 6) (oi := _) (v := _) ?e_21 ?a_21 ?b_21 ?c_21 ?q_21 ?y_21 hHeld ?r_21
          case e_21 => (simp only [List.getElem?_toArray, List.getElem?_cons_zero, List.getElem?_cons_succ]; exact rfl)
          case a_21 => kernel_rfl
          case b_21 => kernel_rfl
          case c_21 => kernel_rfl
          case q_21 => exact fun _ _ _ h => h
          case y_21 => exact Or.inl ⟨by rfl, by (intro w hSw; (try dsimp only at hSw); go_simp; first | done | with_reducible rfl)⟩
          try simp only [Act.put, List.setIfInBounds_toArray, List.set_cons_zero, List.set_cons_succ]
          refine wpAnyH_ready (rs := [5]) (by kernel_rfl) (by simp) ?_
          refine' AllReadyH.cons (o := _) ?e_22 ?st_22 AllReadyH.nil
          case e_22 => (simp only [List.getElem?_toArray, List.getElem?_cons_zero, List.getElem?_cons_succ]; exact rfl)
          intro K hK
          go_simp
          refine (HC.out _).mono ?_
          rintro e c9 ⟨rfl, rfl⟩
          go_wp2_with fail
          refine hK.out _ _ hHeld (fun hHeld => ?_)
          clear hK K
          try simp only [Act.put, List.setIfInBounds_toArray, List.set_cons_zero, List.set_cons_succ]
          refine' wpAnyH_take (i := 7) (oi := _) (v := _) ?e_23 ?a_23 ?b_23 ?c_23 ?q_23 ?y_23 hHeld ?r_23
          case e_23 => (simp only [List.getElem?_toArray, List.getElem?_cons_zero, List.getElem?_cons_succ]; exact rfl)
          case a_23 => kernel_rfl
          case b_23 => kernel_rfl
          case c_23 => kernel_rfl
          case q_23 => exact fun _ _ _ h => h
          case y_23 => exact Or.inl ⟨by rfl, by (intro w hSw; (try dsimp only at hSw); go_simp; first | done | with_reducible rfl)⟩
          try simp only [Act.put, List.setIfInBounds_toArray, List.set_cons_zero, List.set_cons_succ]
          refine wpAnyH_ready (rs := [8]) (by kernel_rfl) (by simp) ?_
          refine' AllReadyH.cons (o := _) ?e_24 ?st_24 AllReadyH.nil
          case e_24 => (simp only [List.getElem?_toArray, List.getElem?_cons_zero, List.getElem?_cons_succ]; exact rfl)
          intro K hK
          go_simp
          obtain ⟨⟨hu, hh1⟩, hh2⟩ := hHeld
          go_simp
          refine hK.out _ _ ⟨⟨_, World.cell?_setCell_same _ _ _ hh1⟩, by simpa using hh2⟩ (fun hHeld => ?_)
          clear hh1 hh2
          clear hK K
          try simp only [Act.put, List.setIfInBounds_toArray, List.set_cons_zero, List.set_cons_succ]
          refine wpAnyH_done (by kernel_rfl) ?_ _
          refine NoPanic.normal ?_
          clear hHeld hrh hcl hfz
          go_wp2
          go_roundw
          case rel => exact ⟨m + 1, by omega, by go_num, HP⟩
          case measure => simp [intOf]; omega
        · obtain rfl : m = 10 := by omega
          have hdm : decide (((10 : Nat) : Int) < 10) = false := by simp
          have HT3 : Hid (Tb w w1.heap.size ((k + 1) * 10) wr) := by
            have := HT2.out
            rw [show k * 10 + 10 = (k + 1) * 10 by omega] at this
            exact this
          go_wp2
          go_roundw
          case rel => exact ⟨k + 1, by omega, by go_num, HT3⟩
          case measure => simp [intOf]; omega
    · obtain rfl : k = 10 := by omega
      have hdk : decide (((10 : Nat) : Int) < 10) = false := by simp
      have ar : wr.rangeAt (w.heap.size + 1) 0 (ints (tabTo 100)) := HT1.out.b.rangeC
      have rt := HT1.out.r.thereC (n := 100) (by rw [tabB_size]; decide)
      have hbl := tabTo_len 100
      have HB := Lib.hid (below_cells (ints (tabTo 100)) wr w.heap.size 0 HT1.out.low (Nat.le_refl _))
      have K := loadVar100 (World.rangeAt_setCells_same wr w.heap.size 0 (ints (tabTo 100)) (by rw [show (ints (tabTo 100)).length = 100 by simp [ints, hbl]]; exact rt)) hbl
      clear HT1
      go_wp2_with (first | (refine wpList_load100 rfl _ rfl _ rfl _ ?_ hbl ?_; exact ar) | (refine wpList_store100 rfl _ _ rfl _ (tabTo 100) rfl rfl ?_ hbl ?_; exact rt))
      exact bodyPost_ret (v := aggI (tabTo 100)) (res_cell Tryz.results60 rfl K) rfl ⟨rfl, HB.out⟩
theorem chg_at {x y : Nat} (hx : x < 10) (hy : y < 10) : (ints (tabTo 100))[x * 10 + y]? = some (.int .i64 (frI (x : Int) (y : Int))) := by
  unfold ints
  rw [List.getElem?_map, tabTo_get (by omega), if_pos (by omega), show (x * 10 + y) / 10 = x by omega, show (x * 10 + y) % 10 = y by omega]
  rfl
def cgV (xs : List Int) : Value := .tuple #[.int .i64 (if testB xs then chL xs else 0), .bool (testB xs)]
theorem testB_len {xs : List Int} (h : testB xs = true) : xs.length ≤ 10 ∧ ∀ x ∈ xs, 0 ≤ x ∧ x ≤ 9 := by
  unfold testB at h; simp only [Bool.and_eq_true, decide_eq_true_eq] at h
  exact ⟨h.1, digits_all h.2⟩
end Go.Proofs.YtbobiiodbbcodaaGreatDoor
