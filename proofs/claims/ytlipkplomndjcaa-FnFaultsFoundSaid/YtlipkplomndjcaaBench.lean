/- Benches: nineteen ints by value; the walks of the small functions on them. -/
import Derived.Test.YtlipkplomndjcaaBox
import Derived.Test.YtlipkplomndjcaaRowsOf
import Derived.Test.YtlipkplomndjcaaToFaults
import Derived.Test.YtlipkplomndjcaaGroups
import Derived.Test.YtlipkplomndjcaaMem
namespace Go.Proofs.Ytlipkplomndjcaa
open Go.RowKit
set_option linter.unusedVariables false
set_option maxRecDepth 100000
/-- a value of so many ints -/
def aggI (b : List Int) : Value := .agg (ints b).toArray
def bg (b : List Int) (j : Nat) : Int := b.getD j 0
/-- the dark bars and the lit ones of a place -/
def bF (b : List Int) (k : Nat) : Int × Int := (bg b (6 + k), bg b (12 + k))
theorem ints_get {b : List Int} {j : Nat} (h : j < b.length) : (ints b).toArray[j]? = some (.int .i64 (bg b j)) := by
  simp [ints, h, bg]
/-- the cells of a Bench's box, behind whatever was made behind it -/
theorem bench_cell {w w1 : World} {b : List Int} {t : TypeId} (hb : Below (w.alloc (.cells (ints b).toArray t)).heap.size (w.alloc (.cells (ints b).toArray t)) w1) {j : Nat} (h : j < b.length) :
    w1.cell? ⟨w.heap.size, j, none⟩ = some (.int .i64 (bg b j)) := (box_after hb).1 j _ (ints_get h)
theorem bench_range {w w1 : World} {b : List Int} {t : TypeId} (hb : Below (w.alloc (.cells (ints b).toArray t)).heap.size (w.alloc (.cells (ints b).toArray t)) w1) :
    w1.rangeAt w.heap.size 0 (ints b) := fun j v h => by rw [Nat.zero_add]; exact (box_after hb).1 j v (by simpa using h)
theorem loadBench {w : World} {g : Nat} {b : List Int} (h : w.rangeAt g 0 (ints b)) (hb : b.length = 19) : (Instr.loadAt 67 (.pointer (some ⟨g, 0, none⟩))).run Try.prog w = .ok (.agg (ints b).toArray) w :=
  run_loadAt_mid w g 0 _ (ints b) _ h Try.underlying67 rfl (by rw [show (ints b).length = 19 by simp [ints, hb]]; kernel_rfl)
theorem wpList_loadB {ops : Array Oper} {rest : List Oper} {op : Oper} {a : Act} {w : World} {Q : Exit → Act → World → Prop} (hw : Region.wanted op (yielded ops a.tmps) = true) (x : Operand) (ho : op.op = .load 67 x)
    (g : Nat) (hx : a.eval x = .pointer (some ⟨g, 0, none⟩)) (b : List Int) (hc : w.rangeAt g 0 (ints b)) (hb : b.length = 19)
    (h : wpList Try.prog ops Q rest (a.put op.dst (.agg (ints b).toArray)) w) : wpList Try.prog ops Q (op :: rest) a w :=
  wpList_load_want hw _ x ho g 0 hx (ints b) _ hc Try.underlying67 rfl (by rw [show (ints b).length = 19 by simp [ints, hb]]; kernel_rfl) h
theorem wpList_load6 {ops : Array Oper} {rest : List Oper} {op : Oper} {a : Act} {w : World} {Q : Exit → Act → World → Prop} (hw : Region.wanted op (yielded ops a.tmps) = true) (x : Operand) (ho : op.op = .load 65 x)
    (g o : Nat) (hx : a.eval x = .pointer (some ⟨g, o, none⟩)) (b : List Int) (hc : w.rangeAt g o (ints b)) (hb : b.length = 6)
    (h : wpList Try.prog ops Q rest (a.put op.dst (.agg (ints b).toArray)) w) : wpList Try.prog ops Q (op :: rest) a w :=
  wpList_load_want hw _ x ho g o hx (ints b) _ hc Try.underlying65 rfl (by rw [show (ints b).length = 6 by simp [ints, hb]]; kernel_rfl) h
theorem ints_one {b : List Int} : ∀ v ∈ ints b, v.oneCell' = true := fun v hv => by
  simp only [ints, List.mem_map] at hv
  obtain ⟨x, _, rfl⟩ := hv
  rfl
theorem wpList_store6 {ops : Array Oper} {rest : List Oper} {op : Oper} {a : Act} {w : World} {Q : Exit → Act → World → Prop} (hw : Region.wanted op (yielded ops a.tmps) = true) (x y : Operand) (ho : op.op = .store 65 x y)
    (g o : Nat) (b : List Int) (hx : a.eval x = .pointer (some ⟨g, o, none⟩)) (hy : a.eval y = .agg (ints b).toArray) (ht : w.there g o 6) (hb : b.length = 6)
    (h : wpList Try.prog ops Q rest (a.put op.dst undef) (w.setCells g o (ints b))) : wpList Try.prog ops Q (op :: rest) a w :=
  wpList_store_want hw _ x y ho g o (ints b) hx hy (by rw [show (ints b).length = 6 by simp [ints, hb]]; exact ht) (by rw [show (ints b).length = 6 by simp [ints, hb]]; kernel_rfl) ints_one h
theorem wpList_storeB {ops : Array Oper} {rest : List Oper} {op : Oper} {a : Act} {w : World} {Q : Exit → Act → World → Prop} (hw : Region.wanted op (yielded ops a.tmps) = true) (x y : Operand) (ho : op.op = .store 67 x y)
    (g : Nat) (b : List Int) (hx : a.eval x = .pointer (some ⟨g, 0, none⟩)) (hy : a.eval y = .agg (ints b).toArray) (ht : w.there g 0 19) (hb : b.length = 19)
    (h : wpList Try.prog ops Q rest (a.put op.dst undef) (w.setCells g 0 (ints b))) : wpList Try.prog ops Q (op :: rest) a w :=
  wpList_store_want hw _ x y ho g 0 (ints b) hx hy (by rw [show (ints b).length = 19 by simp [ints, hb]]; exact ht) (by rw [show (ints b).length = 19 by simp [ints, hb]]; kernel_rfl) ints_one h
theorem loadVarB {w : World} {g : Nat} {b : List Int} (h : w.rangeAt g 0 (ints b)) (hb : b.length = 19) : (loadVar 67 ⟨g, 0, none⟩).run Try.prog w = .ok (aggI b) w :=
  run_loadVar_mid w g 0 _ (ints b) _ h Try.underlying67 rfl (by rw [show (ints b).length = 19 by simp [ints, hb]]; kernel_rfl)
def fsB (b : List Int) : List (Int × Int) := (List.range 6).map (bF b)
def goodAt (b : List Int) (k : Nat) : Bool := cellB (bg b k) && fB (bF b k)
def goodTo (b : List Int) (n : Nat) : Bool := (List.range n).all (goodAt b)
def goodB (b : List Int) : Bool := goodTo b 6 && inB (bg b 18) 0 1000
theorem goodTo_succ (b : List Int) (n : Nat) : goodTo b (n + 1) = (goodTo b n && goodAt b n) := by
  unfold goodTo; rw [List.range_succ, List.all_append]; simp
theorem goodTo_bad {b : List Int} {k n : Nat} (hk : k < n) (h : goodAt b k = false) : goodTo b n = false := by
  unfold goodTo
  rw [Bool.eq_false_iff]; intro h2
  rw [List.all_eq_true] at h2
  rw [h2 k (List.mem_range.2 hk)] at h; cases h
theorem take_range {b : List Int} {n : Nat} (h : n ≤ b.length) : b.take n = (List.range n).map (bg b) := by
  apply List.ext_getElem?
  intro i
  rw [List.getElem?_take, List.getElem?_map]
  by_cases hi : i < n
  · rw [if_pos hi, List.getElem?_range hi, List.getElem?_eq_getElem (by omega)]
    simp [bg, show i < b.length by omega]
  · rw [if_neg hi, List.getElem?_eq_none (by simp; omega)]; rfl
theorem goodB_eq {b : List Int} (hb : b.length = 19) : goodB b = ((rowB (b.take 6) && (fsB b).all fB) && inB (bg b 18) 0 1000) := by
  unfold goodB goodTo rowB fsB
  congr 1
  rw [take_range (by omega), decide_eq_true (by simp), Bool.true_and, List.all_map, List.all_map, Bool.eq_iff_iff]
  simp only [Bool.and_eq_true, List.all_eq_true, goodAt, Function.comp]
  exact ⟨fun h => ⟨fun x hx => (h x hx).1, fun x hx => (h x hx).2⟩, fun h x hx => ⟨h.1 x hx, h.2 x hx⟩⟩
theorem l12Fault_c (b : List Int) (k : Nat) (w : World) (hb : b.length = 19) (hk : k < 6) :
    Calls Try.prog 154 #[aggI b, .int .i64 (k : Int)] w fun e w' => e = .returned (.agg #[.int .i64 (bF b k).1, .int .i64 (bF b k).2]) ∧ Below w.heap.size w w' := by
  unfold aggI bF
  have g1 := bench_cell (w := w) (b := b) (t := 67) (below_one (.cells #[.int .i64 0, .int .i64 0] 42)) (j := 6 + k) (by omega)
  have g2 := bench_cell (w := w) (b := b) (t := 67) (below_one (.cells #[.int .i64 0, .int .i64 0] 42)) (j := 12 + k) (by omega)
  go_enter Try.func154, Try.ntmps154
  go_wp2
  go_region
  go_wp2
  exact bodyPost_ret (v := .agg #[.int .i64 (bg b (6 + k)), .int .i64 (bg b (12 + k))]) (by simp [results, Try.results154, go_sem]) rfl ⟨rfl, by (repeat (first | exact Below.refl _ _ | exact (Below.refl _ _).drew | assumption | exact below_one _ | refine Below.chain ?_ (by assumption) | refine Below.drew ?_ | refine Below.alc ?_ _ | refine below_drewN ?_ | (refine Below.setCell ?_ ?_ _) | exact Nat.le_refl _ | (simp; done) | (simp; omega)))⟩
theorem bfault_c (b : List Int) (k : Nat) (w : World) (hb : b.length = 19) (hk : k < 6) :
    Calls Try.prog 152 #[aggI b, .int .i64 (k : Int)] w fun e w' => e = .returned (.agg #[.int .i64 (bF b k).1, .int .i64 (bF b k).2]) ∧ Below w.heap.size w w' := by
  unfold aggI bF
  have g1 := bench_cell (w := w) (b := b) (t := 67) (below_one (.cells #[.int .i64 0, .int .i64 0] 42)) (j := 6 + k) (by omega)
  have g2 := bench_cell (w := w) (b := b) (t := 67) (below_one (.cells #[.int .i64 0, .int .i64 0] 42)) (j := 12 + k) (by omega)
  go_enter Try.func152, Try.ntmps152
  go_wp2
  go_region
  go_wp2
  exact bodyPost_ret (v := .agg #[.int .i64 (bg b (6 + k)), .int .i64 (bg b (12 + k))]) (by simp [results, Try.results152, go_sem]) rfl ⟨rfl, by (repeat (first | exact Below.refl _ _ | exact (Below.refl _ _).drew | assumption | exact below_one _ | refine Below.chain ?_ (by assumption) | refine Below.drew ?_ | refine Below.alc ?_ _ | refine below_drewN ?_ | (refine Below.setCell ?_ ?_ _) | exact Nat.le_refl _ | (simp; done) | (simp; omega)))⟩
theorem l12Good_c (b : List Int) (w : World) (hb : b.length = 19) :
    Calls Try.prog 121 #[aggI b] w fun e w' => e = .returned (.bool (goodB b)) ∧ Below w.heap.size w w' := by
  unfold aggI
  have HW : Hid (∀ wr, Below (w.alloc (.cells (ints b).toArray 67)).heap.size (w.alloc (.cells (ints b).toArray 67)) wr → Below w.heap.size w wr) := fun wr h => Below.chain (below_one _) h
  go_enter Try.func121, Try.ntmps121
  go_wp2
  generalize hwb : w.alloc (.cells (ints b).toArray 67) = wb at *
  go_loopw [3] (fun j wr => ∃ k : Nat, k ≤ 6 ∧ j = .int .i64 (k : Int) ∧ goodTo b k = true ∧ Below wb.heap.size wb wr) (fun j _ => 7 - (intOf j).toNat)
  case atStart => exact ⟨0, by omega, rfl, rfl, Below.refl _ _⟩
  case round =>
    obtain ⟨k, hk, rfl, hgt, hbw⟩ := hrel
    have hbr := hbw
    subst hwb
    by_cases hlt : k < 6
    · have hd : decide ((k : Int) < 6) = true := by simp; omega
      have g0 := bench_cell hbw (j := k) (by omega)
      have HS := Lib.hid (goodTo_succ b k)
      have HB := Lib.hid (fun h => goodTo_bad (b := b) (n := 6) hlt h)
      go_wp2_with fail
      refine (l2Cell_c _ _).mono ?_
      rintro e w2 ⟨rfl, rfl⟩
      rcases hq : cellB (bg b k) with _ | _
      · have hF : goodB b = false := by unfold goodB; rw [HB.out (by unfold goodAt; rw [hq]; rfl)]; rfl
        have HF := Lib.hid hF; clear hF
        go_wp2
        go_ret
        exact ⟨by rw [HF.out]; rfl, HW.out _ hbr⟩
      · have hr := bench_range hbw
        go_wp2_with (refine wpList_loadB rfl _ rfl _ rfl b hr hb ?_)
        refine (l12Fault_c b k _ hb hlt).mono ?_
        rintro e w3 ⟨rfl, hb3⟩
        have hb4 := Below.chain hbr hb3
        clear hb3 hbr hr g0
        go_wp2_with fail
        refine (l3Fault_c _ _ _).mono ?_
        rintro e w4 ⟨rfl, hb5⟩
        have hb6 := Below.chain hb4 hb5
        clear hb4 hb5
        rcases hq2 : faultB (bF b k).1 (bF b k).2 with _ | _
        · have hF : goodB b = false := by unfold goodB; rw [HB.out (by unfold goodAt fB; rw [hq2, Bool.and_false])]; rfl
          have HF := Lib.hid hF; clear hF
          go_wp2
          go_ret
          exact ⟨by rw [HF.out]; rfl, HW.out _ hb6⟩
        · have hF : goodTo b (k + 1) = true := by rw [HS.out, hgt]; unfold goodAt fB; rw [hq, hq2]; rfl
          have HF := Lib.hid hF; clear hF
          go_wp2
          go_roundw
          case rel => exact ⟨k + 1, by omega, by go_num, HF.out, hb6⟩
          case measure => simp [intOf]; omega
    · obtain rfl : k = 6 := by omega
      have g0 := bench_cell hbw (j := 18) (by omega)
      have hF : goodB b = inB (bg b 18) 0 1000 := by unfold goodB; rw [hgt]; rfl
      have HF := Lib.hid hF; clear hF
      go_wp2_with fail
      refine (l1In_c _ _ _ _).mono ?_
      rintro e w2 ⟨rfl, rfl⟩
      go_wp2
      go_ret
      exact ⟨by rw [HF.out]; rfl, HW.out _ hbr⟩
def fsTo (b : List Int) (n : Nat) : List (Int × Int) := (List.range n).map (bF b)
theorem fsTo_succ (b : List Int) (n : Nat) : fsTo b (n + 1) = fsTo b n ++ [bF b n] := by unfold fsTo; rw [List.range_succ, List.map_append]; rfl
theorem fsTo_len (b : List Int) (n : Nat) : (fsTo b n).length = n := by simp [fsTo]
theorem faults_c (b : List Int) (w : World) (hb : b.length = 19) :
    Calls Try.prog 127 #[aggI b] w fun e w' => ∃ u, e = .returned u ∧ w'.ownsRow w.heap.size 42 2 u 6 (flat2 (fsB b)) ∧ Below w.heap.size w w' := by
  unfold aggI
  obtain ⟨i, hi, hz0, hz1, hz2⟩ := info_parts info_Fault
  have HW : Hid (∀ wr, Below (w.alloc (.cells (ints b).toArray 67)).heap.size (w.alloc (.cells (ints b).toArray 67)) wr → Below w.heap.size w wr) := fun wr h => Below.chain (below_one _) h
  go_enter Try.func127, Try.ntmps127
  go_wp2
  generalize hwb : w.alloc (.cells (ints b).toArray 67) = wb at *
  have hwz : w.heap.size + 1 = wb.heap.size := by rw [← hwb]; simp
  go_loopw [3, 5] (fun o j wr => ∃ k : Nat, k ≤ 6 ∧ j = .int .i64 (k : Int) ∧ wr.ownsRow wb.heap.size 42 2 o k (flat2 (fsTo b k)) ∧ Below wb.heap.size wb wr) (fun _ j _ => 7 - (intOf j).toNat)
  case atStart => exact ⟨0, by omega, rfl, World.ownsRow_nil _ _ _ _, Below.refl _ _⟩
  case round =>
    obtain ⟨k, hk, rfl, ho, hbw⟩ := hrel
    by_cases hlt : k < 6
    · have hd : decide ((k : Int) < 6) = true := by simp; omega
      have hr : wr.rangeAt w.heap.size 0 (ints b) := by subst hwb; exact bench_range hbw
      obtain ⟨f1, f2, hf⟩ : ∃ f1 f2, bF b k = (f1, f2) := ⟨_, _, rfl⟩
      have hs := fsTo_succ b k
      rw [hf] at hs
      have HS := Lib.hid hs; have HF := Lib.hid hf; clear hs hf
      go_wp2_with (refine wpList_loadB rfl _ rfl _ rfl b hr hb ?_)
      refine (bfault_c b k _ hb hlt).mono ?_
      rintro e w3 ⟨he, hb3⟩
      rw [HF.out] at he
      subst he
      have hb4 := Below.chain hbw hb3
      have ho4 := own_keep ho hb3
      clear hb3 hbw hr ho HF
      go_wp2_with (at_builtin; refine wpList_append_own_at _ rfl _ _ 27 rfl wb.heap.size 42 i (.agg #[.int .i64 0, .int .i64 0]) 2 16 Try.underlying27 hi hz0 hz1 hz2 rfl (by decide) _ k (flat2 (fsTo b k)) rfl (ho4.alloc _) ⟨w3.heap.size, 0, none⟩ 1 1 [.int .i64 f1, .int .i64 f2] rfl rfl (news_new _ [.int .i64 f1, .int .i64 f2] _) (by simp [Value.oneCell']) (by unfold maxLen; omega) (by omega) (by have := hb4.size; simp; omega) ?_)
      intro v' w4 ho5 hg5 _ _
      have hb7 : Below wb.heap.size wb w4 := (Below.alc hb4 _).grown hg5 (by have := hb4.size; simp; omega) (fun g hg => (ho4.lt g hg).1)
      clear ho4 hb4 hg5
      go_wp2
      go_roundw
      case rel => exact ⟨k + 1, by omega, by go_num, by rw [HS.out]; exact ownsRow_cast ho5 rfl (flat2_snoc _ _ _).symm, hb7⟩
      case measure => simp [intOf]; omega
    · obtain rfl : k = 6 := by omega
      go_wp2
      go_ret
      exact ⟨_, rfl, own_lo ho (by omega), HW.out _ hbw⟩
theorem ints_box {w w1 : World} {b : List Int} {t : TypeId} (hb : Below (w.alloc (.cells (ints b).toArray t)).heap.size (w.alloc (.cells (ints b).toArray t)) w1) {n : Nat} (h : n ≤ b.length) (hm : b.length ≤ 1000) (c : Nat) (hc : n ≤ c) (hcm : c ≤ 1000) :
    Ints w1 (.slice (some ⟨w.heap.size, 0, none⟩) n c) (b.take n) := by
  have hl : (b.take n).length = n := by rw [List.length_take]; omega
  refine ⟨_, _, by rw [hl], by rw [hl]; exact hc, by unfold maxLen; omega, by simp, fun _ => ⟨_, _, rfl, fun j hj => ?_⟩⟩
  rw [hl] at hj
  rw [Nat.zero_add, bench_cell hb (by omega), List.getElem?_map, List.getElem?_take, if_pos (by omega), List.getElem?_eq_getElem (by omega)]
  simp [bg, show j < b.length by omega]
theorem IsBench_c (b : List Int) (w : World) (hb : b.length = 19) :
    Calls Try.prog 66 #[aggI b] w fun e w' => e = .returned (.bool (goodB b)) ∧ Below w.heap.size w w' := by
  unfold aggI
  have hcl : CallsIt 32 := fun bs w => by kernel_rfl
  have HW : Hid (∀ wr, Below (w.alloc (.cells (ints b).toArray 67)).heap.size (w.alloc (.cells (ints b).toArray 67)) wr → Below w.heap.size w wr) := fun wr h => Below.chain (below_one _) h
  have hI := ints_box (w := w) (b := b) (t := 67) (Below.refl _ _) (n := 6) (by omega) (by omega) 6 (by omega) (by omega)
  have HG := Lib.hid (goodB_eq hb)
  go_enter Try.func66, Try.ntmps66
  go_wp2_with fail
  refine (IsRow_c _ _ _ hI).mono ?_
  rintro e w2 ⟨rfl, hb2⟩
  have hr := bench_range hb2
  have g18 := bench_cell hb2 (j := 18) (by omega)
  rcases hq : rowB (b.take 6) with _ | _
  · have HF := Lib.hid (show goodB b = false by rw [HG.out, hq]; rfl)
    clear HG hI
    go_wp2
    go_ret
    exact ⟨by rw [HF.out]; rfl, HW.out _ hb2⟩
  · go_wp2_with (refine wpList_loadB rfl _ rfl _ rfl b hr hb ?_)
    refine (faults_c b _ hb).mono ?_
    rintro e w3 ⟨u, rfl, ho, hb3⟩
    have hb4 := Below.chain hb2 hb3
    have g18' := bench_cell hb4 (j := 18) (by omega)
    clear g18 hb2 hb3 hr hI
    have hP : Pairs w3 u (fsB b) := Pairs.of_own ho
    clear ho
    go_wp2_with fail
    refine (areAllFault_c _ (fsB b) 32 fB _ hP hcl (fun x w' => IsFault_c x.1 x.2 w')).mono ?_
    rintro e w4 ⟨rfl, hb5⟩
    have hb6 := Below.chain hb4 hb5
    have g18 := bench_cell hb6 (j := 18) (by omega)
    clear g18' hb4 hb5 hP
    rcases hq2 : (fsB b).all fB with _ | _
    · have HF := Lib.hid (show goodB b = false by rw [HG.out, hq, hq2]; rfl)
      clear HG
      go_wp2
      go_ret
      exact ⟨by rw [HF.out]; rfl, HW.out _ hb6⟩
    · have HF := Lib.hid (show goodB b = inB (bg b 18) 0 1000 by rw [HG.out, hq, hq2]; rfl)
      clear HG
      go_wp2_with fail
      refine (within_c _ _ _ _).mono ?_
      rintro e w5 ⟨rfl, rfl⟩
      go_wp2
      go_ret
      exact ⟨by rw [HF.out]; rfl, HW.out _ hb6⟩
end Go.Proofs.Ytlipkplomndjcaa
