/- Walks of CountHarmless, both texts. -/
import Derived.Test.YtlipkplomndjcaaAllFaults
import Derived.Test.YtlipkplomndjcaaGroups
import Derived.Test.YtlipkplomndjcaaOnes
namespace Go.Proofs.Ytlipkplomndjcaa
open Go.RowKit
set_option linter.unusedVariables false
set_option maxRecDepth 100000
def harmB (f : Int × Int) : Bool := decide ((grpL f.1 f.2).length = 10)
def qH (size : Int) (f : Int × Int) : Bool := (cnt f.1 + cnt f.2 == size) && harmB f
def orC (d l : Int) : Int := ((d.toNat ||| l.toNat : Nat) : Int)
theorem orC_i64 {d l : Int} (d0 : 0 ≤ d) (d1 : d ≤ 127) (l0 : 0 ≤ l) (l1 : l ≤ 127) : bits .or .i64 d l = orC d l ∧ 0 ≤ orC d l ∧ orC d l ≤ 127 := by
  obtain ⟨d, rfl⟩ := Int.eq_ofNat_of_zero_le d0
  obtain ⟨l, rfl⟩ := Int.eq_ofNat_of_zero_le l0
  have h : d ||| l < 2 ^ 7 := Nat.or_lt_two_pow (by omega) (by omega)
  refine ⟨i64_or_nat d l (by omega) (by omega), ?_, ?_⟩ <;> simp only [orC, Int.toNat_natCast] <;> omega
theorem cnt_or_all : ∀ d l : Fin 128, (d.1 &&& l.1 == 0) = true → cnt (((d.1 ||| l.1 : Nat)) : Int) = cnt (d.1 : Int) + cnt (l.1 : Int) := by decide +kernel
theorem mem_allF {q : Int × Int → Bool} {f : Int × Int} (h : f ∈ allF q) : ∃ d l : Nat, f = ((d : Int), (l : Int)) ∧ d < 128 ∧ l < 128 ∧ freeB d l = true ∧ q f = true := by
  unfold allF colF rowF at h
  simp only [List.mem_flatMap, List.mem_range, List.mem_map, List.mem_filter, Bool.and_eq_true] at h
  obtain ⟨d, hd, l, ⟨hl, hf, hq⟩, rfl⟩ := h
  exact ⟨d, l, rfl, hd, hl, hf, hq⟩
theorem allF_filter (q : Int × Int → Bool) : allF q = (allF fun _ => true).filter q := by
  unfold allF colF
  rw [List.filter_flatMap]
  congr 1; funext d
  unfold rowF
  rw [List.filter_map, List.filter_filter]
  congr 1
  apply List.filter_congr
  intro l _
  simp [Function.comp]
  cases freeB d l <;> cases q ((d : Int), (l : Int)) <;> rfl
def chOk (size : Int) : Bool := inB size 0 7
def chN (size : Int) : Int := if chOk size then ((allF (qH size)).length : Int) else 0
def chV (size : Int) : Value := .tuple #[.int .i64 (chN size), .bool (chOk size)]
def hTo (size : Int) (k : Nat) : Nat := (((allF fun _ => true).take k).filter (qH size)).length
theorem hTo_succ {size : Int} {k : Nat} {f : Int × Int} (h : (allF fun _ => true)[k]? = some f) : hTo size (k + 1) = hTo size k + if qH size f then 1 else 0 := by
  unfold hTo
  rw [take_snoc h, List.filter_append, List.length_append]
  cases hq : qH size f <;> simp [hq]
theorem hTo_le (size : Int) (k : Nat) : hTo size k ≤ 16384 :=
  Nat.le_trans (List.length_filter_le _ _) (Nat.le_trans (List.length_take_le' _ _) (allF_le _))
theorem hTo_all (size : Int) : hTo size (allF fun _ => true).length = (allF (qH size)).length := by
  unfold hTo; rw [List.take_length, ← allF_filter]
theorem CountHarmless_c (size : Int) (w : World) : Calls Try.prog 49 #[.int .i64 size] w fun e w' => e = .returned (chV size) ∧ Below w.heap.size w w' := by
  rcases hc : chOk size with _ | _
  · have HF := Lib.hid (show chV size = .tuple #[.int .i64 0, .bool false] by simp [chV, chN, hc])
    have HC := Lib.hid (show inB size 0 7 = false from hc); clear hc
    go_enter Try.func49, Try.ntmps49
    go_wp2_with fail
    refine (within_c size 0 7 _).mono ?_
    rintro e w1 ⟨rfl, rfl⟩
    rw [HC.out]
    go_wp2
    go_ret2
    exact ⟨by rw [HF.out]; rfl, Below.refl _ _⟩
  · have HF := Lib.hid (show chV size = .tuple #[.int .i64 (hTo size (allF fun _ => true).length : Nat), .bool true] by simp [chV, chN, hc, hTo_all])
    have HC := Lib.hid (show inB size 0 7 = true from hc); clear hc
    have hN := allF_le fun _ => true
    go_enter Try.func49, Try.ntmps49
    go_wp2_with fail
    refine (within_c size 0 7 _).mono ?_
    rintro e w1 ⟨rfl, rfl⟩
    rw [HC.out]
    go_wp2_with fail
    refine (allFaults_c _).mono ?_
    rintro e w1 ⟨u, rfl, ho, hb1⟩
    obtain ⟨a, c, rfl, _, _, HA⟩ := (Pairs.of_own ho).parts
    clear ho
    generalize hps : (allF fun _ => true) = ps at *
    go_wp2
    go_loopw [4, 6, 12] (fun m _ j wr => ∃ k : Nat, k ≤ ps.length ∧ j = .int .i64 (k : Int) ∧ m = .int .i64 (hTo size k : Nat) ∧ Below w.heap.size w wr ∧ Below w1.heap.size w1 wr) (fun _ _ j _ => ps.length - (intOf j).toNat)
    case atStart => exact ⟨0, by omega, rfl, rfl, hb1, Below.refl _ _⟩
    case round =>
      obtain ⟨k, hk, rfl, rfl, hb, hbb⟩ := hrel
      clear hb1
      by_cases hlt : k < ps.length
      · have hd : decide ((k : Int) < (ps.length : Int)) = true := by simp; omega
        obtain ⟨f, hf⟩ := elem_at hlt
        obtain ⟨b, off, rfl, f0, f1⟩ := HA.out k _ hf.out
        have g0 := cell_later hbb f0
        have g1 := cell_later hbb f1
        obtain ⟨d, l, rfl, hd1, hl1, hfree, _⟩ := mem_allF (q := fun _ => true) (by rw [hps]; exact List.mem_of_getElem? hf.out)
        have hor := orC_i64 (d := (d : Int)) (l := (l : Int)) (by omega) (by omega) (by omega) (by omega)
        have hco := cnt_or_all ⟨d, hd1⟩ ⟨l, hl1⟩ hfree
        have hco2 : cnt (orC (d : Int) (l : Int)) = cnt (d : Int) + cnt (l : Int) := hco
        have hS := hTo_succ (size := size) (k := k) (f := ((d : Int), (l : Int))) (by rw [hps]; exact hf.out)
        have hle := hTo_le size k
        generalize hTo size k = m at *
        have HS := Lib.hid hS; have HO := Lib.hid hor.1; have HC2 := Lib.hid hco2
        clear hS f0 f1 hco hco2
        simp only at g0 g1
        go_wp2_with fail
        refine (count_c _ hor.2.1 hor.2.2 _).mono ?_
        rintro e w2 ⟨rfl, rfl⟩
        have hp0 : 0 ≤ (d : Int) ∧ (d : Int) ≤ 127 ∧ 0 ≤ (l : Int) ∧ (l : Int) ≤ 127 := by omega
        rcases hq1 : (cnt (orC (d : Int) (l : Int)) == size) with _ | _
        · have hq : qH size ((d : Int), (l : Int)) = false := by unfold qH; rw [← HC2.out, hq1]; rfl
          have HS2 := Lib.hid (show hTo size (k + 1) = m by rw [HS.out, hq]; rfl)
          clear hq HS HO HC2 hor
          go_wp2
          go_roundw
          case rel => exact ⟨k + 1, by omega, by go_num, by rw [HS2.out], by (repeat (first | exact Below.refl _ _ | exact (Below.refl _ _).drew | assumption | exact below_one _ | refine Below.chain ?_ (by assumption) | refine Below.drew ?_ | refine Below.alc ?_ _ | refine below_drewN ?_ | (refine Below.setCell ?_ ?_ _) | exact Nat.le_refl _ | (simp; done) | (simp; omega))), by (repeat (first | exact Below.refl _ _ | exact (Below.refl _ _).drew | assumption | exact below_one _ | refine Below.chain ?_ (by assumption) | refine Below.drew ?_ | refine Below.alc ?_ _ | refine below_drewN ?_ | (refine Below.setCell ?_ ?_ _) | exact Nat.le_refl _ | (simp; done) | (simp; omega)))⟩
          case measure => simp [intOf]; omega
        · go_wp2_with fail
          refine (isHarmless_c (d : Int) (l : Int) _ hp0.1 hp0.2.1 hp0.2.2.1 hp0.2.2.2).mono ?_
          rintro e w3 ⟨rfl, hb3⟩
          have hb4 : Below w.heap.size w w3 := Below.chain (Below.alc hb _) hb3
          have hb5 : Below w1.heap.size w1 w3 := Below.chain (Below.alc hbb _) hb3
          rcases hq2 : decide ((grpL (d : Int) (l : Int)).length = 10) with _ | _
          · have hq : qH size ((d : Int), (l : Int)) = false := by unfold qH harmB; rw [hq2, Bool.and_false]
            have HS2 := Lib.hid (show hTo size (k + 1) = m by rw [HS.out, hq]; rfl)
            have HQ := Lib.hid hq2
            clear hq HS HO HC2 hor hb hbb hb3 hq2
            go_wp2
            go_roundw
            case rel => exact ⟨k + 1, by omega, by go_num, by rw [HS2.out], hb4, hb5⟩
            case measure => simp [intOf]; omega
          · have hq : qH size ((d : Int), (l : Int)) = true := by unfold qH harmB; rw [← HC2.out, hq1, hq2]; rfl
            have HS2 := Lib.hid (show hTo size (k + 1) = m + 1 by rw [HS.out, hq]; rfl)
            have HQ := Lib.hid hq2
            clear hq HS HO HC2 hor hb hbb hb3 hq2
            go_wp2
            go_roundw
            case rel => exact ⟨k + 1, by omega, by go_num, by rw [HS2.out]; exact int_val (by omega), hb4, hb5⟩
            case measure => simp [intOf]; omega
      · obtain rfl : k = ps.length := by omega
        go_wp2
        go_ret2
        exact ⟨by rw [HF.out]; rfl, hb⟩
theorem l3Size_c (d l : Int) (w : World) (d0 : 0 ≤ d) (d1 : d ≤ 127) (l0 : 0 ≤ l) (l1 : l ≤ 127) : Calls Try.prog 113 #[.agg #[.int .i64 d, .int .i64 l]] w fun e w' => e = .returned (.int .i64 (cnt d + cnt l)) ∧ Below w.heap.size w w' := by
  have b1 : 0 ≤ cnt d ∧ cnt d ≤ 7 := by
    obtain ⟨n, rfl⟩ := Int.eq_ofNat_of_zero_le d0
    have := onesF_all ⟨n, by omega⟩; exact ⟨this.2.1, this.2.2.1⟩
  have b2 : 0 ≤ cnt l ∧ cnt l ≤ 7 := by
    obtain ⟨n, rfl⟩ := Int.eq_ofNat_of_zero_le l0
    have := onesF_all ⟨n, by omega⟩; exact ⟨this.2.1, this.2.2.1⟩
  have hs : IntKind.i64.wrap (cnt d + cnt l) = cnt d + cnt l := IntWalk.i64_in _ (by omega)
  go_enter Try.func113, Try.ntmps113
  go_wp2_with fail
  go_quiet ((first | (go_at_call_of 151 (Value.int .i64 d); exact Calls.quiet_of_same ((l2Count_c d d0 d1 _).mono fun _ _ h => ⟨h.1, h.2.symm⟩)) | (go_at_call_of 151 (Value.int .i64 l); exact Calls.quiet_of_same ((l2Count_c l l0 l1 _).mono fun _ _ h => ⟨h.1, h.2.symm⟩))))
  go_wp2
  go_ret
  exact ⟨int_ret (by simp), by (repeat (first | exact Below.refl _ _ | exact (Below.refl _ _).drew | assumption | exact below_one _ | refine Below.chain ?_ (by assumption) | refine Below.drew ?_ | refine Below.alc ?_ _ | refine below_drewN ?_ | (refine Below.setCell ?_ ?_ _) | exact Nat.le_refl _ | (simp; done) | (simp; omega)))⟩
theorem fault_free {d l : Nat} (hd : d < 128) (hl : l < 128) : faultB (d : Int) (l : Int) = freeB d l := by
  unfold faultB cellB
  rw [inB_mk (by omega) (by omega), inB_mk (by omega) (by omega)]
  unfold andC freeB
  rw [Bool.eq_iff_iff]; simp
theorem sCountHarmless_c (size : Int) (w : World) : Calls Try.prog 50 #[.int .i64 size] w fun e w' => e = .returned (chV size) ∧ Below w.heap.size w w' := by
  rcases hc : chOk size with _ | _
  · have HF := Lib.hid (show chV size = .tuple #[.int .i64 0, .bool false] by simp [chV, chN, hc])
    have HC := Lib.hid (show inB size 0 7 = false from hc); clear hc
    go_enter Try.func50, Try.ntmps50
    go_wp2_with fail
    refine (l1In_c size 0 7 _).mono ?_
    rintro e w1 ⟨rfl, rfl⟩
    rw [HC.out]
    go_wp2
    go_ret2
    exact ⟨by rw [HF.out]; rfl, Below.refl _ _⟩
  · have HF := Lib.hid (show chV size = .tuple #[.int .i64 ((colF (qH size) 128).length : Nat), .bool true] by simp [chV, chN, hc, allF])
    have HC := Lib.hid (show inB size 0 7 = true from hc); clear hc
    go_enter Try.func50, Try.ntmps50
    go_wp2_with fail
    refine (l1In_c size 0 7 _).mono ?_
    rintro e w1 ⟨rfl, rfl⟩
    rw [HC.out]
    go_wp2
    go_loopw [4, 5, 6, 7] (fun m j _ _ wr => ∃ d : Nat, d ≤ 128 ∧ j = .int .i64 (d : Int) ∧ m = .int .i64 ((colF (qH size) d).length : Nat) ∧ Below w.heap.size w wr) (fun _ j _ _ _ => 129 - (intOf j).toNat)
    case atStart => exact ⟨0, by omega, rfl, rfl, Below.refl _ _⟩
    case round =>
      obtain ⟨d, hd, rfl, rfl, hb⟩ := hrel
      by_cases hlt : d < 128
      · have hdd : decide ((d : Int) < 128) = true := by simp; omega
        rw [← faultsTo_zero]
        go_wp2
        go_loopw [4, 6, 7] (fun m j _ wr => ∃ n : Nat, n ≤ 128 ∧ j = .int .i64 (n : Int) ∧ m = .int .i64 ((faultsTo (qH size) d n).length : Nat) ∧ Below w.heap.size w wr) (fun _ j _ _ => 129 - (intOf j).toNat)
        case atStart => exact ⟨0, by omega, rfl, rfl, hb⟩
        case round =>
          obtain ⟨n, hn, rfl, rfl, hb2⟩ := hrel
          clear hb
          by_cases hlt2 : n < 128
          · have hdn : decide ((n : Int) < 128) = true := by simp; omega
            have hff := fault_free hlt hlt2
            have hsc := faultsTo_succ (qH size) d n
            have hle := faultsTo_le (qH size) (d := d) (n := n) (by omega) (by omega)
            have hp0 : 0 ≤ (d : Int) ∧ (d : Int) ≤ 127 ∧ 0 ≤ (n : Int) ∧ (n : Int) ≤ 127 := by omega
            have hS : (faultsTo (qH size) d (n + 1)).length = (faultsTo (qH size) d n).length + if freeB d n && qH size ((d : Int), (n : Int)) then 1 else 0 := by
              rw [hsc, List.length_append]; cases (freeB d n && qH size ((d : Int), (n : Int))) <;> simp
            generalize (faultsTo (qH size) d n).length = m at *
            have HS := Lib.hid hS; have HFF := Lib.hid hff; clear hsc hS hff
            go_wp2_with fail
            refine (l3Fault_c (d : Int) (n : Int) _).mono ?_
            rintro e w2 ⟨rfl, hb3⟩
            rw [HFF.out]
            have q0 : w2.cell? ⟨wr.heap.size, 0, none⟩ = some (.int .i64 d) := by rw [(bcell hb3).1 _ _ (by simp), World.cell?_alloc_at _ _ _ _ rfl]; rfl
            have q1 : w2.cell? ⟨wr.heap.size, 1, none⟩ = some (.int .i64 n) := by rw [(bcell hb3).1 _ _ (by simp), World.cell?_alloc_at _ _ _ _ rfl]; rfl
            have hb4 : Below w.heap.size w w2 := Below.chain (Below.alc hb2 _) hb3
            clear hb2 hb3
            rcases hq0 : freeB d n with _ | _
            · have HS2 := Lib.hid (show (faultsTo (qH size) d (n + 1)).length = m by rw [HS.out, hq0]; rfl)
              have HQ := Lib.hid hq0
              clear HS hq0
              go_wp2
              go_roundw
              case rel => exact ⟨n + 1, by omega, by go_num, by rw [HS2.out], hb4⟩
              case measure => simp [intOf]; omega
            · have HQ := Lib.hid hq0
              clear hq0
              go_wp2_with fail
              refine (l3Size_c (d : Int) (n : Int) _ hp0.1 hp0.2.1 hp0.2.2.1 hp0.2.2.2).mono ?_
              rintro e w3 ⟨rfl, hb5⟩
              have q02 := cell_later hb5 q0
              have q12 := cell_later hb5 q1
              have hb6 := Below.chain hb4 hb5
              clear hb4 hb5 q0 q1
              rcases hq1 : (cnt (d : Int) + cnt (n : Int) == size) with _ | _
              · have hq : qH size ((d : Int), (n : Int)) = false := by unfold qH; rw [hq1]; rfl
                have HS2 := Lib.hid (show (faultsTo (qH size) d (n + 1)).length = m by rw [HS.out, hq, Bool.and_false]; rfl)
                clear HS hq
                go_wp2
                go_roundw
                case rel => exact ⟨n + 1, by omega, by go_num, by rw [HS2.out], hb6⟩
                case measure => simp [intOf]; omega
              · go_wp2_with fail
                refine (l3Groups_c (d : Int) (n : Int) _ hp0.1 hp0.2.1 hp0.2.2.1 hp0.2.2.2).mono ?_
                rintro e w4 ⟨u, rfl, ⟨vs, hov, _⟩, hb7⟩
                obtain ⟨a, c, rfl, _⟩ := (Sl.of_own hov).slice
                have hb8 := Below.chain hb6 hb7
                clear hb6 hb7 q02 q12 hov
                rcases hq2 : (((grpL (d : Int) (n : Int)).length : Int) == 10) with _ | _
                · have hg : harmB ((d : Int), (n : Int)) = false := by unfold harmB; simp at hq2 ⊢; omega
                  have hq : qH size ((d : Int), (n : Int)) = false := by unfold qH; rw [hg, Bool.and_false]
                  have HS2 := Lib.hid (show (faultsTo (qH size) d (n + 1)).length = m by rw [HS.out, hq, Bool.and_false]; rfl)
                  clear HS hq hg
                  go_wp2
                  go_roundw
                  case rel => exact ⟨n + 1, by omega, by go_num, by rw [HS2.out], hb8⟩
                  case measure => simp [intOf]; omega
                · have hg : harmB ((d : Int), (n : Int)) = true := by unfold harmB; simp at hq2 ⊢; omega
                  have hq : qH size ((d : Int), (n : Int)) = true := by unfold qH; rw [hg, hq1]; rfl
                  have HS2 := Lib.hid (show (faultsTo (qH size) d (n + 1)).length = m + 1 by rw [HS.out, hq, HQ.out]; rfl)
                  clear HS hq hg
                  go_wp2
                  go_roundw
                  case rel => exact ⟨n + 1, by omega, by go_num, by rw [HS2.out]; exact int_val (by omega), hb8⟩
                  case measure => simp [intOf]; omega
          · obtain rfl : n = 128 := by omega
            rw [faultsTo_full]
            go_wp2
            go_roundw
            case rel => exact ⟨d + 1, by omega, by go_num, rfl, hb2⟩
            case measure => simp [intOf]; omega
      · obtain rfl : d = 128 := by omega
        go_wp2
        go_ret2
        exact ⟨by rw [HF.out]; rfl, hb⟩
end Go.Proofs.Ytlipkplomndjcaa
