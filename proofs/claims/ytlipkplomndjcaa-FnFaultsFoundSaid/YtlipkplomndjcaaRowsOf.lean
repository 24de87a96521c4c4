/- Walks of the functions that tell whether a list is a row, and whether there is a Fault for each of its cells. -/
import Derived.Test.YtlipkplomndjcaaAllFault
namespace Go.Proofs.Ytlipkplomndjcaa
open Go.RowKit
set_option linter.unusedVariables false
def rowB (xs : List Int) : Bool := decide (xs.length ≤ 6) && xs.all cellB
theorem rowB_le {xs : List Int} (h : rowB xs = true) : xs.length ≤ 6 := by simp [rowB] at h; exact h.1
theorem rowB_cell {xs : List Int} (h : rowB xs = true) {k : Nat} {x : Int} (hx : xs[k]? = some x) : 0 ≤ x ∧ x ≤ 127 := by
  simp only [rowB, Bool.and_eq_true, List.all_eq_true] at h
  exact cellB_true (h.2 x (List.mem_of_getElem? hx))
def fB (f : Int × Int) : Bool := faultB f.1 f.2
def areB (fs : List (Int × Int)) (r : List Int) : Bool := rowB r && (decide (fs.length = r.length) && fs.all fB)
theorem areB_fault {fs : List (Int × Int)} {r : List Int} (h : areB fs r = true) {k : Nat} {f : Int × Int} (hf : fs[k]? = some f) : 0 ≤ f.1 ∧ f.1 ≤ 127 ∧ 0 ≤ f.2 ∧ f.2 ≤ 127 := by
  simp only [areB, Bool.and_eq_true, List.all_eq_true] at h
  have := faultB_true (h.2.2 f (List.mem_of_getElem? hf))
  exact ⟨this.1, this.2.1, this.2.2.1, this.2.2.2.1⟩
theorem areB_row {fs : List (Int × Int)} {r : List Int} (h : areB fs r = true) : rowB r = true := by
  simp only [areB, Bool.and_eq_true] at h; exact h.1
theorem areB_len {fs : List (Int × Int)} {r : List Int} (h : areB fs r = true) : fs.length = r.length := by
  simp only [areB, Bool.and_eq_true, decide_eq_true_eq] at h; exact h.2.1
theorem IsRow_c (v : Value) (xs : List Int) (w : World) (hv : Ints w v xs) : Calls Try.prog 115 #[v] w fun e w' => e = .returned (.bool (rowB xs)) ∧ Below w.heap.size w w' := by
  obtain ⟨a, c, hvv, hc1, hc2, HC⟩ := hv.parts
  by_cases h : xs.length ≤ 6
  · subst hvv
    go_enter Try.func115, Try.ntmps115
    go_wp2_with (go_at_call 85; refine (areAllInt_c _ xs 34 cellB _ hv (fun _ _ => by kernel_rfl) (fun x w' => IsCell_c x w')).mono ?_; rintro e w' ⟨rfl, hb⟩)
    go_ret
    exact ⟨bool_ret (by simp [rowB, h]), by assumption⟩
  · subst hvv
    go_enter Try.func115, Try.ntmps115
    go_wp2_with fail
    go_ret
    exact ⟨bool_ret (by simp [rowB]; omega), Below.refl _ _⟩
theorem l2Row_c (v : Value) (xs : List Int) (w : World) (hv : Ints w v xs) : Calls Try.prog 116 #[v] w fun e w' => e = .returned (.bool (rowB xs)) ∧ Below w.heap.size w w' := by
  have hm := hv.le
  obtain ⟨a, c, rfl, hc1, hc2, HC⟩ := hv.parts
  go_enter Try.func116, Try.ntmps116
  go_wp2
  go_loopw [3] (fun i wr => ∃ k : Nat, k ≤ xs.length ∧ k ≤ 7 ∧ i = .int .i64 k ∧ Hid (∀ j x, j < k → xs[j]? = some x → cellB x = true) ∧ w = wr) (fun i _ => xs.length - (intOf i).toNat)
  case atStart => exact ⟨0, by omega, by omega, rfl, fun j x hj => by omega, by trivial⟩
  case round =>
    obtain ⟨k, hk, hk2, rfl, hbef, rfl⟩ := hrel
    clear hv
    by_cases hlt : k < xs.length ∧ k ≤ 6
    · obtain ⟨hlt, hle⟩ := hlt
      obtain ⟨x, hx⟩ := elem_at hlt
      obtain ⟨b, off, rfl, g0⟩ := HC.out k x hx.out
      go_wp2_with fail
      refine (l2Cell_c _ _).mono ?_
      rintro e w' ⟨rfl, rfl⟩
      rcases hpx : cellB x with _ | _
      · have HP := Lib.hid hpx; clear hpx
        go_wp2
        go_ret
        exact ⟨bool_ret (by
          symm; simp only [rowB, Bool.and_eq_false_iff]; right
          rw [List.all_eq_false]; exact ⟨x, List.mem_of_getElem? hx.out, by simp [HP.out]⟩), Below.refl _ _⟩
      · have HP := Lib.hid hpx; clear hpx
        go_wp2
        go_roundw
        case rel => exact ⟨k + 1, by omega, by omega, by go_num, fun j y hj hy => by
          by_cases hj2 : j < k
          · exact hbef.out j y hj2 hy
          · obtain rfl : j = k := by omega
            rw [hx.out] at hy; obtain rfl := Option.some.inj hy; exact HP.out, by trivial⟩
        case measure => simp [intOf]; omega
    · have hor : k = xs.length ∨ (k = 7 ∧ k < xs.length) := by omega
      clear hlt
      rcases hor with hor | ⟨hor, hor2⟩
      · have HK := Lib.hid hor
        have h1 : ¬ k < xs.length := by omega
        clear hor
        go_wp2
        go_ret
        refine ⟨bool_ret ?_, Below.refl _ _⟩
        have hall : xs.all cellB = true := by
          rw [List.all_eq_true]; intro x hx
          obtain ⟨j, hj⟩ := List.mem_iff_getElem?.1 hx
          have := (List.getElem?_eq_some_iff.1 hj).1
          exact hbef.out j x (by have := HK.out; omega) hj
        simp [rowB, hall]; omega
      · have HK := Lib.hid hor
        have h1 : ¬ k ≤ 6 := by omega
        clear hor
        go_wp2
        go_ret
        refine ⟨bool_ret ?_, Below.refl _ _⟩
        have := HK.out
        rw [decide_eq_false (by omega)]
        simp [rowB]; omega
theorem areFaults_c (v1 v2 : Value) (fs : List (Int × Int)) (r : List Int) (w : World) (h1 : Pairs w v1 fs) (h2 : Ints w v2 r) :
    Calls Try.prog 98 #[v1, v2] w fun e w' => e = .returned (.bool (areB fs r)) ∧ Below w.heap.size w w' := by
  obtain ⟨a1, c1, rfl, _, _, _⟩ := h1.parts
  obtain ⟨a2, c2, rfl, _, _, _⟩ := h2.parts
  rcases hr : rowB r with _ | _
  · have HR := Lib.hid hr; clear hr
    go_enter Try.func98, Try.ntmps98
    go_wp2_with fail
    refine (IsRow_c _ r _ h2).mono ?_
    rintro e w1 ⟨rfl, hb1⟩
    rw [HR.out]
    go_wp2
    go_ret
    exact ⟨bool_ret (by simp [areB, HR.out]), hb1⟩
  · by_cases hl : fs.length = r.length
    · have hlb : ((fs.length : Int) == (r.length : Int)) = true := by simp [hl]
      have HR := Lib.hid hr; have HL := Lib.hid hl; clear hr hl
      go_enter Try.func98, Try.ntmps98
      go_wp2_with fail
      refine (IsRow_c _ r _ h2).mono ?_
      rintro e w1 ⟨rfl, hb1⟩
      rw [HR.out]
      go_wp2_with fail
      refine (areAllFault_c _ fs 32 fB _ (h1.below hb1) (fun _ _ => by kernel_rfl) (fun x w' => IsFault_c x.1 x.2 w')).mono ?_
      rintro e w2 ⟨rfl, hb2⟩
      go_wp2
      go_ret
      exact ⟨bool_ret (by simp [areB, HR.out, HL.out]), Below.chain hb1 hb2⟩
    · have hlb : ((fs.length : Int) == (r.length : Int)) = false := by simp; omega
      have HR := Lib.hid hr; have HL := Lib.hid hl; clear hr hl
      go_enter Try.func98, Try.ntmps98
      go_wp2_with fail
      refine (IsRow_c _ r _ h2).mono ?_
      rintro e w1 ⟨rfl, hb1⟩
      rw [HR.out]
      go_wp2
      go_ret
      exact ⟨bool_ret (by simp [areB, HL.out]), hb1⟩
theorem l3Faults_c (v1 v2 : Value) (fs : List (Int × Int)) (r : List Int) (w : World) (h1 : Pairs w v1 fs) (h2 : Ints w v2 r) :
    Calls Try.prog 100 #[v1, v2] w fun e w' => e = .returned (.bool (areB fs r)) ∧ Below w.heap.size w w' := by
  have hm := h1.le
  obtain ⟨a1, c1, rfl, _, _, H1⟩ := h1.parts
  obtain ⟨a2, c2, rfl, _, _, _⟩ := h2.parts
  by_cases hl : fs.length = r.length
  · have hlb : ((fs.length : Int) != (r.length : Int)) = false := by simp [hl]
    have HL := Lib.hid hl; clear hl
    rcases hr : rowB r with _ | _
    · have HR := Lib.hid hr; clear hr
      go_enter Try.func100, Try.ntmps100
      go_wp2_with fail
      refine (l2Row_c _ r _ h2).mono ?_
      rintro e w1 ⟨rfl, hb1⟩
      rw [HR.out]
      go_wp2
      go_ret
      exact ⟨bool_ret (by simp [areB, HR.out]), hb1⟩
    · have HR := Lib.hid hr; clear hr
      go_enter Try.func100, Try.ntmps100
      go_wp2_with fail
      refine (l2Row_c _ r _ h2).mono ?_
      rintro e w1 ⟨rfl, hb1⟩
      rw [HR.out]
      clear h1 h2
      go_wp2
      go_loopw [5] (fun i wr => ∃ k : Nat, k ≤ fs.length ∧ i = .int .i64 k ∧ Hid (∀ j x, j < k → fs[j]? = some x → fB x = true) ∧ Below w.heap.size w wr) (fun i _ => fs.length - (intOf i).toNat)
      case atStart => exact ⟨0, by omega, rfl, fun j x hj => by omega, hb1⟩
      case round =>
        obtain ⟨k, hk, rfl, hbef, hb⟩ := hrel
        clear hb1
        by_cases hlt : k < fs.length
        · have hdd : decide ((k : Int) < (fs.length : Int)) = true := by simp; omega
          obtain ⟨x, hx⟩ := elem_at hlt
          obtain ⟨b, off, rfl, f0, f1⟩ := H1.out k x hx.out
          have g0 := cell_later hb f0
          have g1 := cell_later hb f1
          clear f0 f1
          go_wp2_with fail
          refine (l3Fault_c x.1 x.2 _).mono ?_
          rintro e w2 ⟨rfl, hb2⟩
          have hb3 := Below.chain hb hb2
          clear g0 g1 hb hb2
          rcases hpx : faultB x.1 x.2 with _ | _
          · have HP := Lib.hid hpx; clear hpx
            go_wp2
            go_ret
            exact ⟨bool_ret (by
              symm; simp only [areB, Bool.and_eq_false_iff]; right; right
              rw [List.all_eq_false]; exact ⟨x, List.mem_of_getElem? hx.out, by simp [fB, HP.out]⟩), hb3⟩
          · have HP := Lib.hid hpx; clear hpx
            go_wp2
            go_roundw
            case rel => exact ⟨k + 1, by omega, by go_num, fun j y hj hy => by
              by_cases hj2 : j < k
              · exact hbef.out j y hj2 hy
              · obtain rfl : j = k := by omega
                rw [hx.out] at hy; obtain rfl := Option.some.inj hy; exact HP.out, hb3⟩
            case measure => simp [intOf]; omega
        · have hall : fs.all fB = true := by
            rw [List.all_eq_true]; intro x hx
            obtain ⟨j, hj⟩ := List.mem_iff_getElem?.1 hx
            exact hbef.out j x (by have := (List.getElem?_eq_some_iff.1 hj).1; omega) hj
          have HA := Lib.hid hall; clear hall
          go_wp2
          go_ret
          exact ⟨bool_ret (by simp [areB, HR.out, HL.out, HA.out]), hb⟩
  · have hlb : ((fs.length : Int) != (r.length : Int)) = true := by simp; omega
    have HL := Lib.hid hl; clear hl
    go_enter Try.func100, Try.ntmps100
    go_wp2_with fail
    go_ret
    exact ⟨bool_ret (by simp [areB, HL.out]), Below.refl _ _⟩
end Go.Proofs.Ytlipkplomndjcaa
