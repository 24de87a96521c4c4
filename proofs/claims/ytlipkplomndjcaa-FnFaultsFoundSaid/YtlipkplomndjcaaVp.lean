/- Walks of the laws' comparisons of slices of Faults and of States that are the same. -/
import Derived.Test.YtlipkplomndjcaaPairs
import Derived.Test.YtlipkplomndjcaaProg
namespace Go.Proofs.Ytlipkplomndjcaa
open Go.RowKit
set_option linter.unusedVariables false
set_option linter.unusedSimpArgs false
set_option maxRecDepth 100000
theorem vFaultsSame_c (v1 v2 : Value) (xs : List (Int × Int)) (w : World) (h1 : Pairs w v1 xs) (h2 : Pairs w v2 xs) :
    Calls Try.prog 18 #[v1, v2] w fun e w' => e = .returned (.bool true) ∧ Below w.heap.size w w' := by
  have hm1 := h1.le
  obtain ⟨a1, c1, rfl, _, _, H1⟩ := h1.parts
  obtain ⟨a2, c2, rfl, _, _, H2⟩ := h2.parts
  have hlb : ((xs.length : Int) != (xs.length : Int)) = false := by simp
  go_enter Try.func18, Try.ntmps18
  go_wp2
  go_loopw [5] (fun i wr => ∃ k : Nat, k ≤ xs.length ∧ i = .int .i64 k ∧ Below w.heap.size w wr) (fun i _ => xs.length - (intOf i).toNat)
  case atStart => exact ⟨0, by omega, rfl, Below.refl _ _⟩
  case round =>
    obtain ⟨k, hk, rfl, hb⟩ := hrel
    by_cases hlt : k < xs.length
    · have hd : decide ((k : Int) < (xs.length : Int)) = true := by simp; omega
      obtain ⟨⟨x, x'⟩, hx⟩ := elem_at hlt
      obtain ⟨b1, o1, rfl, f1, f1'⟩ := H1.out k _ hx.out
      obtain ⟨b2, o2, rfl, f2, f2'⟩ := H2.out k _ hx.out
      have g1 := cell_later hb f1
      have g1' := cell_later hb f1'
      have g2 := cell_later hb f2
      have g2' := cell_later hb f2'
      clear h1 h2 f1 f1' f2 f2'
      go_wp2_with fail
      go_region
      go_wp2
      go_roundw
      case rel => exact ⟨k + 1, by omega, by go_num, hb.drew⟩
      case measure => simp [intOf]; omega
    · have hd : decide ((k : Int) < (xs.length : Int)) = false := by simp; omega
      go_wp2
      go_ret
      exact ⟨rfl, hb⟩
end Go.Proofs.Ytlipkplomndjcaa
