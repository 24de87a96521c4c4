/- Walks of the counts of bars that light. -/
import Derived.Test.YtlipkplomndjcaaBase
namespace Go.Proofs.Ytlipkplomndjcaa
open Go.RowKit
set_option linter.unusedVariables false
set_option maxRecDepth 100000
/-- the number of bars of a cell that light -/
def cnt (c : Int) : Int := ((List.range 7).map fun (i : Nat) => ((c.toNat / 2 ^ i % 2 : Nat) : Int)).sum
def on1 (x : Int) : Int := IntKind.u64.wrap (bits .and .u64 (x / 2) 6148914691236517205 + bits .and .u64 x 6148914691236517205)
def on2 (x : Int) : Int := IntKind.u64.wrap (bits .and .u64 (x / 4) 3689348814741910323 + bits .and .u64 x 3689348814741910323)
def on3 (x : Int) : Int := bits .and .u64 (IntKind.u64.wrap (x / 16 + x)) 1085102592571150095
def on4 (x : Int) : Int := IntKind.u64.wrap (x + x / 256)
def on5 (x : Int) : Int := IntKind.u64.wrap (x + x / 65536)
def on6 (x : Int) : Int := IntKind.u64.wrap (x + x / 4294967296)
def onesF (x : Int) : Int := on6 (on5 (on4 (on3 (on2 (on1 x)))))
theorem onesF_all : ∀ c : Fin 128, onesF (c.1 : Int) = cnt (c.1 : Int) ∧ 0 ≤ cnt (c.1 : Int) ∧ cnt (c.1 : Int) ≤ 7 ∧ bits .and .i64 (wrap64 (cnt (c.1 : Int))) 127 = cnt (c.1 : Int) := by decide +kernel
theorem Ones64_c (c : Nat) (hc : c < 128) (w : World) : Calls Try.prog 168 #[.int .u64 c] w fun e w' => e = .returned (.int .i64 (cnt c)) ∧ w = w' := by
  have h0 : (0 : Int) ≤ c := by omega
  have h1 : (c : Int) ≤ 127 := by omega
  have H := Lib.hid (onesF_all ⟨c, hc⟩)
  go_enter Try.func168, Try.ntmps168
  go_wp2
  go_ret
  refine ⟨?_, rfl⟩
  refine int_ret ?_
  show bits .and .i64 (wrap64 (onesF (c : Int))) 127 = cnt (c : Int)
  rw [H.out.1]; exact H.out.2.2.2
theorem Ones_c (c : Nat) (hc : c < 128) (w : World) : Calls Try.prog 150 #[.int .u64 c] w fun e w' => e = .returned (.int .i64 (cnt c)) ∧ w = w' := by
  have h0 : (0 : Int) ≤ c := by omega
  have h1 : (c : Int) ≤ 127 := by omega
  go_enter Try.func150, Try.ntmps150
  go_wp2_with fail
  refine (Ones64_c c hc _).mono ?_
  rintro e w' ⟨rfl, rfl⟩
  go_wp2
  go_ret
  exact ⟨rfl, rfl⟩
theorem count_c (c : Int) (h0 : 0 ≤ c) (h1 : c ≤ 127) (w : World) : Calls Try.prog 111 #[.int .i64 c] w fun e w' => e = .returned (.int .i64 (cnt c)) ∧ w = w' := by
  obtain ⟨n, rfl⟩ := Int.eq_ofNat_of_zero_le h0
  go_enter Try.func111, Try.ntmps111
  go_wp2_with fail
  refine (Ones_c n (by omega) _).mono ?_
  rintro e w' ⟨rfl, rfl⟩
  go_wp2
  go_ret
  exact ⟨rfl, rfl⟩
def cntTo (c : Int) (k : Nat) : Int := ((List.range k).map fun (i : Nat) => ((c.toNat / 2 ^ i % 2 : Nat) : Int)).sum
theorem cntTo_fin : ∀ (c : Fin 128) (k : Fin 7), cntTo (c.1 : Int) (k.1 + 1) = cntTo (c.1 : Int) k.1 + ((c.1 / 2 ^ k.1 % 2 : Nat) : Int) ∧ 0 ≤ cntTo (c.1 : Int) k.1 ∧ cntTo (c.1 : Int) k.1 ≤ 7 := by decide +kernel
theorem bit_at (n k : Nat) (hn : n < 128) : bits .and .i64 ((n : Int) / 2 ^ k) 1 = ((n / 2 ^ k % 2 : Nat) : Int) := by
  have e : ((n : Int) / 2 ^ k) = ((n / 2 ^ k : Nat) : Int) := by simp
  have hle : n / 2 ^ k ≤ n := Nat.div_le_self _ _
  rw [e, show (1 : Int) = ((1 : Nat) : Int) from rfl, i64_and_nat _ 1 (by omega) (by omega), Nat.and_one_is_mod]
theorem l2Count_c (c : Int) (h0 : 0 ≤ c) (h1 : c ≤ 127) (w : World) : Calls Try.prog 151 #[.int .i64 c] w fun e w' => e = .returned (.int .i64 (cnt c)) ∧ w = w' := by
  obtain ⟨n, rfl⟩ := Int.eq_ofNat_of_zero_le h0
  go_enter Try.func151, Try.ntmps151
  go_wp2
  go_loopw [3, 4] (fun m j wr => ∃ k : Nat, k ≤ 7 ∧ j = .int .i64 (k : Int) ∧ m = .int .i64 (cntTo (n : Int) k) ∧ w = wr) (fun _ j _ => 8 - (intOf j).toNat)
  case atStart => exact ⟨0, by omega, rfl, rfl, by trivial⟩
  case round =>
    obtain ⟨k, hk, rfl, rfl, rfl⟩ := hrel
    by_cases hlt : k < 7
    · have hd : decide ((k : Int) < 7) = true := by simp; omega
      have hf := cntTo_fin ⟨n, by omega⟩ ⟨k, hlt⟩
      simp only at hf
      obtain ⟨hS, hb0, hb1⟩ := hf
      have HS := Lib.hid hS; clear hS
      generalize cntTo (n : Int) k = m at *
      go_wp2
      exact ⟨⟨k + 1, by omega, by go_num, by
        rw [HS.out, bit_at n k (by omega)]
        exact int_val (by have : n / 2 ^ k % 2 < 2 := Nat.mod_lt _ (by omega); simp only [wrap64]; omega), trivial⟩, by simp [intOf]; omega⟩
    · obtain rfl : k = 7 := by omega
      go_wp2
      go_ret
      exact ⟨rfl, rfl⟩
end Go.Proofs.Ytlipkplomndjcaa
