/- The walks of the checksums and of the checker's decimal text. -/
import Derived.Test.YtlipkplomndjcaaDoorBase
import Derived.Test.YtlipkplomndjcaaDoorCk
import Derived.Deep.RegionHeld3
import Derived.Lib.ItoaLen
namespace Go.Proofs.YtlipkplomndjcaaDoor
open Go.RowKit
set_option linter.unusedVariables false
set_option maxRecDepth 100000
def bs (l : List UInt8) : ByteArray := ⟨l.toArray⟩
theorem ba_len (s : ByteArray) : s.data.toList.length = s.size := by simp
theorem ba_at {s : ByteArray} {k : Nat} (h : k < s.size) : s.data.toList[k]'(by rw [ba_len]; exact h) = s[k] := by simp; rfl
theorem ck_step {s : ByteArray} {k : Nat} (hk : k < s.size) : ckS (s.data.toList.take (k + 1)) = (41 * ckS (s.data.toList.take k) + ((s[k]).toNat : Int) + 1) % 999979 := by
  rw [ckS_take (by rw [ba_len]; exact hk), ba_at hk]
set_option maxHeartbeats 1000000 in
theorem checksum_c (s : ByteArray) (w : World) (hs : s.size ≤ 1073741824) : Calls Tryd.prog 54 #[.string s] w fun e w' => e = .returned (.int .i64 (ckS s.data.toList)) ∧ w = w' := by
  go_enter Tryd.func54, Tryd.ntmps54
  go_wp2
  go_loopw [3, 7] (fun h j wr => ∃ k : Nat, k ≤ s.size ∧ j = .int .i64 (k : Int) ∧ h = .int .i64 (ckS (s.data.toList.take k)) ∧ w = wr) (fun _ j _ => s.size - (intOf j).toNat)
  case atStart => exact ⟨0, by omega, rfl, rfl, rfl⟩
  case round =>
    obtain ⟨k, hk, rfl, rfl, rfl⟩ := hrel
    by_cases hlt : k < s.size
    · have hd : decide ((k : Int) < (s.size : Int)) = true := by simp; omega
      have hbl : s[k].toNat < 256 := s[k].toNat_lt
      have HS := Lib.hid (ck_step hlt)
      have hbd := ckS_bd (s.data.toList.take k)
      generalize ckS (s.data.toList.take k) = h at *
      generalize hc : s[k] = c at *
      generalize hn : c.toNat = n at *
      have hw : wrap64 ((n : Nat) : Int) = ((n : Nat) : Int) := by simp only [wrap64]; omega
      have hw1 : IntKind.i64.wrap (41 * h) = 41 * h := IntWalk.i64_in _ (by omega)
      have hw2 : IntKind.i64.wrap (41 * h + (n : Int)) = 41 * h + (n : Int) := IntWalk.i64_in _ (by omega)
      have hw3 : IntKind.i64.wrap (41 * h + (n : Int) + 1) = 41 * h + (n : Int) + 1 := IntWalk.i64_in _ (by omega)
      have hm : Int.tmod (41 * h + (n : Int) + 1) 999979 = (41 * h + (n : Int) + 1) % 999979 := Int.tmod_eq_emod_of_nonneg (by omega)
      go_wp2
      go_roundw
      case rel => exact ⟨k + 1, by omega, by go_num, by rw [HS.out], by trivial⟩
      case measure => simp [intOf]; omega
    · obtain rfl : k = s.size := by omega
      have HE : Hid (s.data.toList.take s.size = s.data.toList) := List.take_of_length_le (by rw [ba_len]; omega)
      rw [HE.out]
      go_wp2
      go_ret
      exact ⟨rfl, rfl⟩
set_option maxHeartbeats 1000000 in
theorem l1Sum_c (s : ByteArray) (w : World) (hs : s.size ≤ 1073741824) : Calls Tryd.prog 68 #[.string s] w fun e w' => e = .returned (.int .i64 (ckS s.data.toList)) ∧ w = w' := by
  go_enter Tryd.func68, Tryd.ntmps68
  go_wp2
  go_loopw [3, 4] (fun h j wr => ∃ k : Nat, k ≤ s.size ∧ j = .int .i64 (k : Int) ∧ h = .int .i64 (ckS (s.data.toList.take k)) ∧ w = wr) (fun _ j _ => s.size - (intOf j).toNat)
  case atStart => exact ⟨0, by omega, rfl, rfl, rfl⟩
  case round =>
    obtain ⟨k, hk, rfl, rfl, rfl⟩ := hrel
    by_cases hlt : k < s.size
    · have hd : decide ((k : Int) < (s.size : Int)) = true := by simp; omega
      have hbl : s[k].toNat < 256 := s[k].toNat_lt
      have HS := Lib.hid (ck_step hlt)
      have hbd := ckS_bd (s.data.toList.take k)
      generalize ckS (s.data.toList.take k) = h at *
      generalize hc : s[k] = c at *
      generalize hn : c.toNat = n at *
      have hw : wrap64 ((n : Nat) : Int) = ((n : Nat) : Int) := by simp only [wrap64]; omega
      have hw1 : IntKind.i64.wrap (41 * h) = 41 * h := IntWalk.i64_in _ (by omega)
      have hw2 : IntKind.i64.wrap (41 * h + (n : Int)) = 41 * h + (n : Int) := IntWalk.i64_in _ (by omega)
      have hw3 : IntKind.i64.wrap (41 * h + (n : Int) + 1) = 41 * h + (n : Int) + 1 := IntWalk.i64_in _ (by omega)
      have hm : Int.tmod (41 * h + (n : Int) + 1) 999979 = (41 * h + (n : Int) + 1) % 999979 := Int.tmod_eq_emod_of_nonneg (by omega)
      go_wp2
      go_roundw
      case rel => exact ⟨k + 1, by omega, by go_num, by rw [HS.out], by trivial⟩
      case measure => simp [intOf]; omega
    · obtain rfl : k = s.size := by omega
      have HE : Hid (s.data.toList.take s.size = s.data.toList) := List.take_of_length_le (by rw [ba_len]; omega)
      rw [HE.out]
      go_wp2
      go_ret
      exact ⟨rfl, rfl⟩
theorem piece : ∀ r : Fin 10, ((⟨#[48, 49, 50, 51, 52, 53, 54, 55, 56, 57]⟩ : ByteArray).extract r.1 (r.1 + 1)) = bs [UInt8.ofNat (48 + r.1)] := by decide +kernel
theorem bs_append (a b : List UInt8) : bs a ++ bs b = bs (a ++ b) := ByteArray.ext (by simp [bs])
theorem decDigits_big {u : Nat} (h : ¬ u < 10) : Lib.decDigits u = Lib.decDigits (u / 10) ++ [UInt8.ofNat (48 + u % 10)] := by rw [Lib.decDigits, dif_neg h]
set_option maxHeartbeats 1000000 in
theorem l1Num_c : ∀ (n : Nat) (w : World), n < 4611686018427387904 → Calls Tryd.prog 59 #[.int .i64 (n : Int)] w fun e w' => e = .returned (.string (bs (Lib.decDigits n))) ∧ Below w.heap.size w w' := by
  intro n
  induction n using Nat.strongRecOn with
  | ind n ih =>
    intro w hn
    have h0 : decide ((n : Int) < 0) = false := by first | (simp; done) | (simp; omega)
    by_cases h10 : n < 10
    · have h1 : decide ((n : Int) < 10) = true := by simp; omega
      have HD := Lib.hid (Lib.decDigits_one h10)
      have HN := Lib.hid h10
      clear ih
      go_enter Tryd.func59, Tryd.ntmps59
      go_wp2
      go_ret
      exact ⟨by rw [HD.out]; exact congrArg (fun x => Ending.returned (.string x)) (piece ⟨n, HN.out⟩), Below.refl _ _⟩
    · have h1 : decide ((n : Int) < 10) = false := by simp; omega
      have IH := Lib.hid (ih (n / 10) (by omega))
      have hq : IntKind.i64.wrap ((n : Int) / 10) = ((n / 10 : Nat) : Int) := by rw [IntWalk.i64_in _ (by omega)]; simp
      have hm : (n : Int).tmod 10 = ((n % 10 : Nat) : Int) := by rw [Int.tmod_eq_emod_of_nonneg (by omega)]; simp
      have hlt : n % 10 < 10 := Nat.mod_lt _ (by decide)
      generalize hr : n % 10 = r at *
      have hw : IntKind.i64.wrap ((r : Int) + 1) = (r : Int) + 1 := IntWalk.i64_in _ (by omega)
      have n0 : (0 : Int) ≤ (r : Int) := by omega
      have n1 : (r : Int) ≤ (r : Int) + 1 := by omega
      have n2 : (r : Int) + 1 ≤ 10 := by omega
      have ha : ((bs (Lib.decDigits (n / 10))).size : Int) ≤ 8388608 := by
        have h1 : (bs (Lib.decDigits (n / 10))).size = (Lib.decDigits (n / 10)).length := by show (Lib.decDigits (n / 10)).toArray.size = _; simp
        have h2 := Lib.nDigits_le20 (n / 10) (by omega)
        rw [h1, Lib.decDigits_length]; omega
      have hb : ((((⟨#[48, 49, 50, 51, 52, 53, 54, 55, 56, 57]⟩ : ByteArray).extract r (r + 1)).size : Nat) : Int) ≤ 8388608 := by
        have : ((⟨#[48, 49, 50, 51, 52, 53, 54, 55, 56, 57]⟩ : ByteArray).extract r (r + 1)).size = 1 := by rw [piece ⟨r, hlt⟩]; rfl
        rw [this]; decide
      have hs1 : ¬ (9223372036854775807 < (bs (Lib.decDigits (n / 10))).size + (min (r + 1) 10 - r)) := by omega
      clear ih ha hb
      go_enter Tryd.func59, Tryd.ntmps59
      go_wp2_with fail
      go_region_held3 (fun _ => True) (trivial)
        (first | (go_at_call 59; rw [show (n : Int) / 10 = ((n / 10 : Nat) : Int) by simp]; refine (IH.out _ (by omega)).mono ?_; rintro e wa ⟨rfl, hbc⟩; have hbd : Below w.heap.size w wa := Below.chain (Below.refl _ _).drew hbc))
      have HP := Lib.hid (piece ⟨r, hlt⟩)
      have HD := Lib.hid (decDigits_big h10)
      go_wp2
      go_ret
      exact ⟨by rw [HP.out, bs_append, HD.out, hr]; rfl, hbd⟩
end Go.Proofs.YtlipkplomndjcaaDoor
