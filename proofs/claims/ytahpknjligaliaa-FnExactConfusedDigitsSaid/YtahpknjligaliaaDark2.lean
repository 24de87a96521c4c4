/- Walk of the checker's sums over the sets of dark bars. -/
import Derived.Test.YtahpknjligaliaaDark
namespace Go.Proofs.Ytahpknjligaliaa
open Go.RowKit
set_option linter.unusedVariables false
set_option maxRecDepth 100000
theorem OwnSS.parts {w : World} {lo : Nat} {u : Value} {xss : List (List Int)} (h : OwnSS w lo u xss) : ∃ a c, u = .slice a xss.length c ∧ xss.length ≤ 9223372036854775807 ∧
    Hid (∀ k xs, xss[k]? = some xs → ∃ b off a' c', a = some ⟨b, off, none⟩ ∧ w.cell? ⟨b, off + k, none⟩ = some (.slice a' xs.length c') ∧ xs.length ≤ 9223372036854775807 ∧ Ints w (.slice a' xs.length c') xs) := by
  obtain ⟨vs, ho, hi⟩ := h
  have hle := (Sl.of_own ho).le
  obtain ⟨a, c, rfl, h1, h2, h3, h4⟩ := Sl.of_own ho
  refine ⟨a, c, rfl, hle, fun k xs hk => ?_⟩
  have hlt : k < xss.length := (List.getElem?_eq_some_iff.1 hk).1
  obtain ⟨b, off, rfl, hc⟩ := h4 (by omega)
  have hv : vs[k]? = some vs[k] := List.getElem?_eq_getElem (by rw [hi.1]; exact hlt)
  have hown := hi.2.1 k _ _ hv hk
  have hI : Ints w vs[k] xs := Ints.of_own hown
  obtain ⟨a', c', e, _⟩ := hI.parts
  refine ⟨b, off, a', c', rfl, by rw [hc k (by omega), hv, e], ?_, by rw [← e]; exact hI⟩
  exact hI.le
def dkH (kind : Int) (xs : List Int) : Bool := kind == 1 || (kind == 2 && xs.length == 1)
def dkI (kind : Int) (xss : List (List Int)) (i : Nat) : Nat := ((xss.take i).filter (dkH kind)).length
theorem dkI_succ {kind : Int} {xss : List (List Int)} {i : Nat} {xs : List Int} (h : xss[i]? = some xs) : dkI kind xss (i + 1) = dkI kind xss i + if dkH kind xs then 1 else 0 := by
  unfold dkI
  rw [take_snoc h, List.filter_append, List.length_append]
  cases hq : dkH kind xs <;> simp [hq]
theorem dkI_le (kind : Int) (xss : List (List Int)) (i : Nat) : dkI kind xss i ≤ xss.length :=
  Nat.le_trans (List.length_filter_le _ _) (List.length_take_le' _ _)
def dkG (kind : Int) (d : Nat) : Nat := dkI kind (grpL d 0) (grpL d 0).length + if kind == 3 && (grpL d 0).length == 10 then 1 else 0
theorem dkG_le {kind : Int} (hk : kind = 1 ∨ kind = 2 ∨ kind = 3) (d : Nat) : dkG kind d ≤ 10 := by
  have h1 := dkI_le kind (grpL d 0) (grpL d 0).length
  have h2 : (grpL d 0).length ≤ 10 := grpTo_le _ _ _
  unfold dkG
  rcases hk with rfl | rfl | rfl
  · simp; omega
  · simp; omega
  · have : dkI 3 (grpL d 0) (grpL d 0).length = 0 := by unfold dkI; simp [dkH]
    rw [this]; split <;> omega
theorem l9Dark_c (k kind : Int) (hk : kind = 1 ∨ kind = 2 ∨ kind = 3) (w : World) :
    Calls Try.prog 142 #[.int .i64 k, .int .i64 kind] w fun e w' => e = .returned (.tuple #[.int .i64 (dkS (dkG kind) k 128 : Nat), .int .i64 (dkM k 128 : Nat)]) ∧ Below w.heap.size w w' := by
  have hg := dkG_le hk
  go_enter Try.func142, Try.ntmps142
  go_wp2
  go_loopw [6, 7, 8, 9, 10] (fun s m j _ _ wr => ∃ n : Nat, n ≤ 128 ∧ j = .int .i64 (n : Int) ∧ s = .int .i64 (dkS (dkG kind) k n : Nat) ∧ m = .int .i64 (dkM k n : Nat) ∧ Below w.heap.size w wr) (fun _ _ j _ _ _ => 129 - (intOf j).toNat)
  case atStart => exact ⟨0, by omega, rfl, rfl, rfl, Below.refl _ _⟩
  case round =>
    obtain ⟨n, hn, rfl, rfl, rfl, hb⟩ := hrel
    by_cases hlt : n < 128
    · have hd : decide ((n : Int) < 128) = true := by simp; omega
      have hS := dkS_succ (dkG kind) k n
      have hM := dkM_succ k n
      have hSl := dkS_le hg k n
      have hMl := dkM_le k n
      have hgn := hg n
      generalize dkS (dkG kind) k n = s at *
      generalize dkM k n = m at *
      have HS := Lib.hid hS; have HM := Lib.hid hM; clear hS hM
      go_wp2_with fail
      refine (l2Count_c (n : Int) (by omega) (by omega) _).mono ?_
      rintro e w2 ⟨rfl, rfl⟩
      rcases hq : cnt (n : Int) == k with _ | _
      · have HS2 := Lib.hid (show dkS (dkG kind) k (n + 1) = s by rw [HS.out, hq]; rfl)
        have HM2 := Lib.hid (show dkM k (n + 1) = m by rw [HM.out, hq]; rfl)
        clear HS HM
        go_wp2
        go_roundw
        case rel => exact ⟨n + 1, by omega, by go_num, by rw [HS2.out], by rw [HM2.out], by (repeat (first | exact Below.refl _ _ | exact (Below.refl _ _).drew | assumption | exact below_one _ | refine Below.chain ?_ (by assumption) | refine Below.drew ?_ | refine Below.alc ?_ _ | refine below_drewN ?_ | (refine Below.setCell ?_ ?_ _) | exact Nat.le_refl _ | (simp; done) | (simp; omega)))⟩
        case measure => simp [intOf]; omega
      · have HS2 := Lib.hid (show dkS (dkG kind) k (n + 1) = s + dkG kind n by rw [HS.out, hq]; rfl)
        have HM2 := Lib.hid (show dkM k (n + 1) = m + 1 by rw [HM.out, hq]; rfl)
        clear HS HM
        go_wp2_with fail
        refine (l3Groups_c (n : Int) 0 _ (by omega) (by omega) (by omega) (by omega)).mono ?_
        rintro e w3 ⟨u, rfl, ho, hb3⟩
        have hb4 : Below w.heap.size w w3 := Below.chain hb hb3
        clear hb3
        have hG := Lib.hid (show dkG kind n = dkI kind (grpL n 0) (grpL n 0).length + if kind == 3 && (grpL n 0).length == 10 then 1 else 0 from rfl)
        have hIl : ∀ i, dkI kind (grpL n 0) i ≤ (grpL n 0).length := dkI_le _ _
        have h10 : (grpL (n : Int) 0).length ≤ 10 := grpTo_le _ _ _
        generalize grpL (n : Int) 0 = xss at *
        obtain ⟨a, c, rfl, hxl, HC⟩ := ho.parts
        clear ho
        go_wp2
        go_loopw [6, 10] (fun t j wr => ∃ i : Nat, i ≤ xss.length ∧ j = .int .i64 (i : Int) ∧ t = .int .i64 (s + dkI kind xss i : Nat) ∧ Below w3.heap.size w3 wr) (fun _ j _ => xss.length - (intOf j).toNat)
        case atStart => exact ⟨0, by omega, rfl, rfl, Below.refl _ _⟩
        case round =>
          obtain ⟨i, hi, rfl, rfl, hb5⟩ := hrel
          have hIi := hIl i
          by_cases hlt2 : i < xss.length
          · have hdd : decide ((i : Int) < (xss.length : Int)) = true := by simp; omega
            obtain ⟨xs, hx⟩ := elem_at hlt2
            obtain ⟨b, off, a', c', rfl, f0, hxsl, _⟩ := HC.out i xs hx.out
            have g0 := cell_later hb5 f0
            have hIs := dkI_succ (kind := kind) hx.out
            generalize dkI kind xss i = t at *
            have HIS := Lib.hid hIs; clear hIs f0
            rcases hk with rfl | rfl | rfl
            · have HI2 := Lib.hid (show dkI 1 xss (i + 1) = t + 1 by rw [HIS.out]; rfl)
              clear HIS
              go_wp2
              go_roundw
              case rel => exact ⟨i + 1, by omega, by go_num, by rw [HI2.out]; exact int_val (by omega), by (repeat (first | exact Below.refl _ _ | exact (Below.refl _ _).drew | assumption | exact below_one _ | refine Below.chain ?_ (by assumption) | refine Below.drew ?_ | refine Below.alc ?_ _ | refine below_drewN ?_ | (refine Below.setCell ?_ ?_ _) | exact Nat.le_refl _ | (simp; done) | (simp; omega)))⟩
              case measure => simp [intOf]; omega
            · rcases hq2 : xs.length == 1 with _ | _
              · have HI2 := Lib.hid (show dkI 2 xss (i + 1) = t by rw [HIS.out]; simp [dkH, hq2])
                have hne : decide ((xs.length : Int) = 1) = false := by simp at hq2 ⊢; omega
                clear HIS
                go_wp2
                go_roundw
                case rel => exact ⟨i + 1, by omega, by go_num, by rw [HI2.out], by (repeat (first | exact Below.refl _ _ | exact (Below.refl _ _).drew | assumption | exact below_one _ | refine Below.chain ?_ (by assumption) | refine Below.drew ?_ | refine Below.alc ?_ _ | refine below_drewN ?_ | (refine Below.setCell ?_ ?_ _) | exact Nat.le_refl _ | (simp; done) | (simp; omega)))⟩
                case measure => simp [intOf]; omega
              · have HI2 := Lib.hid (show dkI 2 xss (i + 1) = t + 1 by rw [HIS.out]; simp [dkH, hq2])
                have hne : decide ((xs.length : Int) = 1) = true := by simp at hq2 ⊢; omega
                clear HIS
                go_wp2
                go_roundw
                case rel => exact ⟨i + 1, by omega, by go_num, by rw [HI2.out]; exact int_val (by omega), by (repeat (first | exact Below.refl _ _ | exact (Below.refl _ _).drew | assumption | exact below_one _ | refine Below.chain ?_ (by assumption) | refine Below.drew ?_ | refine Below.alc ?_ _ | refine below_drewN ?_ | (refine Below.setCell ?_ ?_ _) | exact Nat.le_refl _ | (simp; done) | (simp; omega)))⟩
                case measure => simp [intOf]; omega
            · have HI2 := Lib.hid (show dkI 3 xss (i + 1) = t by rw [HIS.out]; rfl)
              clear HIS
              go_wp2
              go_roundw
              case rel => exact ⟨i + 1, by omega, by go_num, by rw [HI2.out], by (repeat (first | exact Below.refl _ _ | exact (Below.refl _ _).drew | assumption | exact below_one _ | refine Below.chain ?_ (by assumption) | refine Below.drew ?_ | refine Below.alc ?_ _ | refine below_drewN ?_ | (refine Below.setCell ?_ ?_ _) | exact Nat.le_refl _ | (simp; done) | (simp; omega)))⟩
              case measure => simp [intOf]; omega
          · obtain rfl : i = xss.length := by omega
            have hb6 : Below w.heap.size w wr := Below.chain hb4 hb5
            generalize dkI kind xss xss.length = t at *
            rcases hk with rfl | rfl | rfl
            · have HS3 := Lib.hid (show dkS (dkG 1) k (n + 1) = s + t by rw [HS2.out, hG.out]; rfl)
              clear HS2 hG
              go_wp2
              go_roundw
              case rel => exact ⟨n + 1, by omega, by go_num, by rw [HS3.out], by rw [HM2.out]; exact int_val (by omega), hb6⟩
              case measure => simp [intOf]; omega
            · have HS3 := Lib.hid (show dkS (dkG 2) k (n + 1) = s + t by rw [HS2.out, hG.out]; rfl)
              clear HS2 hG
              go_wp2
              go_roundw
              case rel => exact ⟨n + 1, by omega, by go_num, by rw [HS3.out], by rw [HM2.out]; exact int_val (by omega), hb6⟩
              case measure => simp [intOf]; omega
            · rcases hq3 : xss.length == 10 with _ | _
              · have HS3 := Lib.hid (show dkS (dkG 3) k (n + 1) = s + t by rw [HS2.out, hG.out, hq3]; rfl)
                have hne : decide ((xss.length : Int) = 10) = false := by simp at hq3 ⊢; omega
                clear HS2 hG
                go_wp2
                go_roundw
                case rel => exact ⟨n + 1, by omega, by go_num, by rw [HS3.out], by rw [HM2.out]; exact int_val (by omega), hb6⟩
                case measure => simp [intOf]; omega
              · have HS3 := Lib.hid (show dkS (dkG 3) k (n + 1) = s + (t + 1) by rw [HS2.out, hG.out, hq3]; rfl)
                have hne : decide ((xss.length : Int) = 10) = true := by simp at hq3 ⊢; omega
                clear HS2 hG
                go_wp2
                go_roundw
                case rel => exact ⟨n + 1, by omega, by go_num, by rw [HS3.out]; exact int_val (by omega), by rw [HM2.out]; exact int_val (by omega), hb6⟩
                case measure => simp [intOf]; omega
    · obtain rfl : n = 128 := by omega
      go_wp2
      exact bodyPost_ret (v := .tuple #[.int .i64 (dkS (dkG kind) k 128 : Nat), .int .i64 (dkM k 128 : Nat)]) (by simp [results, Try.results142, go_sem]) rfl ⟨rfl, hb⟩
end Go.Proofs.Ytahpknjligaliaa
