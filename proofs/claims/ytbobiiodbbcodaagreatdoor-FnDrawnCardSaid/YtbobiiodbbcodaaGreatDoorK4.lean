/- Texts of this claim, gathered: Dark2, Box, Dark3, ToFaults, ShownRow, Told, Dark4. -/
import Derived.Test.YtbobiiodbbcodaaGreatDoorK3
import Derived.Deep.RegionHeld3
import Derived.Deep.AppendLies
namespace Go.Proofs.YtbobiiodbbcodaaGreatDoor
open Go.RowKit
set_option linter.unusedVariables false
set_option maxRecDepth 100000
theorem OwnSS.parts {w : World} {lo : Nat} {u : Value} {xss : List (List Int)} (h : OwnSS w lo u xss) : ∃ a c, u = .slice a xss.length c ∧ xss.length ≤ 9223372036854775807 ∧
    Hid (∀ k xs, xss[k]? = some xs → ∃ b off a' c', a = some ⟨b, off, none⟩ ∧ w.cell? ⟨b, off + k, none⟩ = some (.slice a' xs.length c') ∧ xs.length ≤ 9223372036854775807 ∧ Ints w (.slice a' xs.length c') xs) := by
  obtain ⟨vs, ho, hi⟩ := h
  have hle := (Sl.of_own ho).le
  obtain ⟨a, c, rfl, h1, h2, h3, h4⟩ := Sl.of_own ho
  refine ⟨a, c, rfl, hle, fun k xs hk => ?_⟩
  have hlt : k < xss.length := (List.getElem?_eq_some_iff.1 hk).1
  obtain ⟨b, off, rfl, hc⟩ := h4 (by omega)
  have hv : vs[k]? = some vs[k] := List.getElem?_eq_getElem (by rw [hi.1]; exact hlt)
  have hown := hi.2.1 k _ _ hv hk
  have hI : Ints w vs[k] xs := Ints.of_own hown
  obtain ⟨a', c', e, _⟩ := hI.parts
  refine ⟨b, off, a', c', rfl, by rw [hc k (by omega), hv, e], ?_, by rw [← e]; exact hI⟩
  exact hI.le
def dkH (kind : Int) (xs : List Int) : Bool := kind == 1 || (kind == 2 && xs.length == 1)
def dkI (kind : Int) (xss : List (List Int)) (i : Nat) : Nat := ((xss.take i).filter (dkH kind)).length
theorem dkI_succ {kind : Int} {xss : List (List Int)} {i : Nat} {xs : List Int} (h : xss[i]? = some xs) : dkI kind xss (i + 1) = dkI kind xss i + if dkH kind xs then 1 else 0 := by
  unfold dkI
  rw [take_snoc h, List.filter_append, List.length_append]
  cases hq : dkH kind xs <;> simp [hq]
theorem dkI_le (kind : Int) (xss : List (List Int)) (i : Nat) : dkI kind xss i ≤ xss.length :=
  Nat.le_trans (List.length_filter_le _ _) (List.length_take_le' _ _)
def dkG (kind : Int) (d : Nat) : Nat := dkI kind (grpL d 0) (grpL d 0).length + if kind == 3 && (grpL d 0).length == 10 then 1 else 0
theorem dkG_le {kind : Int} (hk : kind = 1 ∨ kind = 2 ∨ kind = 3) (d : Nat) : dkG kind d ≤ 10 := by
  have h1 := dkI_le kind (grpL d 0) (grpL d 0).length
  have h2 : (grpL d 0).length ≤ 10 := grpTo_le _ _ _
  unfold dkG
  rcases hk with rfl | rfl | rfl
  · simp; omega
  · simp; omega
  · have : dkI 3 (grpL d 0) (grpL d 0).length = 0 := by unfold dkI; simp [dkH]
    rw [this]; split <;> omega
theorem l9Dark_c (k kind : Int) (hk : kind = 1 ∨ kind = 2 ∨ kind = 3) (w : World) :
    Calls Tryz.prog 34 #[.int .i64 k, .int .i64 kind] w fun e w' => e = .returned (.tuple #[.int .i64 (dkS (dkG kind) k 128 : Nat), .int .i64 (dkM k 128 : Nat)]) ∧ Below w.heap.size w w' := by
  have hg := dkG_le hk
  go_enter Tryz.func34, Tryz.ntmps34
  go_wp2
  go_loopw [6, 7, 8, 9, 10] (fun s m j _ _ wr => ∃ n : Nat, n ≤ 128 ∧ j = .int .i64 (n : Int) ∧ s = .int .i64 (dkS (dkG kind) k n : Nat) ∧ m = .int .i64 (dkM k n : Nat) ∧ Below w.heap.size w wr) (fun _ _ j _ _ _ => 129 - (intOf j).toNat)
  case atStart => exact ⟨0, by omega, rfl, rfl, rfl, Below.refl _ _⟩
  case round =>
    obtain ⟨n, hn, rfl, rfl, rfl, hb⟩ := hrel
    by_cases hlt : n < 128
    · have hd : decide ((n : Int) < 128) = true := by simp; omega
      have hS := dkS_succ (dkG kind) k n
      have hM := dkM_succ k n
      have hSl := dkS_le hg k n
      have hMl := dkM_le k n
      have hgn := hg n
      generalize dkS (dkG kind) k n = s at *
      generalize dkM k n = m at *
      have HS := Lib.hid hS; have HM := Lib.hid hM; clear hS hM
      go_wp2_with fail
      refine (l2Count_c (n : Int) (by omega) (by omega) _).mono ?_
      rintro e w2 ⟨rfl, rfl⟩
      rcases hq : cnt (n : Int) == k with _ | _
      · have HS2 := Lib.hid (show dkS (dkG kind) k (n + 1) = s by rw [HS.out, hq]; rfl)
        have HM2 := Lib.hid (show dkM k (n + 1) = m by rw [HM.out, hq]; rfl)
        clear HS HM
        go_wp2
        go_roundw
        case rel => exact ⟨n + 1, by omega, by go_num, by rw [HS2.out], by rw [HM2.out], by (repeat (first | exact Below.refl _ _ | exact (Below.refl _ _).drew | assumption | exact below_one _ | refine Below.chain ?_ (by assumption) | refine Below.drew ?_ | refine Below.alc ?_ _ | refine below_drewN ?_ | (refine Below.setCell ?_ ?_ _) | exact Nat.le_refl _ | (simp; done) | (simp; omega)))⟩
        case measure => simp [intOf]; omega
      · have HS2 := Lib.hid (show dkS (dkG kind) k (n + 1) = s + dkG kind n by rw [HS.out, hq]; rfl)
        have HM2 := Lib.hid (show dkM k (n + 1) = m + 1 by rw [HM.out, hq]; rfl)
        clear HS HM
        go_wp2_with fail
        refine (l3Groups_c (n : Int) 0 _ (by omega) (by omega) (by omega) (by omega)).mono ?_
        rintro e w3 ⟨u, rfl, ho, hb3⟩
        have hb4 : Below w.heap.size w w3 := Below.chain hb hb3
        clear hb3
        have hG := Lib.hid (show dkG kind n = dkI kind (grpL n 0) (grpL n 0).length + if kind == 3 && (grpL n 0).length == 10 then 1 else 0 from rfl)
        have hIl : ∀ i, dkI kind (grpL n 0) i ≤ (grpL n 0).length := dkI_le _ _
        have h10 : (grpL (n : Int) 0).length ≤ 10 := grpTo_le _ _ _
        generalize grpL (n : Int) 0 = xss at *
        obtain ⟨a, c, rfl, hxl, HC⟩ := ho.parts
        clear ho
        go_wp2
        go_loopw [6, 10] (fun t j wr => ∃ i : Nat, i ≤ xss.length ∧ j = .int .i64 (i : Int) ∧ t = .int .i64 (s + dkI kind xss i : Nat) ∧ Below w3.heap.size w3 wr) (fun _ j _ => xss.length - (intOf j).toNat)
        case atStart => exact ⟨0, by omega, rfl, rfl, Below.refl _ _⟩
        case round =>
          obtain ⟨i, hi, rfl, rfl, hb5⟩ := hrel
          have hIi := hIl i
          by_cases hlt2 : i < xss.length
          · have hdd : decide ((i : Int) < (xss.length : Int)) = true := by simp; omega
            obtain ⟨xs, hx⟩ := elem_at hlt2
            obtain ⟨b, off, a', c', rfl, f0, hxsl, _⟩ := HC.out i xs hx.out
            have g0 := cell_later hb5 f0
            have hIs := dkI_succ (kind := kind) hx.out
            generalize dkI kind xss i = t at *
            have HIS := Lib.hid hIs; clear hIs f0
            rcases hk with rfl | rfl | rfl
            · have HI2 := Lib.hid (show dkI 1 xss (i + 1) = t + 1 by rw [HIS.out]; rfl)
              clear HIS
              go_wp2
              go_roundw
              case rel => exact ⟨i + 1, by omega, by go_num, by rw [HI2.out]; exact int_val (by omega), by (repeat (first | exact Below.refl _ _ | exact (Below.refl _ _).drew | assumption | exact below_one _ | refine Below.chain ?_ (by assumption) | refine Below.drew ?_ | refine Below.alc ?_ _ | refine below_drewN ?_ | (refine Below.setCell ?_ ?_ _) | exact Nat.le_refl _ | (simp; done) | (simp; omega)))⟩
              case measure => simp [intOf]; omega
            · rcases hq2 : xs.length == 1 with _ | _
              · have HI2 := Lib.hid (show dkI 2 xss (i + 1) = t by rw [HIS.out]; simp [dkH, hq2])
                have hne : decide ((xs.length : Int) = 1) = false := by simp at hq2 ⊢; omega
                clear HIS
                go_wp2
                go_roundw
                case rel => exact ⟨i + 1, by omega, by go_num, by rw [HI2.out], by (repeat (first | exact Below.refl _ _ | exact (Below.refl _ _).drew | assumption | exact below_one _ | refine Below.chain ?_ (by assumption) | refine Below.drew ?_ | refine Below.alc ?_ _ | refine below_drewN ?_ | (refine Below.setCell ?_ ?_ _) | exact Nat.le_refl _ | (simp; done) | (simp; omega)))⟩
                case measure => simp [intOf]; omega
              · have HI2 := Lib.hid (show dkI 2 xss (i + 1) = t + 1 by rw [HIS.out]; simp [dkH, hq2])
                have hne : decide ((xs.length : Int) = 1) = true := by simp at hq2 ⊢; omega
                clear HIS
                go_wp2
                go_roundw
                case rel => exact ⟨i + 1, by omega, by go_num, by rw [HI2.out]; exact int_val (by omega), by (repeat (first | exact Below.refl _ _ | exact (Below.refl _ _).drew | assumption | exact below_one _ | refine Below.chain ?_ (by assumption) | refine Below.drew ?_ | refine Below.alc ?_ _ | refine below_drewN ?_ | (refine Below.setCell ?_ ?_ _) | exact Nat.le_refl _ | (simp; done) | (simp; omega)))⟩
                case measure => simp [intOf]; omega
            · have HI2 := Lib.hid (show dkI 3 xss (i + 1) = t by rw [HIS.out]; rfl)
              clear HIS
              go_wp2
              go_roundw
              case rel => exact ⟨i + 1, by omega, by go_num, by rw [HI2.out], by (repeat (first | exact Below.refl _ _ | exact (Below.refl _ _).drew | assumption | exact below_one _ | refine Below.chain ?_ (by assumption) | refine Below.drew ?_ | refine Below.alc ?_ _ | refine below_drewN ?_ | (refine Below.setCell ?_ ?_ _) | exact Nat.le_refl _ | (simp; done) | (simp; omega)))⟩
              case measure => simp [intOf]; omega
          · obtain rfl : i = xss.length := by omega
            have hb6 : Below w.heap.size w wr := Below.chain hb4 hb5
            generalize dkI kind xss xss.length = t at *
            rcases hk with rfl | rfl | rfl
            · have HS3 := Lib.hid (show dkS (dkG 1) k (n + 1) = s + t by rw [HS2.out, hG.out]; rfl)
              clear HS2 hG
              go_wp2
              go_roundw
              case rel => exact ⟨n + 1, by omega, by go_num, by rw [HS3.out], by rw [HM2.out]; exact int_val (by omega), hb6⟩
              case measure => simp [intOf]; omega
            · have HS3 := Lib.hid (show dkS (dkG 2) k (n + 1) = s + t by rw [HS2.out, hG.out]; rfl)
              clear HS2 hG
              go_wp2
              go_roundw
              case rel => exact ⟨n + 1, by omega, by go_num, by rw [HS3.out], by rw [HM2.out]; exact int_val (by omega), hb6⟩
              case measure => simp [intOf]; omega
            · rcases hq3 : xss.length == 10 with _ | _
              · have HS3 := Lib.hid (show dkS (dkG 3) k (n + 1) = s + t by rw [HS2.out, hG.out, hq3]; rfl)
                have hne : decide ((xss.length : Int) = 10) = false := by simp at hq3 ⊢; omega
                clear HS2 hG
                go_wp2
                go_roundw
                case rel => exact ⟨n + 1, by omega, by go_num, by rw [HS3.out], by rw [HM2.out]; exact int_val (by omega), hb6⟩
                case measure => simp [intOf]; omega
              · have HS3 := Lib.hid (show dkS (dkG 3) k (n + 1) = s + (t + 1) by rw [HS2.out, hG.out, hq3]; rfl)
                have hne : decide ((xss.length : Int) = 10) = true := by simp at hq3 ⊢; omega
                clear HS2 hG
                go_wp2
                go_roundw
                case rel => exact ⟨n + 1, by omega, by go_num, by rw [HS3.out]; exact int_val (by omega), by rw [HM2.out]; exact int_val (by omega), hb6⟩
                case measure => simp [intOf]; omega
    · obtain rfl : n = 128 := by omega
      go_wp2
      exact bodyPost_ret (v := .tuple #[.int .i64 (dkS (dkG kind) k 128 : Nat), .int .i64 (dkM k 128 : Nat)]) (by simp [results, Tryz.results34, go_sem]) rfl ⟨rfl, hb⟩
end Go.Proofs.YtbobiiodbbcodaaGreatDoor
namespace Go.Proofs.YtbobiiodbbcodaaGreatDoor
open Go.RowKit
set_option linter.unusedVariables false
/-- the cells of a box that was made ahead of a call -/
theorem box_after {w w1 : World} {cs : Array Value} {t : TypeId} (hb : Below (w.alloc (.cells cs t)).heap.size (w.alloc (.cells cs t)) w1) :
    (∀ j v, cs[j]? = some v → w1.cell? ⟨w.heap.size, j, none⟩ = some v) ∧ ∀ j, w1.frozen? ⟨w.heap.size, j, none⟩ = false := by
  refine ⟨fun j v h => ?_, fun j => ?_⟩
  · rw [hb.cell (p := ⟨w.heap.size, j, none⟩) (by simp), World.cell?_alloc_at _ _ _ _ rfl]; exact h
  · rw [hb.frozen (p := ⟨w.heap.size, j, none⟩) (by simp), World.frozen?_alloc_new]
theorem two_set {w w2 : World} {b : Nat} {x y : Value} (X Y : Value) (h0 : w2.cell? ⟨b, 0, none⟩ = some x) (h1 : w2.cell? ⟨b, 1, none⟩ = some y) (hb : Below w.heap.size w w2) (hbb : w.heap.size ≤ b) :
    ((w2.setCell ⟨b, 0, none⟩ X).setCell ⟨b, 1, none⟩ Y).cell? ⟨b, 0, none⟩ = some X ∧ ((w2.setCell ⟨b, 0, none⟩ X).setCell ⟨b, 1, none⟩ Y).cell? ⟨b, 1, none⟩ = some Y ∧ Below w.heap.size w ((w2.setCell ⟨b, 0, none⟩ X).setCell ⟨b, 1, none⟩ Y) := by
  refine ⟨?_, ?_, (hb.setCell hbb _).setCell hbb _⟩
  · rw [World.cell?_setCell_other _ _ _ _ (by simp)]; exact World.cell?_setCell_same _ _ _ h0
  · exact World.cell?_setCell_same _ _ _ (u := y) (by rw [World.cell?_setCell_other _ _ _ _ (by simp)]; exact h1)
end Go.Proofs.YtbobiiodbbcodaaGreatDoor
namespace Go.Proofs.YtbobiiodbbcodaaGreatDoor
open Go.RowKit
set_option linter.unusedVariables false
set_option maxRecDepth 100000
def dkOk (k : Int) : Bool := inB k 0 7
/-- the answer: a fraction, and whether it is one -/
def dkV (kind ten : Nat) (k : Int) : Value := .tuple #[if dkOk k then fracV (dkS (dkG kind) k 128) (ten * dkM k 128) else .agg #[.int .i64 0, .int .i64 0], .bool (dkOk k)]
theorem dk_bounds {k : Int} (h : dkOk k = true) : 0 < dkM k 128 ∧ dkM k 128 ≤ 128 := by
  have h2 : 0 ≤ k ∧ k ≤ 7 := inB_true h
  obtain ⟨n, rfl⟩ := Int.eq_ofNat_of_zero_le h2.1
  exact ⟨dkM_pos ⟨n, by omega⟩, dkM_le _ _⟩
theorem MeanImages1_c (d : Nat) (w : World) (hd : d < 128) : Calls Tryz.prog 36 #[.agg #[.int .i64 (d : Int), .int .i64 0]] w fun e w' => e = .returned (.int .i64 (dkG 1 d : Nat)) ∧ Below w.heap.size w w' := by
  have q0 : (w.alloc (.cells #[.int .i64 (d : Int), .int .i64 0] 30)).cell? ⟨w.heap.size, 0, none⟩ = some (.int .i64 (d : Int)) := by rw [World.cell?_alloc_at _ _ _ _ rfl]; rfl
  have q1 : (w.alloc (.cells #[.int .i64 (d : Int), .int .i64 0] 30)).cell? ⟨w.heap.size, 1, none⟩ = some (.int .i64 0) := by rw [World.cell?_alloc_at _ _ _ _ rfl]; rfl
  have hG : dkG 1 d = (grpL (d : Int) 0).length := by
    unfold dkG dkI; rw [List.take_length]; simp [dkH]
  rw [hG]; clear hG
  go_enter Tryz.func36, Tryz.ntmps36
  go_wp2_with fail
  refine (groups_c (d : Int) 0 _ (by omega) (by omega) (by omega) (by omega)).mono ?_
  rintro e w1 ⟨u, rfl, ho, hb⟩
  obtain ⟨a, c, rfl, _, _⟩ := ho.parts
  go_wp2
  go_ret
  exact ⟨rfl, by (repeat (first | exact Below.refl _ _ | exact (Below.refl _ _).drew | assumption | exact below_one _ | refine Below.chain ?_ (by assumption) | refine Below.drew ?_ | refine Below.alc ?_ _ | refine below_drewN ?_ | (refine Below.setCell ?_ ?_ _) | exact Nat.le_refl _ | (simp; done) | (simp; omega)))⟩
theorem ChanceHarmless1_c (d : Nat) (w : World) (hd : d < 128) : Calls Tryz.prog 38 #[.agg #[.int .i64 (d : Int), .int .i64 0]] w fun e w' => e = .returned (.int .i64 (dkG 3 d : Nat)) ∧ Below w.heap.size w w' := by
  have q0 : (w.alloc (.cells #[.int .i64 (d : Int), .int .i64 0] 30)).cell? ⟨w.heap.size, 0, none⟩ = some (.int .i64 (d : Int)) := by rw [World.cell?_alloc_at _ _ _ _ rfl]; rfl
  have q1 : (w.alloc (.cells #[.int .i64 (d : Int), .int .i64 0] 30)).cell? ⟨w.heap.size, 1, none⟩ = some (.int .i64 0) := by rw [World.cell?_alloc_at _ _ _ _ rfl]; rfl
  have hG : dkG 3 d = if decide ((grpL (d : Int) 0).length = 10) then 1 else 0 := by
    unfold dkG dkI; rw [List.take_length]; simp [dkH]
  rcases hq : decide ((grpL (d : Int) 0).length = 10) with _ | _
  all_goals
    rw [hG, hq]
    have HQ := Lib.hid hq
    clear hq hG
    go_enter Tryz.func38, Tryz.ntmps38
    go_wp2_with fail
    refine (isHarmless_c (d : Int) 0 _ (by omega) (by omega) (by omega) (by omega)).mono ?_
    rintro e w1 ⟨rfl, hb⟩
    rw [HQ.out]
    go_wp2
    go_ret
    exact ⟨rfl, by (repeat (first | exact Below.refl _ _ | exact (Below.refl _ _).drew | assumption | exact below_one _ | refine Below.chain ?_ (by assumption) | refine Below.drew ?_ | refine Below.alc ?_ _ | refine below_drewN ?_ | (refine Below.setCell ?_ ?_ _) | exact Nat.le_refl _ | (simp; done) | (simp; omega)))⟩
theorem MeanImages_c (k : Int) (w : World) : Calls Tryz.prog 8 #[.int .i64 k] w fun e w' => e = .returned (dkV 1 1 k) ∧ Below w.heap.size w w' := by
  have hcl : CallsIt 36 := fun bs w => by kernel_rfl
  rcases hc : dkOk k with _ | _
  · have HC := Lib.hid (show inB k 0 7 = false from hc)
    have HF := Lib.hid (show dkV 1 1 k = .tuple #[.agg #[.int .i64 0, .int .i64 0], .bool false] by simp [dkV, hc]); clear hc
    go_enter Tryz.func8, Tryz.ntmps8
    go_wp2_with fail
    refine (overDark_c k _ (dkG 1) _ (dkG_le (by decide)) hcl (fun d w' hd => MeanImages1_c d w' hd)).mono ?_
    rintro e w1 ⟨rfl, hb⟩
    rw [HC.out]
    obtain ⟨hd, hfz⟩ := box_after hb
    have d0 := hd 0 _ rfl
    have d1 := hd 1 _ rfl
    have z0 := hfz 0
    have z1 := hfz 1
    clear hd hfz
    have hb4 : Below w.heap.size w w1 := Below.chain (Below.alc (Below.refl _ _) _) hb
    clear hb
    go_wp2
    refine bodyPost_ret (v := dkV 1 1 k) (by rw [HF.out]; simp [results, Tryz.results8, go_sem, d0, d1]) rfl ⟨rfl, by (repeat (first | exact Below.refl _ _ | exact (Below.refl _ _).drew | assumption | exact below_one _ | refine Below.chain ?_ (by assumption) | refine Below.drew ?_ | refine Below.alc ?_ _ | refine below_drewN ?_ | (refine Below.setCell ?_ ?_ _) | exact Nat.le_refl _ | (simp; done) | (simp; omega)))⟩
  · have HC := Lib.hid (show inB k 0 7 = true from hc)
    have HF := Lib.hid (show dkV 1 1 k = .tuple #[fracV (dkS (dkG 1) k 128) (dkM k 128), .bool true] by simp [dkV, hc])
    have HM := dk_bounds hc
    have HS := dkS_le (dkG_le (kind := 1) (by decide)) k 128
    clear hc
    go_enter Tryz.func8, Tryz.ntmps8
    go_wp2_with fail
    refine (overDark_c k _ (dkG 1) _ (dkG_le (by decide)) hcl (fun d w' hd => MeanImages1_c d w' hd)).mono ?_
    rintro e w1 ⟨rfl, hb⟩
    rw [HC.out]
    obtain ⟨hd, hfz⟩ := box_after hb
    have d0 := hd 0 _ rfl
    have d1 := hd 1 _ rfl
    have z0 := hfz 0
    have z1 := hfz 1
    clear hd hfz
    have hb4 : Below w.heap.size w w1 := Below.chain (Below.alc (Below.refl _ _) _) hb
    clear hb
    generalize dkS (dkG 1) k 128 = s at *
    generalize dkM k 128 = m at *
    go_wp2_with fail
    refine (fraction_c s (m) (by omega) (by omega) (by omega) _).mono ?_
    rintro e w2 ⟨rfl, hb5⟩
    have e0 := cell_later hb5 d0
    have e1 := cell_later hb5 d1
    have f0 := hb5.frozen (p := ⟨w.heap.size, 0, none⟩) (World.block_lt_of_cell? _ _ d0) |>.trans z0
    have f1 := hb5.frozen (p := ⟨w.heap.size, 1, none⟩) (World.block_lt_of_cell? _ _ d1) |>.trans z1
    have hb6 := Below.chain hb4 hb5
    obtain ⟨u0, u1, hb7⟩ := two_set (.int .i64 (fracN s (m))) (.int .i64 (fracD s (m))) e0 e1 hb6 (Nat.le_refl _)
    clear hb4 hb5 d0 d1 z0 z1 hb6
    unfold fracV at HF ⊢
    go_wp2
    clear e0 e1 f0 f1
    generalize (World.setCell (World.setCell w2 _ _) _ _) = w3 at *
    refine bodyPost_ret (v := dkV 1 1 k) (by rw [HF.out]; simp [results, Tryz.results8, go_sem, u0, u1]) rfl ⟨rfl, hb7⟩
theorem ChanceHarmless_c (k : Int) (w : World) : Calls Tryz.prog 10 #[.int .i64 k] w fun e w' => e = .returned (dkV 3 1 k) ∧ Below w.heap.size w w' := by
  have hcl : CallsIt 38 := fun bs w => by kernel_rfl
  rcases hc : dkOk k with _ | _
  · have HC := Lib.hid (show inB k 0 7 = false from hc)
    have HF := Lib.hid (show dkV 3 1 k = .tuple #[.agg #[.int .i64 0, .int .i64 0], .bool false] by simp [dkV, hc]); clear hc
    go_enter Tryz.func10, Tryz.ntmps10
    go_wp2_with fail
    refine (overDark_c k _ (dkG 3) _ (dkG_le (by decide)) hcl (fun d w' hd => ChanceHarmless1_c d w' hd)).mono ?_
    rintro e w1 ⟨rfl, hb⟩
    rw [HC.out]
    obtain ⟨hd, hfz⟩ := box_after hb
    have d0 := hd 0 _ rfl
    have d1 := hd 1 _ rfl
    have z0 := hfz 0
    have z1 := hfz 1
    clear hd hfz
    have hb4 : Below w.heap.size w w1 := Below.chain (Below.alc (Below.refl _ _) _) hb
    clear hb
    go_wp2
    refine bodyPost_ret (v := dkV 3 1 k) (by rw [HF.out]; simp [results, Tryz.results10, go_sem, d0, d1]) rfl ⟨rfl, by (repeat (first | exact Below.refl _ _ | exact (Below.refl _ _).drew | assumption | exact below_one _ | refine Below.chain ?_ (by assumption) | refine Below.drew ?_ | refine Below.alc ?_ _ | refine below_drewN ?_ | (refine Below.setCell ?_ ?_ _) | exact Nat.le_refl _ | (simp; done) | (simp; omega)))⟩
  · have HC := Lib.hid (show inB k 0 7 = true from hc)
    have HF := Lib.hid (show dkV 3 1 k = .tuple #[fracV (dkS (dkG 3) k 128) (dkM k 128), .bool true] by simp [dkV, hc])
    have HM := dk_bounds hc
    have HS := dkS_le (dkG_le (kind := 3) (by decide)) k 128
    clear hc
    go_enter Tryz.func10, Tryz.ntmps10
    go_wp2_with fail
    refine (overDark_c k _ (dkG 3) _ (dkG_le (by decide)) hcl (fun d w' hd => ChanceHarmless1_c d w' hd)).mono ?_
    rintro e w1 ⟨rfl, hb⟩
    rw [HC.out]
    obtain ⟨hd, hfz⟩ := box_after hb
    have d0 := hd 0 _ rfl
    have d1 := hd 1 _ rfl
    have z0 := hfz 0
    have z1 := hfz 1
    clear hd hfz
    have hb4 : Below w.heap.size w w1 := Below.chain (Below.alc (Below.refl _ _) _) hb
    clear hb
    generalize dkS (dkG 3) k 128 = s at *
    generalize dkM k 128 = m at *
    go_wp2_with fail
    refine (fraction_c s (m) (by omega) (by omega) (by omega) _).mono ?_
    rintro e w2 ⟨rfl, hb5⟩
    have e0 := cell_later hb5 d0
    have e1 := cell_later hb5 d1
    have f0 := hb5.frozen (p := ⟨w.heap.size, 0, none⟩) (World.block_lt_of_cell? _ _ d0) |>.trans z0
    have f1 := hb5.frozen (p := ⟨w.heap.size, 1, none⟩) (World.block_lt_of_cell? _ _ d1) |>.trans z1
    have hb6 := Below.chain hb4 hb5
    obtain ⟨u0, u1, hb7⟩ := two_set (.int .i64 (fracN s (m))) (.int .i64 (fracD s (m))) e0 e1 hb6 (Nat.le_refl _)
    clear hb4 hb5 d0 d1 z0 z1 hb6
    unfold fracV at HF ⊢
    go_wp2
    clear e0 e1 f0 f1
    generalize (World.setCell (World.setCell w2 _ _) _ _) = w3 at *
    refine bodyPost_ret (v := dkV 3 1 k) (by rw [HF.out]; simp [results, Tryz.results10, go_sem, u0, u1]) rfl ⟨rfl, hb7⟩
theorem sMeanImages_c (k : Int) (w : World) : Calls Tryz.prog 9 #[.int .i64 k] w fun e w' => e = .returned (dkV 1 1 k) ∧ Below w.heap.size w w' := by
  rcases hc : dkOk k with _ | _
  · have HC := Lib.hid (show inB k 0 7 = false from hc)
    have HF := Lib.hid (show dkV 1 1 k = .tuple #[.agg #[.int .i64 0, .int .i64 0], .bool false] by simp [dkV, hc]); clear hc
    have hb := Below.refl (w.alloc (.cells #[.int .i64 0, .int .i64 0] 25)).heap.size (w.alloc (.cells #[.int .i64 0, .int .i64 0] 25))
    go_enter Tryz.func9, Tryz.ntmps9
    go_wp2_with fail
    refine (l1In_c k 0 7 _).mono ?_
    rintro e w1 ⟨rfl, rfl⟩
    rw [HC.out]
    obtain ⟨hd, hfz⟩ := box_after hb
    have d0 := hd 0 _ rfl
    have d1 := hd 1 _ rfl
    have z0 := hfz 0
    have z1 := hfz 1
    clear hd hfz
    have hb4 : Below w.heap.size w (w.alloc (.cells #[.int .i64 0, .int .i64 0] 25)) := Below.chain (Below.alc (Below.refl _ _) _) hb
    clear hb
    go_wp2
    refine bodyPost_ret (v := dkV 1 1 k) (by rw [HF.out]; simp [results, Tryz.results9, go_sem, d0, d1]) rfl ⟨rfl, by (repeat (first | exact Below.refl _ _ | exact (Below.refl _ _).drew | assumption | exact below_one _ | refine Below.chain ?_ (by assumption) | refine Below.drew ?_ | refine Below.alc ?_ _ | refine below_drewN ?_ | (refine Below.setCell ?_ ?_ _) | exact Nat.le_refl _ | (simp; done) | (simp; omega)))⟩
  · have HC := Lib.hid (show inB k 0 7 = true from hc)
    have HF := Lib.hid (show dkV 1 1 k = .tuple #[fracV (dkS (dkG 1) k 128) (dkM k 128), .bool true] by simp [dkV, hc])
    have HM := dk_bounds hc
    have HS := dkS_le (dkG_le (kind := 1) (by decide)) k 128
    clear hc
    go_enter Tryz.func9, Tryz.ntmps9
    go_wp2_with fail
    refine (l1In_c k 0 7 _).mono ?_
    rintro e w1 ⟨rfl, rfl⟩
    rw [HC.out]
    go_wp2_with fail
    refine (l9Dark_c k 1 (by decide) _).mono ?_
    rintro e w1 ⟨rfl, hb⟩
    obtain ⟨hd, hfz⟩ := box_after hb
    have d0 := hd 0 _ rfl
    have d1 := hd 1 _ rfl
    have z0 := hfz 0
    have z1 := hfz 1
    clear hd hfz
    have hb4 : Below w.heap.size w w1 := Below.chain (Below.alc (Below.refl _ _) _) hb
    clear hb
    generalize dkS (dkG 1) k 128 = s at *
    generalize dkM k 128 = m at *
    go_wp2_with fail
    refine (l9Cut_c s (m) (by omega) (by omega) (by omega) _).mono ?_
    rintro e w2 ⟨rfl, hb5⟩
    have e0 := cell_later hb5 d0
    have e1 := cell_later hb5 d1
    have f0 := hb5.frozen (p := ⟨w.heap.size, 0, none⟩) (World.block_lt_of_cell? _ _ d0) |>.trans z0
    have f1 := hb5.frozen (p := ⟨w.heap.size, 1, none⟩) (World.block_lt_of_cell? _ _ d1) |>.trans z1
    have hb6 := Below.chain hb4 hb5
    obtain ⟨u0, u1, hb7⟩ := two_set (.int .i64 (fracN s (m))) (.int .i64 (fracD s (m))) e0 e1 hb6 (Nat.le_refl _)
    clear hb4 hb5 d0 d1 z0 z1 hb6
    unfold fracV at HF ⊢
    go_wp2
    clear e0 e1 f0 f1
    generalize (World.setCell (World.setCell w2 _ _) _ _) = w3 at *
    refine bodyPost_ret (v := dkV 1 1 k) (by rw [HF.out]; simp [results, Tryz.results9, go_sem, u0, u1]) rfl ⟨rfl, hb7⟩
theorem sChanceHarmless_c (k : Int) (w : World) : Calls Tryz.prog 11 #[.int .i64 k] w fun e w' => e = .returned (dkV 3 1 k) ∧ Below w.heap.size w w' := by
  rcases hc : dkOk k with _ | _
  · have HC := Lib.hid (show inB k 0 7 = false from hc)
    have HF := Lib.hid (show dkV 3 1 k = .tuple #[.agg #[.int .i64 0, .int .i64 0], .bool false] by simp [dkV, hc]); clear hc
    have hb := Below.refl (w.alloc (.cells #[.int .i64 0, .int .i64 0] 25)).heap.size (w.alloc (.cells #[.int .i64 0, .int .i64 0] 25))
    go_enter Tryz.func11, Tryz.ntmps11
    go_wp2_with fail
    refine (l1In_c k 0 7 _).mono ?_
    rintro e w1 ⟨rfl, rfl⟩
    rw [HC.out]
    obtain ⟨hd, hfz⟩ := box_after hb
    have d0 := hd 0 _ rfl
    have d1 := hd 1 _ rfl
    have z0 := hfz 0
    have z1 := hfz 1
    clear hd hfz
    have hb4 : Below w.heap.size w (w.alloc (.cells #[.int .i64 0, .int .i64 0] 25)) := Below.chain (Below.alc (Below.refl _ _) _) hb
    clear hb
    go_wp2
    refine bodyPost_ret (v := dkV 3 1 k) (by rw [HF.out]; simp [results, Tryz.results11, go_sem, d0, d1]) rfl ⟨rfl, by (repeat (first | exact Below.refl _ _ | exact (Below.refl _ _).drew | assumption | exact below_one _ | refine Below.chain ?_ (by assumption) | refine Below.drew ?_ | refine Below.alc ?_ _ | refine below_drewN ?_ | (refine Below.setCell ?_ ?_ _) | exact Nat.le_refl _ | (simp; done) | (simp; omega)))⟩
  · have HC := Lib.hid (show inB k 0 7 = true from hc)
    have HF := Lib.hid (show dkV 3 1 k = .tuple #[fracV (dkS (dkG 3) k 128) (dkM k 128), .bool true] by simp [dkV, hc])
    have HM := dk_bounds hc
    have HS := dkS_le (dkG_le (kind := 3) (by decide)) k 128
    clear hc
    go_enter Tryz.func11, Tryz.ntmps11
    go_wp2_with fail
    refine (l1In_c k 0 7 _).mono ?_
    rintro e w1 ⟨rfl, rfl⟩
    rw [HC.out]
    go_wp2_with fail
    refine (l9Dark_c k 3 (by decide) _).mono ?_
    rintro e w1 ⟨rfl, hb⟩
    obtain ⟨hd, hfz⟩ := box_after hb
    have d0 := hd 0 _ rfl
    have d1 := hd 1 _ rfl
    have z0 := hfz 0
    have z1 := hfz 1
    clear hd hfz
    have hb4 : Below w.heap.size w w1 := Below.chain (Below.alc (Below.refl _ _) _) hb
    clear hb
    generalize dkS (dkG 3) k 128 = s at *
    generalize dkM k 128 = m at *
    go_wp2_with fail
    refine (l9Cut_c s (m) (by omega) (by omega) (by omega) _).mono ?_
    rintro e w2 ⟨rfl, hb5⟩
    have e0 := cell_later hb5 d0
    have e1 := cell_later hb5 d1
    have f0 := hb5.frozen (p := ⟨w.heap.size, 0, none⟩) (World.block_lt_of_cell? _ _ d0) |>.trans z0
    have f1 := hb5.frozen (p := ⟨w.heap.size, 1, none⟩) (World.block_lt_of_cell? _ _ d1) |>.trans z1
    have hb6 := Below.chain hb4 hb5
    obtain ⟨u0, u1, hb7⟩ := two_set (.int .i64 (fracN s (m))) (.int .i64 (fracD s (m))) e0 e1 hb6 (Nat.le_refl _)
    clear hb4 hb5 d0 d1 z0 z1 hb6
    unfold fracV at HF ⊢
    go_wp2
    clear e0 e1 f0 f1
    generalize (World.setCell (World.setCell w2 _ _) _ _) = w3 at *
    refine bodyPost_ret (v := dkV 3 1 k) (by rw [HF.out]; simp [results, Tryz.results11, go_sem, u0, u1]) rfl ⟨rfl, hb7⟩
end Go.Proofs.YtbobiiodbbcodaaGreatDoor
namespace Go.Proofs.YtbobiiodbbcodaaGreatDoor
open Go.RowKit
set_option linter.unusedVariables false
set_option maxRecDepth 100000
theorem info_Fault : (Tryz.prog.info? 30).map (fun i => (i.zero, i.size, i.bytes)) = some (some (.agg #[.int .i64 0, .int .i64 0]), 2, 16) := by kernel_rfl
theorem flat2_rep (n : Nat) : flat2 (List.replicate n (0, 0)) = List.replicate (n * 2) (.int .i64 0) := by
  induction n with
  | zero => rfl
  | succ n ih =>
    rw [List.replicate_succ, show (n + 1) * 2 = n * 2 + 1 + 1 by omega, List.replicate_succ, List.replicate_succ, ← ih]; rfl
theorem made_two (x : Value) (n : Nat) : (madeCells #[x, x] n).toList = List.replicate n x := by
  unfold madeCells
  rw [Array.toList_map, Array.toList_range]
  apply List.ext_getElem (by simp)
  intro i h1 h2
  simp only [List.getElem_map, List.getElem_range, List.getElem_replicate]
  have h : i % (#[x, x] : Array Value).size = 0 ∨ i % (#[x, x] : Array Value).size = 1 := by
    have : (#[x, x] : Array Value).size = 2 := rfl
    rw [this]; omega
  rcases h with h | h <;> rw [h] <;> rfl
theorem set_pair {fs : List (Int × Int)} {k n : Nat} (hk : k < n) {a b : Int} {w : World} {lo g cap : Nat} {e : TypeId}
    (ho : w.ownsRow lo e 2 (.slice (some ⟨g, 0, none⟩) n cap) n (flat2 (fs ++ List.replicate (n - k) (0, 0)))) (hf : fs.length = k) :
    (w.cell? ⟨g, k * 2, none⟩ = some (.int .i64 0)) ∧ ((w.setCell ⟨g, k * 2, none⟩ (.int .i64 a)).cell? ⟨g, k * 2 + 1, none⟩ = some (.int .i64 0)) ∧ w.cell? ⟨g, k * 2 + 1, none⟩ = some (.int .i64 0) ∧ w.frozen? ⟨g, k * 2, none⟩ = false ∧ (w.setCell ⟨g, k * 2, none⟩ (.int .i64 a)).frozen? ⟨g, k * 2 + 1, none⟩ = false ∧ w.frozen? ⟨g, k * 2 + 1, none⟩ = false ∧
      ((w.setCell ⟨g, k * 2, none⟩ (.int .i64 a)).setCell ⟨g, k * 2 + 1, none⟩ (.int .i64 b)).ownsRow lo e 2 (.slice (some ⟨g, 0, none⟩) n cap) n (flat2 ((fs ++ [(a, b)]) ++ List.replicate (n - (k + 1)) (0, 0))) := by
  have h1 := ho.stored (k * 2) (.int .i64 a)
  have h2 := h1.1.stored (k * 2 + 1) (.int .i64 b)
  have hp : (fs ++ List.replicate (n - k) ((0 : Int), (0 : Int)))[k]? = some (0, 0) := by
    rw [List.getElem?_append_right (by omega), hf, Nat.sub_self, List.getElem?_replicate, if_pos (by omega)]
  have hc := flat2_at hp
  refine ⟨(ho.cellAt _ (by omega)).trans hc.1, ?_, (ho.cellAt _ (by omega)).trans hc.2, ho.frozenAt _, h1.1.frozenAt _, ho.frozenAt _, ?_⟩
  · rw [h1.1.cellAt _ (by omega), List.getElem?_set_ne (by omega)]; exact hc.2
  · have e2 : ((flat2 (fs ++ List.replicate (n - k) (0, 0))).set (k * 2) (.int .i64 a)).set (k * 2 + 1) (.int .i64 b) = flat2 ((fs ++ [(a, b)]) ++ List.replicate (n - (k + 1)) (0, 0)) := by
      rw [show n - k = (n - (k + 1)) + 1 by omega, List.replicate_succ, flat2_append, flat2_append, flat2_snoc]
      have e3 : flat2 (((0 : Int), (0 : Int)) :: List.replicate (n - (k + 1)) (0, 0)) = .int .i64 0 :: .int .i64 0 :: flat2 (List.replicate (n - (k + 1)) (0, 0)) := rfl
      rw [e3, set_two _ _ _ _ _ _ (by rw [flat2_length, hf])]; simp
    rw [← e2]; exact h2.1
end Go.Proofs.YtbobiiodbbcodaaGreatDoor
namespace Go.Proofs.YtbobiiodbbcodaaGreatDoor
open Go.RowKit
set_option linter.unusedVariables false
set_option maxRecDepth 100000
def shownTo (fs : List (Int × Int)) (r : List Int) (k : Nat) : List Int := ((fs.zip r).take k).map fun p => shC p.1.1 p.1.2 p.2
theorem shownTo_le (fs : List (Int × Int)) (r : List Int) (k : Nat) : (shownTo fs r k).length ≤ k := by simp [shownTo, List.length_take]; omega
theorem shownTo_succ {fs : List (Int × Int)} {r : List Int} {k : Nat} {f : Int × Int} {c : Int} (hf : fs[k]? = some f) (hc : r[k]? = some c) : shownTo fs r (k + 1) = shownTo fs r k ++ [shC f.1 f.2 c] := by
  have h : (fs.zip r)[k]? = some (f, c) := by rw [List.getElem?_zip_eq_some]; exact ⟨hf, hc⟩
  unfold shownTo
  rw [take_snoc h]; simp
def srL (fs : List (Int × Int)) (r : List Int) : List Int := if areB fs r then shownTo fs r r.length else []
theorem srL_le (fs : List (Int × Int)) (r : List Int) : (srL fs r).length ≤ 6 := by
  unfold srL; split
  · rename_i h; exact Nat.le_trans (shownTo_le _ _ _) (rowB_le (areB_row h))
  · simp
/-- the post of a text that returns a slice of ints of the call's own and a bool -/
def IntsPost (w : World) (L : List Int) (b : Bool) (e : Ending) (w' : World) : Prop :=
  ∃ u, e = .returned (.tuple #[u, .bool b]) ∧ w'.ownsRow w.heap.size 3 1 u L.length (L.map (Value.int .i64)) ∧ Below w.heap.size w w'
theorem IntsPost.mk' {w w' : World} {L L' : List Int} {b b' : Bool} {u : Value} (hL : L = L') (hbb : b = b') (ho : w'.ownsRow w.heap.size 3 1 u L'.length (L'.map (Value.int .i64))) (hb : Below w.heap.size w w') : IntsPost w L b (.returned (.tuple #[u, .bool b'])) w' := by
  subst hL hbb; exact ⟨u, rfl, ho, hb⟩
end Go.Proofs.YtbobiiodbbcodaaGreatDoor
namespace Go.Proofs.YtbobiiodbbcodaaGreatDoor
open Go.RowKit
set_option linter.unusedVariables false
set_option maxRecDepth 100000
theorem headD_of {xs : List Int} {x d : Int} (h : xs[0]? = some x) : xs.headD d = x := by cases xs <;> simp_all
theorem grpL_pos {d l : Int} {k : Nat} {xs : List Int} (h : (grpL d l)[k]? = some xs) : 0 < xs.length := by
  have hm := List.mem_of_getElem? h
  unfold grpL grpTo at hm
  simp only [List.mem_map, List.mem_filter] at hm
  obtain ⟨x, ⟨hx, _⟩, rfl⟩ := hm
  obtain ⟨n, hn, hxn⟩ := List.getElem_of_mem hx
  have hn10 : n < 10 := by rw [List.length_take] at hn; omega
  rw [List.getElem_take] at hxn
  have hx2 : x = (n : Int) := by
    have := tenI_at hn10
    rw [List.getElem?_eq_getElem (by simp [tenI]; omega), hxn] at this
    simpa using this
  subst hx2
  have h0 := grpOf_head (d := d) (l := l) hn10
  exact (List.getElem?_eq_some_iff.1 h0).1
def toldTo (xss : List (List Int)) (k : Nat) : List Int := ((xss.take k).filter fun xs => xs.length == 1).map fun xs => xs.headD 0
theorem toldTo_succ {xss : List (List Int)} {k : Nat} {xs : List Int} (h : xss[k]? = some xs) : toldTo xss (k + 1) = toldTo xss k ++ if xs.length == 1 then [xs.headD 0] else [] := by
  unfold toldTo
  rw [take_snoc h, List.filter_append, List.map_append]
  cases hq : xs.length == 1 <;> simp [hq]
theorem toldTo_len (xss : List (List Int)) (k : Nat) : (toldTo xss k).length = dkI 2 xss k := by
  unfold toldTo dkI; rw [List.length_map]; congr 2
theorem toldTo_le (xss : List (List Int)) (k : Nat) : (toldTo xss k).length ≤ xss.length := by rw [toldTo_len]; exact dkI_le _ _ _
def tdL (d l : Int) : List Int := if faultB d l then toldTo (grpL d l) (grpL d l).length else []
theorem tdL_le (d l : Int) : (tdL d l).length ≤ 10 := by
  unfold tdL; split
  · exact Nat.le_trans (toldTo_le _ _) (grpTo_le _ _ _)
  · simp
theorem ToldDigits_c (d l : Int) (w : World) : Calls Tryz.prog 31 #[.agg #[.int .i64 d, .int .i64 l]] w (IntsPost w (tdL d l) (faultB d l)) := by
  obtain ⟨i, hi, hz0, hz1, hz2⟩ := info_parts info_int
  rcases ha : faultB d l with _ | _
  · have HL := Lib.hid (show tdL d l = [] by simp [tdL, ha])
    have HA := Lib.hid ha; clear ha
    go_enter Tryz.func31, Tryz.ntmps31
    go_wp2_with fail
    refine (IsFault_c d l _).mono ?_
    rintro e w1 ⟨rfl, hb1⟩
    rw [HA.out]
    go_wp2
    go_ret2
    exact IntsPost.mk' HL.out rfl (World.ownsRow_nil _ _ _ _) (Below.chain (below_one _) hb1)
  · have HL := Lib.hid (show tdL d l = toldTo (grpL d l) (grpL d l).length by simp [tdL, ha])
    have bd := faultB_true ha
    have HA := Lib.hid ha; clear ha
    go_enter Tryz.func31, Tryz.ntmps31
    go_wp2_with fail
    refine (IsFault_c d l _).mono ?_
    rintro e w1 ⟨rfl, hb1⟩
    rw [HA.out]
    have q0 := (box_after hb1).1 0 _ rfl
    have q1 := (box_after hb1).1 1 _ rfl
    have hb2 := Below.chain (below_one _) hb1
    clear hb1
    go_wp2_with fail
    refine (groups_c d l _ bd.1 bd.2.1 bd.2.2.1 bd.2.2.2.1).mono ?_
    rintro e w2 ⟨u, rfl, ho, hb3⟩
    have hb4 := Below.chain hb2 hb3
    have sz2 := hb4.size
    clear hb3 hb2 q0 q1
    have h10 : (grpL d l).length ≤ 10 := grpTo_le _ _ _
    have HN : Hid (∀ (k : Nat) (xs : List Int), (grpL d l)[k]? = some xs → 0 < xs.length) := fun k xs h => grpL_pos h
    generalize grpL d l = xss at *
    obtain ⟨a, c, rfl, hxl, HC⟩ := ho.parts
    clear ho
    go_wp2
    go_loopw [4, 6, 13] (fun o _ j wr => ∃ k : Nat, k ≤ xss.length ∧ j = .int .i64 (k : Int) ∧ wr.ownsRow w2.heap.size 3 1 o (toldTo xss k).length ((toldTo xss k).map (Value.int .i64)) ∧ Below w.heap.size w wr ∧ Below w2.heap.size w2 wr) (fun _ _ j _ => xss.length - (intOf j).toNat)
    case atStart => exact ⟨0, by omega, rfl, World.ownsRow_nil _ _ _ _, hb4, Below.refl _ _⟩
    case round =>
      obtain ⟨k, hk, rfl, ho, hb, hb5⟩ := hrel
      clear hb4
      by_cases hlt : k < xss.length
      · have hd : decide ((k : Int) < (xss.length : Int)) = true := by simp; omega
        obtain ⟨xs, hx⟩ := elem_at hlt
        obtain ⟨b, off, a', c', rfl, f0, hxsl, hI⟩ := HC.out k xs hx.out
        have hpos := HN.out k xs hx.out
        obtain ⟨a2, c2, he, _, _, HI⟩ := hI.parts
        obtain ⟨x0, hx0⟩ := elem_at hpos
        obtain ⟨b3, o3, e3, f1⟩ := HI.out 0 _ hx0.out
        have hhd : xs.headD 0 = x0 := headD_of hx0.out
        injection he with he1 he2 he3
        subst he1 e3
        have g0 := cell_later hb5 f0
        have g1 := cell_later hb5 f1
        simp only [Nat.add_zero] at g1
        have hS := toldTo_succ hx.out
        have hle := toldTo_le xss k
        rw [hhd] at hS
        generalize toldTo xss k = cur at *
        have HS := Lib.hid hS; clear hS f0 f1 hI HI hhd hx hx0
        rcases hq : xs.length == 1 with _ | _
        · have hq1 : decide ((xs.length : Int) = 1) = false := by simp at hq ⊢; omega
          have HS2 := Lib.hid (show toldTo xss (k + 1) = cur by rw [HS.out, hq]; simp)
          clear HS
          go_wp2
          go_roundw
          case rel => exact ⟨k + 1, by omega, by go_num, by rw [HS2.out]; exact ho, hb, hb5⟩
          case measure => simp [intOf]; omega
        · have hq1 : decide ((xs.length : Int) = 1) = true := by simp at hq ⊢; omega
          have HS2 := Lib.hid (show toldTo xss (k + 1) = cur ++ [x0] by rw [HS.out, hq]; simp)
          clear HS
          go_wp2_with (at_builtin; refine wpList_append_own_at _ rfl _ _ 39 rfl w2.heap.size 3 i (.int .i64 0) 1 8 Tryz.underlying39 hi hz0 hz1 hz2 rfl (by decide) _ cur.length (cur.map (Value.int .i64)) rfl (ho.alloc _) ⟨wr.heap.size, 0, none⟩ 1 1 [.int .i64 x0] rfl rfl (news_new _ [.int .i64 x0] _) (by simp [Value.oneCell']) (by unfold maxLen; omega) (by omega) (by have := hb5.size; simp; omega) ?_)
          intro v' w3 ho5 hg5 _ _
          have hb7 : Below w.heap.size w w3 := (Below.alc hb _).grown hg5 (by have := hb.size; simp; omega) (fun g hg => Nat.le_trans sz2 (ho.lt g hg).1)
          have hb8 : Below w2.heap.size w2 w3 := (Below.alc hb5 _).grown hg5 (by have := hb5.size; simp; omega) (fun g hg => (ho.lt g hg).1)
          clear ho hb hb5 hg5
          go_wp2
          go_roundw
          case rel => exact ⟨k + 1, by omega, by go_num, by rw [HS2.out]; exact ownsRow_cast ho5 (by simp) (by simp), hb7, hb8⟩
          case measure => simp [intOf]; omega
      · obtain rfl : k = xss.length := by omega
        go_wp2
        go_ret2
        exact IntsPost.mk' HL.out rfl (own_lo ho sz2) hb
end Go.Proofs.YtbobiiodbbcodaaGreatDoor
namespace Go.Proofs.YtbobiiodbbcodaaGreatDoor
open Go.RowKit
set_option linter.unusedVariables false
set_option maxRecDepth 100000
theorem ChanceTold1_c (d : Nat) (w : World) (hd : d < 128) : Calls Tryz.prog 30 #[.agg #[.int .i64 (d : Int), .int .i64 0]] w fun e w' => e = .returned (.int .i64 (dkG 2 d : Nat)) ∧ Below w.heap.size w w' := by
  have hf : faultB (d : Int) 0 = true := by
    unfold faultB cellB
    rw [inB_mk (by omega) (by omega)]
    simp [andC, inB]
  have hG : dkG 2 d = (tdL (d : Int) 0).length := by
    unfold tdL dkG; rw [hf, if_pos rfl, toldTo_len]; simp
  rw [hG]; clear hG hf
  have q0 : (w.alloc (.cells #[.int .i64 (d : Int), .int .i64 0] 30)).cell? ⟨w.heap.size, 0, none⟩ = some (.int .i64 (d : Int)) := by rw [World.cell?_alloc_at _ _ _ _ rfl]; rfl
  have q1 : (w.alloc (.cells #[.int .i64 (d : Int), .int .i64 0] 30)).cell? ⟨w.heap.size, 1, none⟩ = some (.int .i64 0) := by rw [World.cell?_alloc_at _ _ _ _ rfl]; rfl
  go_enter Tryz.func30, Tryz.ntmps30
  go_wp2_with fail
  refine (ToldDigits_c (d : Int) 0 _).mono ?_
  rintro e w1 ⟨u, rfl, ho, hb⟩
  obtain ⟨a, c, rfl, _⟩ := (Sl.of_own ho).slice
  go_wp2
  go_ret
  exact ⟨rfl, by (repeat (first | exact Below.refl _ _ | exact (Below.refl _ _).drew | assumption | exact below_one _ | refine Below.chain ?_ (by assumption) | refine Below.drew ?_ | refine Below.alc ?_ _ | refine below_drewN ?_ | (refine Below.setCell ?_ ?_ _) | exact Nat.le_refl _ | (simp; done) | (simp; omega)))⟩
theorem ChanceTold_c (k : Int) (w : World) : Calls Tryz.prog 6 #[.int .i64 k] w fun e w' => e = .returned (dkV 2 10 k) ∧ Below w.heap.size w w' := by
  have hcl : CallsIt 30 := fun bs w => by kernel_rfl
  rcases hc : dkOk k with _ | _
  · have HC := Lib.hid (show inB k 0 7 = false from hc)
    have HF := Lib.hid (show dkV 2 10 k = .tuple #[.agg #[.int .i64 0, .int .i64 0], .bool false] by simp [dkV, hc]); clear hc
    go_enter Tryz.func6, Tryz.ntmps6
    go_wp2_with fail
    refine (overDark_c k _ (dkG 2) _ (dkG_le (by decide)) hcl (fun d w' hd => ChanceTold1_c d w' hd)).mono ?_
    rintro e w1 ⟨rfl, hb⟩
    rw [HC.out]
    obtain ⟨hd, hfz⟩ := box_after hb
    have d0 := hd 0 _ rfl
    have d1 := hd 1 _ rfl
    have z0 := hfz 0
    have z1 := hfz 1
    clear hd hfz
    have hb4 : Below w.heap.size w w1 := Below.chain (Below.alc (Below.refl _ _) _) hb
    clear hb
    go_wp2
    refine bodyPost_ret (v := dkV 2 10 k) (by rw [HF.out]; simp [results, Tryz.results6, go_sem, d0, d1]) rfl ⟨rfl, by (repeat (first | exact Below.refl _ _ | exact (Below.refl _ _).drew | assumption | exact below_one _ | refine Below.chain ?_ (by assumption) | refine Below.drew ?_ | refine Below.alc ?_ _ | refine below_drewN ?_ | (refine Below.setCell ?_ ?_ _) | exact Nat.le_refl _ | (simp; done) | (simp; omega)))⟩
  · have HC := Lib.hid (show inB k 0 7 = true from hc)
    have HF := Lib.hid (show dkV 2 10 k = .tuple #[fracV (dkS (dkG 2) k 128) (10 * dkM k 128), .bool true] by simp [dkV, hc])
    have HM := dk_bounds hc
    have HS := dkS_le (dkG_le (kind := 2) (by decide)) k 128
    clear hc
    go_enter Tryz.func6, Tryz.ntmps6
    go_wp2_with fail
    refine (overDark_c k _ (dkG 2) _ (dkG_le (by decide)) hcl (fun d w' hd => ChanceTold1_c d w' hd)).mono ?_
    rintro e w1 ⟨rfl, hb⟩
    rw [HC.out]
    obtain ⟨hd, hfz⟩ := box_after hb
    have d0 := hd 0 _ rfl
    have d1 := hd 1 _ rfl
    have z0 := hfz 0
    have z1 := hfz 1
    clear hd hfz
    have hb4 : Below w.heap.size w w1 := Below.chain (Below.alc (Below.refl _ _) _) hb
    clear hb
    generalize dkS (dkG 2) k 128 = s at *
    generalize dkM k 128 = m at *
    have hw : wrap64 (10 * (m : Int)) = ((10 * m : Nat) : Int) := by simp only [wrap64]; omega
    go_wp2_with fail
    refine (fraction_c s (10 * m) (by omega) (by omega) (by omega) _).mono ?_
    rintro e w2 ⟨rfl, hb5⟩
    have e0 := cell_later hb5 d0
    have e1 := cell_later hb5 d1
    have f0 := hb5.frozen (p := ⟨w.heap.size, 0, none⟩) (World.block_lt_of_cell? _ _ d0) |>.trans z0
    have f1 := hb5.frozen (p := ⟨w.heap.size, 1, none⟩) (World.block_lt_of_cell? _ _ d1) |>.trans z1
    have hb6 := Below.chain hb4 hb5
    obtain ⟨u0, u1, hb7⟩ := two_set (.int .i64 (fracN s (10 * m))) (.int .i64 (fracD s (10 * m))) e0 e1 hb6 (Nat.le_refl _)
    clear hb4 hb5 d0 d1 z0 z1 hb6
    unfold fracV at HF ⊢
    go_wp2
    clear e0 e1 f0 f1
    generalize (World.setCell (World.setCell w2 _ _) _ _) = w3 at *
    refine bodyPost_ret (v := dkV 2 10 k) (by rw [HF.out]; simp [results, Tryz.results6, go_sem, u0, u1]) rfl ⟨rfl, hb7⟩
theorem sChanceTold_c (k : Int) (w : World) : Calls Tryz.prog 7 #[.int .i64 k] w fun e w' => e = .returned (dkV 2 10 k) ∧ Below w.heap.size w w' := by
  rcases hc : dkOk k with _ | _
  · have HC := Lib.hid (show inB k 0 7 = false from hc)
    have HF := Lib.hid (show dkV 2 10 k = .tuple #[.agg #[.int .i64 0, .int .i64 0], .bool false] by simp [dkV, hc]); clear hc
    have hb := Below.refl (w.alloc (.cells #[.int .i64 0, .int .i64 0] 25)).heap.size (w.alloc (.cells #[.int .i64 0, .int .i64 0] 25))
    go_enter Tryz.func7, Tryz.ntmps7
    go_wp2_with fail
    refine (l1In_c k 0 7 _).mono ?_
    rintro e w1 ⟨rfl, rfl⟩
    rw [HC.out]
    obtain ⟨hd, hfz⟩ := box_after hb
    have d0 := hd 0 _ rfl
    have d1 := hd 1 _ rfl
    have z0 := hfz 0
    have z1 := hfz 1
    clear hd hfz
    have hb4 : Below w.heap.size w (w.alloc (.cells #[.int .i64 0, .int .i64 0] 25)) := Below.chain (Below.alc (Below.refl _ _) _) hb
    clear hb
    go_wp2
    refine bodyPost_ret (v := dkV 2 10 k) (by rw [HF.out]; simp [results, Tryz.results7, go_sem, d0, d1]) rfl ⟨rfl, by (repeat (first | exact Below.refl _ _ | exact (Below.refl _ _).drew | assumption | exact below_one _ | refine Below.chain ?_ (by assumption) | refine Below.drew ?_ | refine Below.alc ?_ _ | refine below_drewN ?_ | (refine Below.setCell ?_ ?_ _) | exact Nat.le_refl _ | (simp; done) | (simp; omega)))⟩
  · have HC := Lib.hid (show inB k 0 7 = true from hc)
    have HF := Lib.hid (show dkV 2 10 k = .tuple #[fracV (dkS (dkG 2) k 128) (10 * dkM k 128), .bool true] by simp [dkV, hc])
    have HM := dk_bounds hc
    have HS := dkS_le (dkG_le (kind := 2) (by decide)) k 128
    clear hc
    go_enter Tryz.func7, Tryz.ntmps7
    go_wp2_with fail
    refine (l1In_c k 0 7 _).mono ?_
    rintro e w1 ⟨rfl, rfl⟩
    rw [HC.out]
    go_wp2_with fail
    refine (l9Dark_c k 2 (by decide) _).mono ?_
    rintro e w1 ⟨rfl, hb⟩
    obtain ⟨hd, hfz⟩ := box_after hb
    have d0 := hd 0 _ rfl
    have d1 := hd 1 _ rfl
    have z0 := hfz 0
    have z1 := hfz 1
    clear hd hfz
    have hb4 : Below w.heap.size w w1 := Below.chain (Below.alc (Below.refl _ _) _) hb
    clear hb
    generalize dkS (dkG 2) k 128 = s at *
    generalize dkM k 128 = m at *
    have hw : wrap64 (10 * (m : Int)) = ((10 * m : Nat) : Int) := by simp only [wrap64]; omega
    go_wp2_with fail
    refine (l9Cut_c s (10 * m) (by omega) (by omega) (by omega) _).mono ?_
    rintro e w2 ⟨rfl, hb5⟩
    have e0 := cell_later hb5 d0
    have e1 := cell_later hb5 d1
    have f0 := hb5.frozen (p := ⟨w.heap.size, 0, none⟩) (World.block_lt_of_cell? _ _ d0) |>.trans z0
    have f1 := hb5.frozen (p := ⟨w.heap.size, 1, none⟩) (World.block_lt_of_cell? _ _ d1) |>.trans z1
    have hb6 := Below.chain hb4 hb5
    obtain ⟨u0, u1, hb7⟩ := two_set (.int .i64 (fracN s (10 * m))) (.int .i64 (fracD s (10 * m))) e0 e1 hb6 (Nat.le_refl _)
    clear hb4 hb5 d0 d1 z0 z1 hb6
    unfold fracV at HF ⊢
    go_wp2
    clear e0 e1 f0 f1
    generalize (World.setCell (World.setCell w2 _ _) _ _) = w3 at *
    refine bodyPost_ret (v := dkV 2 10 k) (by rw [HF.out]; simp [results, Tryz.results7, go_sem, u0, u1]) rfl ⟨rfl, hb7⟩
end Go.Proofs.YtbobiiodbbcodaaGreatDoor
