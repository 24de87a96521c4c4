/- Texts of this claim, gathered: Chg. -/
import Derived.Test.YtfbnmkpkihfocaaGreatK3
namespace Go.Proofs.YtfbnmkpkihfocaaGreat
open Go.RowKit
set_option linter.unusedVariables false
set_option linter.unusedSimpArgs false
set_option maxRecDepth 100000
/-- how many bars two digits differ in -/
def frI (x y : Int) : Int := cnt (((dg x).toNat ^^^ (dg y).toNat : Nat) : Int)
theorem xor_all : ∀ x y : Fin 10, bits .xor .i64 (dg (x.1 : Int)) (dg (y.1 : Int)) = (((dg (x.1 : Int)).toNat ^^^ (dg (y.1 : Int)).toNat : Nat) : Int) ∧ (((dg (x.1 : Int)).toNat ^^^ (dg (y.1 : Int)).toNat : Nat) : Int) ≤ 127 := by decide +kernel
theorem fr_all : ∀ x y : Fin 10, 0 ≤ frI (x.1 : Int) (y.1 : Int) ∧ frI (x.1 : Int) (y.1 : Int) ≤ 7 := by decide +kernel
theorem xor_dg {x y : Int} (x0 : 0 ≤ x) (x1 : x ≤ 9) (y0 : 0 ≤ y) (y1 : y ≤ 9) : ∃ z : Int, bits .xor .i64 (dg x) (dg y) = z ∧ 0 ≤ z ∧ z ≤ 127 ∧ cnt z = frI x y := by
  obtain ⟨a, rfl⟩ := Int.eq_ofNat_of_zero_le x0
  obtain ⟨b, rfl⟩ := Int.eq_ofNat_of_zero_le y0
  have h := xor_all ⟨a, by omega⟩ ⟨b, by omega⟩
  exact ⟨_, h.1, by omega, h.2, rfl⟩
theorem fr_bd {x y : Int} (x0 : 0 ≤ x) (x1 : x ≤ 9) (y0 : 0 ≤ y) (y1 : y ≤ 9) : 0 ≤ frI x y ∧ frI x y ≤ 7 := by
  obtain ⟨a, rfl⟩ := Int.eq_ofNat_of_zero_le x0
  obtain ⟨b, rfl⟩ := Int.eq_ofNat_of_zero_le y0
  exact fr_all ⟨a, by omega⟩ ⟨b, by omega⟩
/-- the changes of the first so many steps -/
def chTo (xs : List Int) (n : Nat) : Int := (List.range n).foldl (fun s k => s + frI (xs.getD k 0) (xs.getD (k + 1) 0)) 0
def chL (xs : List Int) : Int := chTo xs (xs.length - 1)
theorem chTo_succ (xs : List Int) (n : Nat) : chTo xs (n + 1) = chTo xs n + frI (xs.getD n 0) (xs.getD (n + 1) 0) := by unfold chTo; rw [List.range_succ, List.foldl_append]; rfl
theorem chTo_bd {xs : List Int} (h : ∀ x ∈ xs, 0 ≤ x ∧ x ≤ 9) : ∀ n, n < xs.length → 0 ≤ chTo xs n ∧ chTo xs n ≤ 7 * n
  | 0, _ => ⟨Int.le_refl _, Int.le_refl _⟩
  | n + 1, hn => by
    have ih := chTo_bd h n (by omega)
    rw [chTo_succ]
    have hx : ∀ k, k < xs.length → 0 ≤ xs.getD k 0 ∧ xs.getD k 0 ≤ 9 := fun k hk => by
      have e : xs.getD k 0 = xs[k] := by simp [hk]
      rw [e]; exact h _ (List.getElem_mem hk)
    have h1 := hx n (by omega)
    have h2 := hx (n + 1) hn
    have := fr_bd h1.1 h1.2 h2.1 h2.2
    omega
theorem chL_bd {xs : List Int} (h : ∀ x ∈ xs, 0 ≤ x ∧ x ≤ 9) (hn : xs.length ≤ 10) : 0 ≤ chL xs ∧ chL xs ≤ 70 := by
  unfold chL
  by_cases hz : xs.length = 0
  · rw [hz]; exact ⟨Int.le_refl _, show (0 : Int) ≤ 70 by omega⟩
  · have := chTo_bd h (xs.length - 1) (by omega)
    omega
/-- the table as it grows -/
def tabTo (n : Nat) : List Int := (List.range 100).map fun i => if i < n then frI ((i / 10 : Nat) : Int) ((i % 10 : Nat) : Int) else 0
theorem tabTo_len (n : Nat) : (tabTo n).length = 100 := by simp [tabTo]
theorem tabTo_get {n i : Nat} (h : i < 100) : (tabTo n)[i]? = some (if i < n then frI ((i / 10 : Nat) : Int) ((i % 10 : Nat) : Int) else 0) := by
  unfold tabTo; rw [List.getElem?_map, List.getElem?_range h]; rfl
theorem tabTo_succ {a b : Nat} (ha : a < 10) (hb : b < 10) : (tabTo (a * 10 + b)).set (a * 10 + b) (frI (a : Int) (b : Int)) = tabTo (a * 10 + b + 1) := by
  apply List.ext_getElem?
  intro i
  by_cases hi : i < 100
  · rw [List.getElem?_set, tabTo_get hi, tabTo_get hi]
    by_cases he : a * 10 + b = i
    · rw [if_pos he, if_pos (by rw [tabTo_len]; omega), if_pos (by omega), ← he]
      rw [show (a * 10 + b) / 10 = a by omega, show (a * 10 + b) % 10 = b by omega]
    · rw [if_neg he]
      by_cases hl : i < a * 10 + b
      · rw [if_pos hl, if_pos (by omega)]
      · rw [if_neg hl, if_neg (by omega)]
  · rw [List.getElem?_eq_none (by rw [List.length_set, tabTo_len]; omega), List.getElem?_eq_none (by rw [tabTo_len]; omega)]
def tabV : Value := .agg (ints (tabTo 100)).toArray
def z100 : Array Value := Array.replicate 100 (.int .i64 0)
theorem tab_zero : (ints (tabTo 0)).toArray = z100 := rfl
theorem info_tab : (Tryz.prog.info? 88).map (fun i => i.size) = some 100 := by kernel_rfl
theorem l2Far_c (x y : Int) (x0 : 0 ≤ x) (x1 : x ≤ 9) (y0 : 0 ≤ y) (y1 : y ≤ 9) (w : World) : Calls Tryz.prog 76 #[.int .i64 (dg x), .int .i64 (dg y)] w fun e w' => e = .returned (.int .i64 (frI x y)) ∧ w = w' := by
  obtain ⟨z, hz, z0, z1, hc⟩ := xor_dg x0 x1 y0 y1
  have HC := Lib.hid (fun w => l2Count_c z z0 z1 w)
  rw [hc] at HC
  generalize dg x = dx at *
  generalize dg y = dy at *
  clear hc
  go_enter Tryz.func76, Tryz.ntmps76
  go_wp2_with fail
  refine (HC.out _).mono ?_
  rintro e _ ⟨rfl, rfl⟩
  go_wp2
  go_ret
  exact ⟨rfl, rfl⟩
set_option maxHeartbeats 2000000 in
theorem l7Changes_c (v : Value) (xs : List Int) (w : World) (hv : Ints w v xs) (hd : ∀ x ∈ xs, 0 ≤ x ∧ x ≤ 9) (hn : xs.length ≤ 10) :
    Calls Tryz.prog 57 #[v] w fun e w' => e = .returned (.int .i64 (chL xs)) ∧ Below w.heap.size w w' := by
  have HV := Lib.hid hv
  have HD := Lib.hid hd
  obtain ⟨a, c, rfl, _, _, _⟩ := hv.parts
  clear hv hd
  go_enter Tryz.func57, Tryz.ntmps57
  go_wp2
  go_loopw [3, 4] (fun s j wr => ∃ m : Nat, (m < xs.length ∨ m = 0) ∧ j = .int .i64 ((m : Int) + 1) ∧ s = .int .i64 (chTo xs m) ∧ Below w.heap.size w wr) (fun _ j _ => 11 - (intOf j).toNat)
  case atStart => exact ⟨0, Or.inr rfl, rfl, rfl, Below.refl _ _⟩
  case round =>
    obtain ⟨m, hk, rfl, rfl, hb⟩ := hrel
    by_cases hlt : m + 1 < xs.length
    · have hdd : decide ((m : Int) + 1 < (xs.length : Int)) = true := by simp; omega
      obtain ⟨x, hx⟩ := elem_at (show m < xs.length by omega)
      obtain ⟨y, hy⟩ := elem_at hlt
      obtain ⟨_, _, he, _, _, H2⟩ := (HV.out.below hb).parts
      simp only [Value.slice.injEq, true_and] at he
      obtain ⟨rfl, rfl⟩ := he
      obtain ⟨b, off, rfl, f1⟩ := H2.out m x hx.out
      obtain ⟨b2, off2, he2, f2⟩ := H2.out (m + 1) y hy.out
      cases he2
      obtain ⟨x0, x1⟩ := HD.out x (List.mem_of_getElem? hx.out)
      obtain ⟨y0, y1⟩ := HD.out y (List.mem_of_getElem? hy.out)
      have hfb := fr_bd x0 x1 y0 y1
      have hcb := chTo_bd HD.out m (by omega)
      have HS : Hid (chTo xs (m + 1) = chTo xs m + frI x y) := by
        show _ = _
        rw [chTo_succ]
        rw [show xs.getD m 0 = x by rw [List.getD_eq_getElem?_getD, hx.out]; rfl, show xs.getD (m + 1) 0 = y by rw [List.getD_eq_getElem?_getD, hy.out]; rfl]
      have HF := Lib.hid (fun w => l2Far_c x y x0 x1 y0 y1 w)
      have HX := Lib.hid (fun w => l2Digit_c x x0 x1 w)
      have HY := Lib.hid (fun w => l2Digit_c y y0 y1 w)
      have n1 : (m : Int) + 1 - 1 = (m : Int) := by omega
      have hmlt : m < xs.length := by omega
      have hwm : IntKind.i64.wrap (m : Int) = (m : Int) := IntWalk.i64_in _ (by omega)
      have hwm1 : IntKind.i64.wrap ((m : Int) + 1) = (m : Int) + 1 := IntWalk.i64_in _ (by omega)
      have hmd : decide ((m : Int) < (xs.length : Int)) = true := by simp; omega
      have hmd2 : decide (m < xs.length) = true := by simp; omega
      have n2 : (0 : Int) ≤ (m : Int) := by omega
      have n3 : (m : Int) < (xs.length : Int) := by omega
      have n4 : (0 : Int) ≤ (m : Int) + 1 := by omega
      have n5 : (m : Int) + 1 < (xs.length : Int) := by omega
      have n6 : ((m : Int) + 1).toNat = m + 1 := by omega
      have i1 : ∀ (cp : Nat) (w : World), (Instr.indexAt 24 (.slice (some ⟨b, off, none⟩) xs.length cp) (.int .i64 (m : Int))).run Tryz.prog w = .ok (.pointer (some ⟨b, off + m, none⟩)) w := fun cp w => by go_simp
      have i2 : ∀ (cp : Nat) (w : World), (Instr.indexAt 24 (.slice (some ⟨b, off, none⟩) xs.length cp) (.int .i64 ((m : Int) + 1))).run Tryz.prog w = .ok (.pointer (some ⟨b, off + (m + 1), none⟩)) w := fun cp w => by go_simp
      generalize hcm : chTo xs m = cm at *
      generalize hfr : frI x y = fr at *
      have hcm7 : cm ≤ 70 := by omega
      have HCM := Lib.hid hcm
      have HFR := Lib.hid hfr
      clear H2 hcm hfr hdd
      have hdd : decide ((m : Int) + 1 < (xs.length : Int)) = true := by simp; omega
      have hrh : (wr.cell? ⟨b, off + m, none⟩ = some (.int .i64 x) ∧ wr.cell? ⟨b, off + (m + 1), none⟩ = some (.int .i64 y) ∧ Below w.heap.size w wr) := ⟨f1, f2, hb⟩
      go_wp2_with fail
      refine wp_region_noPanic ?_
      refine wp_region_held_drew (S := fun w' : World => w'.cell? ⟨b, off + m, none⟩ = some (.int .i64 x) ∧ w'.cell? ⟨b, off + (m + 1), none⟩ = some (.int .i64 y) ∧ Below w.heap.size w w') (by kernel_rfl) ⟨hrh.1, hrh.2.1, hrh.2.2.drew⟩ (fun hHeld => ?_)
      refine' wpAnyH_take (i := 0) (oi := _) (v := _) ?e_1 ?a_1 ?b_1 ?c_1 ?q_1 ?y_1 hHeld ?r_1
      case e_1 => (simp only [List.getElem?_toArray, List.getElem?_cons_zero, List.getElem?_cons_succ]; exact rfl)
      case a_1 => kernel_rfl
      case b_1 => kernel_rfl
      case c_1 => kernel_rfl
      case q_1 => exact fun _ _ _ h => h
      case y_1 => exact Or.inl ⟨by rfl, by (intro w hSw; (try dsimp only at hSw); go_simp; first | done | with_reducible rfl)⟩
      try simp only [Act.put, List.setIfInBounds_toArray, List.set_cons_zero, List.set_cons_succ]
      refine' wpAnyH_take (i := 1) (oi := _) (v := _) ?e_2 ?a_2 ?b_2 ?c_2 ?q_2 ?y_2 hHeld ?r_2
      case e_2 => (simp only [List.getElem?_toArray, List.getElem?_cons_zero, List.getElem?_cons_succ]; exact rfl)
      case a_2 => kernel_rfl
      case b_2 => kernel_rfl
      case c_2 => kernel_rfl
      case q_2 => exact fun _ _ _ h => h
      case y_2 => exact Or.inl ⟨by rfl, by (intro w hSw; (try dsimp only at hSw); go_simp; first | done | with_reducible rfl)⟩
      try simp only [Act.put, List.setIfInBounds_toArray, List.set_cons_zero, List.set_cons_succ]
      refine' wpAnyH_take (i := 2) (oi := _) (v := _) ?e_3 ?a_3 ?b_3 ?c_3 ?q_3 ?y_3 hHeld ?r_3
      case e_3 => (simp only [List.getElem?_toArray, List.getElem?_cons_zero, List.getElem?_cons_succ]; exact rfl)
      case a_3 => kernel_rfl
      case b_3 => kernel_rfl
      case c_3 => kernel_rfl
      case q_3 => exact fun _ _ _ h => h
      case y_3 => exact Or.inl ⟨by rfl, by (intro w hSw; (try dsimp only at hSw); go_simp; first | done | with_reducible rfl)⟩
      try simp only [Act.put, List.setIfInBounds_toArray, List.set_cons_zero, List.set_cons_succ]
      refine' wpAnyH_take (i := 3) (oi := _) (v := _) ?e_4 ?a_4 ?b_4 ?c_4 ?q_4 ?y_4 hHeld ?r_4
      case e_4 => (simp only [List.getElem?_toArray, List.getElem?_cons_zero, List.getElem?_cons_succ]; exact rfl)
      case a_4 => kernel_rfl
      case b_4 => kernel_rfl
      case c_4 => kernel_rfl
      case q_4 => exact fun _ _ _ h => h
      case y_4 => exact Or.inl ⟨by rfl, by (intro w hSw; (try dsimp only at hSw); go_simp; first | done | with_reducible rfl)⟩
      try simp only [Act.put, List.setIfInBounds_toArray, List.set_cons_zero, List.set_cons_succ]
      refine' wpAnyH_take (i := 4) (oi := _) (v := _) ?e_5 ?a_5 ?b_5 ?c_5 ?q_5 ?y_5 hHeld ?r_5
      case e_5 => (simp only [List.getElem?_toArray, List.getElem?_cons_zero, List.getElem?_cons_succ]; exact rfl)
      case a_5 => kernel_rfl
      case b_5 => kernel_rfl
      case c_5 => kernel_rfl
      case q_5 => exact fun _ _ _ h => h
      case y_5 => exact Or.inl ⟨by rfl, by (intro w hSw; (try dsimp only at hSw); go_simp; first | done | with_reducible rfl)⟩
      try simp only [Act.put, List.setIfInBounds_toArray, List.set_cons_zero, List.set_cons_succ]
      refine' wpAnyH_take (i := 5) (oi := _) (v := _) ?e_6 ?a_6 ?b_6 ?c_6 ?q_6 ?y_6 hHeld ?r_6
      case e_6 => (simp only [List.getElem?_toArray, List.getElem?_cons_zero, List.getElem?_cons_succ]; exact rfl)
      case a_6 => kernel_rfl
      case b_6 => kernel_rfl
      case c_6 => kernel_rfl
      case q_6 => exact fun _ _ _ h => h
      case y_6 => exact Or.inl ⟨by rfl, by (intro w hSw; (try dsimp only at hSw); go_simp; first | done | with_reducible rfl)⟩
      try simp only [Act.put, List.setIfInBounds_toArray, List.set_cons_zero, List.set_cons_succ]
      refine' wpAnyH_take (i := 7) (oi := _) (v := _) ?e_7 ?a_7 ?b_7 ?c_7 ?q_7 ?y_7 hHeld ?r_7
      case e_7 => (simp only [List.getElem?_toArray, List.getElem?_cons_zero, List.getElem?_cons_succ]; exact rfl)
      case a_7 => kernel_rfl
      case b_7 => kernel_rfl
      case c_7 => kernel_rfl
      case q_7 => exact fun _ _ _ h => h
      case y_7 => exact Or.inl ⟨by rfl, by (intro w hSw; (try dsimp only at hSw); go_simp; first | done | with_reducible rfl)⟩
      try simp only [Act.put, List.setIfInBounds_toArray, List.set_cons_zero, List.set_cons_succ]
      refine' wpAnyH_take (i := 8) (oi := _) (v := _) ?e_8 ?a_8 ?b_8 ?c_8 ?q_8 ?y_8 hHeld ?r_8
      case e_8 => (simp only [List.getElem?_toArray, List.getElem?_cons_zero, List.getElem?_cons_succ]; exact rfl)
      case a_8 => kernel_rfl
      case b_8 => kernel_rfl
      case c_8 => kernel_rfl
      case q_8 => exact fun _ _ _ h => h
      case y_8 => exact Or.inl ⟨by rfl, by (intro w hSw; (try dsimp only at hSw); go_simp; first | done | with_reducible rfl)⟩
      try simp only [Act.put, List.setIfInBounds_toArray, List.set_cons_zero, List.set_cons_succ]
      refine' wpAnyH_take (i := 9) (oi := _) (v := _) ?e_9 ?a_9 ?b_9 ?c_9 ?q_9 ?y_9 hHeld ?r_9
      case e_9 => (simp only [List.getElem?_toArray, List.getElem?_cons_zero, List.getElem?_cons_succ]; exact rfl)
      case a_9 => kernel_rfl
      case b_9 => kernel_rfl
      case c_9 => kernel_rfl
      case q_9 => exact fun _ _ _ h => h
      case y_9 => exact Or.inl ⟨by rfl, by (intro w hSw; (try dsimp only at hSw); go_simp; first | done | with_reducible rfl)⟩
      try simp only [Act.put, List.setIfInBounds_toArray, List.set_cons_zero, List.set_cons_succ]
      refine' wpAnyH_take (i := 10) (oi := _) (v := _) ?e_10 ?a_10 ?b_10 ?c_10 ?q_10 ?y_10 hHeld ?r_10
      case e_10 => (simp only [List.getElem?_toArray, List.getElem?_cons_zero, List.getElem?_cons_succ]; exact rfl)
      case a_10 => kernel_rfl
      case b_10 => kernel_rfl
      case c_10 => kernel_rfl
      case q_10 => exact fun _ _ _ h => h
      case y_10 => exact Or.inl ⟨by rfl, by (intro w hSw; (try dsimp only at hSw); go_simp; first | done | with_reducible rfl)⟩
      try simp only [Act.put, List.setIfInBounds_toArray, List.set_cons_zero, List.set_cons_succ]
      refine wpAnyH_ready (rs := [6]) (by kernel_rfl) (by simp) ?_
      refine' AllReadyH.cons (o := _) ?e_11 ?st_11 AllReadyH.nil
      case e_11 => (simp only [List.getElem?_toArray, List.getElem?_cons_zero, List.getElem?_cons_succ]; exact rfl)
      intro K hK
      go_simp
      obtain ⟨hh1, hh2, hh3⟩ := hHeld
      refine (HX.out _).mono ?_
      rintro e c1 ⟨rfl, hb1⟩
      go_wp2_with fail
      refine hK.out _ _ ⟨cell_later hb1 hh1, cell_later hb1 hh2, Below.chain hh3 hb1⟩ (fun hHeld => ?_)
      clear hh1 hh2 hh3 hb1
      clear hK K
      try simp only [Act.put, List.setIfInBounds_toArray, List.set_cons_zero, List.set_cons_succ]
      refine wpAnyH_ready (rs := [11]) (by kernel_rfl) (by simp) ?_
      refine' AllReadyH.cons (o := _) ?e_12 ?st_12 AllReadyH.nil
      case e_12 => (simp only [List.getElem?_toArray, List.getElem?_cons_zero, List.getElem?_cons_succ]; exact rfl)
      intro K hK
      go_simp
      obtain ⟨hh1, hh2, hh3⟩ := hHeld
      refine (HY.out _).mono ?_
      rintro e c2 ⟨rfl, hb2⟩
      go_wp2_with fail
      refine hK.out _ _ ⟨cell_later hb2 hh1, cell_later hb2 hh2, Below.chain hh3 hb2⟩ (fun hHeld => ?_)
      clear hh1 hh2 hh3 hb2
      clear hK K
      try simp only [Act.put, List.setIfInBounds_toArray, List.set_cons_zero, List.set_cons_succ]
      refine wpAnyH_ready (rs := [12]) (by kernel_rfl) (by simp) ?_
      refine' AllReadyH.cons (o := _) ?e_13 ?st_13 AllReadyH.nil
      case e_13 => (simp only [List.getElem?_toArray, List.getElem?_cons_zero, List.getElem?_cons_succ]; exact rfl)
      intro K hK
      go_simp
      refine (HF.out _).mono ?_
      rintro e c3 ⟨rfl, rfl⟩
      go_wp2_with fail
      refine hK.out _ _ hHeld (fun hHeld => ?_)
      clear hK K
      try simp only [Act.put, List.setIfInBounds_toArray, List.set_cons_zero, List.set_cons_succ]
      refine' wpAnyH_take (i := 13) (oi := _) (v := _) ?e_14 ?a_14 ?b_14 ?c_14 ?q_14 ?y_14 hHeld ?r_14
      case e_14 => (simp only [List.getElem?_toArray, List.getElem?_cons_zero, List.getElem?_cons_succ]; exact rfl)
      case a_14 => kernel_rfl
      case b_14 => kernel_rfl
      case c_14 => kernel_rfl
      case q_14 => exact fun _ _ _ h => h
      case y_14 => exact Or.inl ⟨by rfl, by (intro w hSw; (try dsimp only at hSw); go_simp; first | done | with_reducible rfl)⟩
      try simp only [Act.put, List.setIfInBounds_toArray, List.set_cons_zero, List.set_cons_succ]
      refine' wpAnyH_take (i := 14) (oi := _) (v := _) ?e_15 ?a_15 ?b_15 ?c_15 ?q_15 ?y_15 hHeld ?r_15
      case e_15 => (simp only [List.getElem?_toArray, List.getElem?_cons_zero, List.getElem?_cons_succ]; exact rfl)
      case a_15 => kernel_rfl
      case b_15 => kernel_rfl
      case c_15 => kernel_rfl
      case q_15 => exact fun _ _ _ h => h
      case y_15 => exact Or.inl ⟨by rfl, by (intro w hSw; (try dsimp only at hSw); go_simp; first | done | with_reducible rfl)⟩
      try simp only [Act.put, List.setIfInBounds_toArray, List.set_cons_zero, List.set_cons_succ]
      refine wpAnyH_done (by kernel_rfl) ?_ _
      refine NoPanic.normal ?_
      have HB := Lib.hid hHeld.2.2
      clear hHeld hrh f1 f2 hb
      go_wp2
      go_roundw
      case rel => exact ⟨m + 1, Or.inl hlt, by go_num, by rw [HS.out]; exact int_val (IntWalk.i64_in _ (by omega)), HB.out⟩
      case measure => simp [intOf]; omega
    · have hdd : decide ((m : Int) + 1 < (xs.length : Int)) = false := by simp; omega
      have HE : Hid (chTo xs m = chL xs) := by
        show _ = _
        unfold chL
        have e : xs.length - 1 = m := by omega
        rw [e]
      go_wp2
      go_ret
      exact ⟨by rw [HE.out]; rfl, hb⟩
theorem digits_all {xs : List Int} (h : xs.all digitB = true) : ∀ x ∈ xs, 0 ≤ x ∧ x ≤ 9 := fun x hx => digitB_true (List.all_eq_true.1 h x hx)
theorem wpList_store100 {ops : Array Oper} {rest : List Oper} {op : Oper} {a : Act} {w : World} {Q : Exit → Act → World → Prop} (hw : Region.wanted op (yielded ops a.tmps) = true) (x y : Operand) (ho : op.op = .store 88 x y)
    (g : Nat) (b : List Int) (hx : a.eval x = .pointer (some ⟨g, 0, none⟩)) (hy : a.eval y = .agg (ints b).toArray) (ht : w.there g 0 100) (hb : b.length = 100)
    (h : wpList Tryz.prog ops Q rest (a.put op.dst undef) (w.setCells g 0 (ints b))) : wpList Tryz.prog ops Q (op :: rest) a w :=
  wpList_store_want hw _ x y ho g 0 (ints b) hx hy (by rw [show (ints b).length = 100 by simp [ints, hb]]; exact ht) (by rw [show (ints b).length = 100 by simp [ints, hb]]; kernel_rfl) ints_one h
theorem wpList_load100 {ops : Array Oper} {rest : List Oper} {op : Oper} {a : Act} {w : World} {Q : Exit → Act → World → Prop} (hw : Region.wanted op (yielded ops a.tmps) = true) (x : Operand) (ho : op.op = .load 88 x)
    (g : Nat) (hx : a.eval x = .pointer (some ⟨g, 0, none⟩)) (b : List Int) (hc : w.rangeAt g 0 (ints b)) (hb : b.length = 100)
    (h : wpList Tryz.prog ops Q rest (a.put op.dst (.agg (ints b).toArray)) w) : wpList Tryz.prog ops Q (op :: rest) a w :=
  wpList_load_want hw _ x ho g 0 hx (ints b) _ hc Tryz.underlying88 rfl (by rw [show (ints b).length = 100 by simp [ints, hb]]; kernel_rfl) h
theorem loadVar100 {w : World} {g : Nat} {b : List Int} (h : w.rangeAt g 0 (ints b)) (hb : b.length = 100) : (loadVar 88 ⟨g, 0, none⟩).run Tryz.prog w = .ok (aggI b) w :=
  run_loadVar_mid w g 0 _ (ints b) _ h Tryz.underlying88 rfl (by rw [show (ints b).length = 100 by simp [ints, hb]]; kernel_rfl)
theorem wpList_load10 {ops : Array Oper} {rest : List Oper} {op : Oper} {a : Act} {w : World} {Q : Exit → Act → World → Prop} (hw : Region.wanted op (yielded ops a.tmps) = true) (x : Operand) (ho : op.op = .load 69 x)
    (g : Nat) (hx : a.eval x = .pointer (some ⟨g, 0, none⟩)) (h2 : Bk w g 69 #[.int .i64 63, .int .i64 6, .int .i64 91, .int .i64 79, .int .i64 102, .int .i64 109, .int .i64 125, .int .i64 7, .int .i64 127, .int .i64 111])
    (h : wpList Tryz.prog ops Q rest (a.put op.dst digA) w) : wpList Tryz.prog ops Q (op :: rest) a w :=
  wpList_load_want hw _ x ho g 0 hx (ints [63, 6, 91, 79, 102, 109, 125, 7, 127, 111]) _ (fun j v hv => by rw [Nat.zero_add, h2.cell j]; simpa [ints] using hv) Tryz.underlying69 rfl (by kernel_rfl) h
/-- the table -/
def tabB (n : Nat) : Array Value := (ints (tabTo n)).toArray
theorem Bk.rangeC {w : World} {g t : Nat} {b : List Value} (h : Bk w g t b.toArray) : w.rangeAt g 0 b := fun j v hv => by
  rw [Nat.zero_add, h.cell j]; simpa using hv
theorem Bk.thereC {w : World} {g t : Nat} {cs : Array Value} (h : Bk w g t cs) {n : Nat} (hn : n ≤ cs.size) : w.there g 0 n := fun j hj => by
  rw [Nat.zero_add]
  exact ⟨by rw [h.cell j, Array.getElem?_eq_getElem (by omega)]; rfl, h.frozen j⟩
theorem tabB_size (n : Nat) : (tabB n).size = 100 := by simp [tabB, ints, tabTo_len]
theorem tabB_some {n i : Nat} (h : i < 100) : ∃ u, (tabB n)[i]? = some u := ⟨_, Array.getElem?_eq_getElem (by rw [tabB_size]; exact h)⟩
theorem Bk.setT {w : World} {g t a b : Nat} (h : Bk w g t (tabB (a * 10 + b))) (ha : a < 10) (hb : b < 10) : Bk (w.setCell ⟨g, a * 10 + b, none⟩ (.int .i64 (frI (a : Int) (b : Int)))) g t (tabB (a * 10 + b + 1)) := by
  have h2 := h.set (a * 10 + b) (.int .i64 (frI (a : Int) (b : Int)))
  unfold tabB at *
  rw [← tabTo_succ ha hb]
  unfold ints at *
  rw [List.map_set]
  simpa using h2
def digC : Array Value := #[.int .i64 63, .int .i64 6, .int .i64 91, .int .i64 79, .int .i64 102, .int .i64 109, .int .i64 125, .int .i64 7, .int .i64 127, .int .i64 111]
/-- what the rounds of ChangeTable keep -/
structure Tb (w : World) (D n : Nat) (wr : World) : Prop where
  b : Bk wr (w.heap.size + 1) 88 (tabB n)
  r : Bk wr w.heap.size 88 (tabB 0)
  d : Bk wr D 69 digC
  low : Below w.heap.size w wr
  hD : w.heap.size + 1 < D
theorem Tb.drew {w wr : World} {D n : Nat} (h : Tb w D n wr) : Tb w D n wr.drew := ⟨h.b, h.r, h.d, h.low.drew, h.hD⟩
theorem Tb.put {w wr : World} {D a b : Nat} (h : Tb w D (a * 10 + b) wr) (ha : a < 10) (hb : b < 10) : Tb w D (a * 10 + b + 1) (wr.setCell ⟨w.heap.size + 1, a * 10 + b, none⟩ (.int .i64 (frI (a : Int) (b : Int)))) :=
  ⟨h.b.setT ha hb, h.r.other (by simp) _, h.d.other (by have := h.hD; simp; omega) _, h.low.setCell (by simp) _, h.hD⟩
set_option maxHeartbeats 4000000 in
theorem ChangeTable_c (w : World) : Calls Tryz.prog 74 #[] w fun e w' => e = .returned (aggI (tabTo 100)) ∧ Below w.heap.size w w' := by
  have T0 := (Bk.new w 88 (tabB 0)).alloc (.cells (tabB 0) 88)
  have T1 := Bk.new (w.alloc (.cells (tabB 0) 88)) 88 (tabB 0)
  have hb0 : Below w.heap.size w ((w.alloc (.cells (tabB 0) 88)).alloc (.cells (tabB 0) 88)) := by (repeat (first | exact Below.refl _ _ | exact (Below.refl _ _).drew | assumption | exact below_one _ | refine Below.chain ?_ (by assumption) | refine Below.drew ?_ | refine Below.alc ?_ _ | refine below_drewN ?_ | (refine Below.setCell ?_ ?_ _) | exact Nat.le_refl _ | (simp; done) | (simp; omega)))
  rw [World.size_alloc] at T1
  have hz : tabB 0 = #[.int .i64 0, .int .i64 0, .int .i64 0, .int .i64 0, .int .i64 0, .int .i64 0, .int .i64 0, .int .i64 0, .int .i64 0, .int .i64 0, .int .i64 0, .int .i64 0, .int .i64 0, .int .i64 0, .int .i64 0, .int .i64 0, .int .i64 0, .int .i64 0, .int .i64 0, .int .i64 0, .int .i64 0, .int .i64 0, .int .i64 0, .int .i64 0, .int .i64 0, .int .i64 0, .int .i64 0, .int .i64 0, .int .i64 0, .int .i64 0, .int .i64 0, .int .i64 0, .int .i64 0, .int .i64 0, .int .i64 0, .int .i64 0, .int .i64 0, .int .i64 0, .int .i64 0, .int .i64 0, .int .i64 0, .int .i64 0, .int .i64 0, .int .i64 0, .int .i64 0, .int .i64 0, .int .i64 0, .int .i64 0, .int .i64 0, .int .i64 0, .int .i64 0, .int .i64 0, .int .i64 0, .int .i64 0, .int .i64 0, .int .i64 0, .int .i64 0, .int .i64 0, .int .i64 0, .int .i64 0, .int .i64 0, .int .i64 0, .int .i64 0, .int .i64 0, .int .i64 0, .int .i64 0, .int .i64 0, .int .i64 0, .int .i64 0, .int .i64 0, .int .i64 0, .int .i64 0, .int .i64 0, .int .i64 0, .int .i64 0, .int .i64 0, .int .i64 0, .int .i64 0, .int .i64 0, .int .i64 0, .int .i64 0, .int .i64 0, .int .i64 0, .int .i64 0, .int .i64 0, .int .i64 0, .int .i64 0, .int .i64 0, .int .i64 0, .int .i64 0, .int .i64 0, .int .i64 0, .int .i64 0, .int .i64 0, .int .i64 0, .int .i64 0, .int .i64 0, .int .i64 0, .int .i64 0, .int .i64 0] := tab_zero
  have T0h := Lib.hid T0
  have T1h := Lib.hid T1
  have HB0 := Lib.hid hb0
  clear T0 T1 hb0
  rw [hz] at T0h T1h HB0
  go_enter Tryz.func74, Tryz.ntmps74
  go_wp2_with fail
  refine (digitCells_c _).mono ?_
  rintro e w1 ⟨rfl, hb1⟩
  have hT : Tb w w1.heap.size 0 (w1.alloc (.cells digC 69)) := ⟨by rw [hz]; exact (T1h.out.below hb1).alloc _, by rw [hz]; exact (T0h.out.below hb1).alloc _, Bk.new w1 69 digC, Below.alc (Below.chain HB0.out hb1) _, (T1h.out.below hb1).lt⟩
  have HT := Lib.hid hT
  have dB := hT.d
  clear hT hb1 T0h T1h HB0
  unfold digC at dB HT
  unfold digA
  go_wp2_with (refine wpList_load10 rfl _ rfl _ rfl ?_ ?_; exact dB)
  clear dB
  generalize World.alloc _ _ = w2 at *
  go_loopw [9] (fun j wr => ∃ k : Nat, k ≤ 10 ∧ j = .int .i64 (k : Int) ∧ Hid (Tb w w1.heap.size (k * 10) wr)) (fun j _ => 10 - (intOf j).toNat)
  case atStart => exact ⟨0, by omega, rfl, HT⟩
  case round =>
    obtain ⟨k, hk, rfl, HT1⟩ := hrel
    by_cases hlt : k < 10
    · have hdk : decide ((k : Int) < 10) = true := by simp; omega
      have hIk := fun w => index_dig (k : Int) (by omega) (by omega) w
      have dB : Bk wr w1.heap.size 69 #[.int .i64 63, .int .i64 6, .int .i64 91, .int .i64 79, .int .i64 102, .int .i64 109, .int .i64 125, .int .i64 7, .int .i64 127, .int .i64 111] := HT1.out.d
      rename World => wo
      go_wp2_with (refine wpList_load10 rfl _ rfl _ rfl ?_ ?_; exact dB)
      clear dB
      go_loopw [14] (fun j wr => ∃ m : Nat, m ≤ 10 ∧ j = .int .i64 (m : Int) ∧ Hid (Tb w w1.heap.size (k * 10 + m) wr)) (fun j _ => 10 - (intOf j).toNat)
      case atStart => exact ⟨0, by omega, rfl, HT1⟩
      case round =>
        obtain ⟨m, hm, rfl, HT2⟩ := hrel
        by_cases hlm : m < 10
        · have hdm : decide ((m : Int) < 10) = true := by simp; omega
          have hIm := fun w => index_dig (m : Int) (by omega) (by omega) w
          obtain ⟨z, hz1, z0, z1, hc⟩ := xor_dg (x := (k : Int)) (y := (m : Int)) (by omega) (by omega) (by omega) (by omega)
          have HC := Lib.hid (fun w => count_c z z0 z1 w)
          rw [hc] at HC
          have n1 : (0 : Int) ≤ (k : Int) := by omega
          have n2 : (k : Int) < 10 := by omega
          have n3 : (0 : Int) ≤ (m : Int) := by omega
          have n4 : (m : Int) < 10 := by omega
          have HP := Lib.hid (HT2.out.drew.put hlt hlm)
          obtain ⟨u9, hu9⟩ := tabB_some (n := k * 10 + m) (i := k * 10 + m) (by omega)
          have hcl : wr.cell? ⟨w.heap.size + 1, k * 10 + m, none⟩ = some u9 := by rw [HT2.out.b.cell]; exact hu9
          have hfz : wr.frozen? ⟨w.heap.size + 1, k * 10 + m, none⟩ = false := HT2.out.b.frozen _
          have hrh : (wr.drew.cell? ⟨w.heap.size + 1, k * 10 + m, none⟩ = some u9 ∧ wr.drew.frozen? ⟨w.heap.size + 1, k * 10 + m, none⟩ = false) := ⟨hcl, hfz⟩
          generalize dg (k : Int) = dk at *
          generalize dg (m : Int) = dm at *
          generalize frI (k : Int) (m : Int) = fr at *
          clear hc hu9
          go_wp2_with fail
          refine wp_region_noPanic ?_
          refine wp_region_held_drew (S := fun w' : World => (∃ u, w'.cell? ⟨w.heap.size + 1, k * 10 + m, none⟩ = some u) ∧ w'.frozen? ⟨w.heap.size + 1, k * 10 + m, none⟩ = false) (by kernel_rfl) ⟨⟨_, hrh.1⟩, hrh.2⟩ (fun hHeld => ?_)
          refine' wpAnyH_take (i := 0) (oi := _) (v := _) ?e_16 ?a_16 ?b_16 ?c_16 ?q_16 ?y_16 hHeld ?r_16
          case e_16 => (simp only [List.getElem?_toArray, List.getElem?_cons_zero, List.getElem?_cons_succ]; exact rfl)
          case a_16 => kernel_rfl
          case b_16 => kernel_rfl
          case c_16 => kernel_rfl
          case q_16 => exact fun _ _ _ h => h
          case y_16 => exact Or.inl ⟨by rfl, by (intro w hSw; (try dsimp only at hSw); go_simp; first | done | with_reducible rfl)⟩
          try simp only [Act.put, List.setIfInBounds_toArray, List.set_cons_zero, List.set_cons_succ]
          refine' wpAnyH_take (i := 1) (oi := _) (v := _) ?e_17 ?a_17 ?b_17 ?c_17 ?q_17 ?y_17 hHeld ?r_17
          case e_17 => (simp only [List.getElem?_toArray, List.getElem?_cons_zero, List.getElem?_cons_succ]; exact rfl)
          case a_17 => kernel_rfl
          case b_17 => kernel_rfl
          case c_17 => kernel_rfl
          case q_17 => exact fun _ _ _ h => h
          case y_17 => exact Or.inl ⟨by rfl, by (intro w hSw; (try dsimp only at hSw); go_simp; first | done | with_reducible rfl)⟩
          try simp only [Act.put, List.setIfInBounds_toArray, List.set_cons_zero, List.set_cons_succ]
          refine' wpAnyH_take (i := 2) (oi := _) (v := _) ?e_18 ?a_18 ?b_18 ?c_18 ?q_18 ?y_18 hHeld ?r_18
          case e_18 => (simp only [List.getElem?_toArray, List.getElem?_cons_zero, List.getElem?_cons_succ]; exact rfl)
          case a_18 => kernel_rfl
          case b_18 => kernel_rfl
          case c_18 => kernel_rfl
          case q_18 => exact fun _ _ _ h => h
          case y_18 => exact Or.inl ⟨by rfl, by (intro w hSw; (try dsimp only at hSw); go_simp; first | done | with_reducible rfl)⟩
          try simp only [Act.put, List.setIfInBounds_toArray, List.set_cons_zero, List.set_cons_succ]
          refine' wpAnyH_take (i := 3) (oi := _) (v := _) ?e_19 ?a_19 ?b_19 ?c_19 ?q_19 ?y_19 hHeld ?r_19
          case e_19 => (simp only [List.getElem?_toArray, List.getElem?_cons_zero, List.getElem?_cons_succ]; exact rfl)
          case a_19 => kernel_rfl
          case b_19 => kernel_rfl
          case c_19 => kernel_rfl
          case q_19 => exact fun _ _ _ h => h
          case y_19 => exact Or.inl ⟨by rfl, by (intro w hSw; (try dsimp only at hSw); go_simp; first | done | with_reducible rfl)⟩
          try simp only [Act.put, List.setIfInBounds_toArray, List.set_cons_zero, List.set_cons_succ]
          refine' wpAnyH_take (i := 4) (oi := _) (v := _) ?e_20 ?a_20 ?b_20 ?c_20 ?q_20 ?y_20 hHeld ?r_20
          case e_20 => (simp only [List.getElem?_toArray, List.getElem?_cons_zero, List.getElem?_cons_succ]; exact rfl)
          case a_20 => kernel_rfl
          case b_20 => kernel_rfl
          case c_20 => kernel_rfl
          case q_20 => exact fun _ _ _ h => h
          case y_20 => exact Or.inl ⟨by rfl, by (intro w hSw; (try dsimp only at hSw); go_simp; first | done | with_reducible rfl)⟩
          try simp only [Act.put, List.setIfInBounds_toArray, List.set_cons_zero, List.set_cons_succ]
          refine' wpAnyH_take (i := 6) (oi := _) (v := _) ?e_21 ?a_21 ?b_21 ?c_21 ?q_21 ?y_21 hHeld ?r_21
          case e_21 => (simp only [List.getElem?_toArray, List.getElem?_cons_zero, List.getElem?_cons_succ]; exact rfl)
          case a_21 => kernel_rfl
          case b_21 => kernel_rfl
          case c_21 => kernel_rfl
          case q_21 => exact fun _ _ _ h => h
          case y_21 => exact Or.inl ⟨by rfl, by (intro w hSw; (try dsimp only at hSw); go_simp; first | done | with_reducible rfl)⟩
          try simp only [Act.put, List.setIfInBounds_toArray, List.set_cons_zero, List.set_cons_succ]
          refine wpAnyH_ready (rs := [5]) (by kernel_rfl) (by simp) ?_
          refine' AllReadyH.cons (o := _) ?e_22 ?st_22 AllReadyH.nil
          case e_22 => (simp only [List.getElem?_toArray, List.getElem?_cons_zero, List.getElem?_cons_succ]; exact rfl)
          intro K hK
          go_simp
          refine (HC.out _).mono ?_
          rintro e c9 ⟨rfl, rfl⟩
          go_wp2_with fail
          refine hK.out _ _ hHeld (fun hHeld => ?_)
          clear hK K
          try simp only [Act.put, List.setIfInBounds_toArray, List.set_cons_zero, List.set_cons_succ]
          refine' wpAnyH_take (i := 7) (oi := _) (v := _) ?e_23 ?a_23 ?b_23 ?c_23 ?q_23 ?y_23 hHeld ?r_23
          case e_23 => (simp only [List.getElem?_toArray, List.getElem?_cons_zero, List.getElem?_cons_succ]; exact rfl)
          case a_23 => kernel_rfl
          case b_23 => kernel_rfl
          case c_23 => kernel_rfl
          case q_23 => exact fun _ _ _ h => h
          case y_23 => exact Or.inl ⟨by rfl, by (intro w hSw; (try dsimp only at hSw); go_simp; first | done | with_reducible rfl)⟩
          try simp only [Act.put, List.setIfInBounds_toArray, List.set_cons_zero, List.set_cons_succ]
          refine wpAnyH_ready (rs := [8]) (by kernel_rfl) (by simp) ?_
          refine' AllReadyH.cons (o := _) ?e_24 ?st_24 AllReadyH.nil
          case e_24 => (simp only [List.getElem?_toArray, List.getElem?_cons_zero, List.getElem?_cons_succ]; exact rfl)
          intro K hK
          go_simp
          obtain ⟨⟨hu, hh1⟩, hh2⟩ := hHeld
          go_simp
          refine hK.out _ _ ⟨⟨_, World.cell?_setCell_same _ _ _ hh1⟩, by simpa using hh2⟩ (fun hHeld => ?_)
          clear hh1 hh2
          clear hK K
          try simp only [Act.put, List.setIfInBounds_toArray, List.set_cons_zero, List.set_cons_succ]
          refine wpAnyH_done (by kernel_rfl) ?_ _
          refine NoPanic.normal ?_
          clear hHeld hrh hcl hfz
          go_wp2
          go_roundw
          case rel => exact ⟨m + 1, by omega, by go_num, HP⟩
          case measure => simp [intOf]; omega
        · obtain rfl : m = 10 := by omega
          have hdm : decide (((10 : Nat) : Int) < 10) = false := by simp
          have HT3 : Hid (Tb w w1.heap.size ((k + 1) * 10) wr) := by
            have := HT2.out
            rw [show k * 10 + 10 = (k + 1) * 10 by omega] at this
            exact this
          go_wp2
          go_roundw
          case rel => exact ⟨k + 1, by omega, by go_num, HT3⟩
          case measure => simp [intOf]; omega
    · obtain rfl : k = 10 := by omega
      have hdk : decide (((10 : Nat) : Int) < 10) = false := by simp
      have ar : wr.rangeAt (w.heap.size + 1) 0 (ints (tabTo 100)) := HT1.out.b.rangeC
      have rt := HT1.out.r.thereC (n := 100) (by rw [tabB_size]; decide)
      have hbl := tabTo_len 100
      have HB := Lib.hid (below_cells (ints (tabTo 100)) wr w.heap.size 0 HT1.out.low (Nat.le_refl _))
      have K := loadVar100 (World.rangeAt_setCells_same wr w.heap.size 0 (ints (tabTo 100)) (by rw [show (ints (tabTo 100)).length = 100 by simp [ints, hbl]]; exact rt)) hbl
      clear HT1
      go_wp2_with (first | (refine wpList_load100 rfl _ rfl _ rfl _ ?_ hbl ?_; exact ar) | (refine wpList_store100 rfl _ _ rfl _ (tabTo 100) rfl rfl ?_ hbl ?_; exact rt))
      exact bodyPost_ret (v := aggI (tabTo 100)) (res_cell Tryz.results74 rfl K) rfl ⟨rfl, HB.out⟩
theorem chg_at {x y : Nat} (hx : x < 10) (hy : y < 10) : (ints (tabTo 100))[x * 10 + y]? = some (.int .i64 (frI (x : Int) (y : Int))) := by
  unfold ints
  rw [List.getElem?_map, tabTo_get (by omega), if_pos (by omega), show (x * 10 + y) / 10 = x by omega, show (x * 10 + y) % 10 = y by omega]
  rfl
set_option maxHeartbeats 4000000 in
theorem digitChanges_c (v : Value) (xs : List Int) (w : World) (hv : Ints w v xs) (hd : ∀ x ∈ xs, 0 ≤ x ∧ x ≤ 9) (hn : xs.length ≤ 10) :
    Calls Tryz.prog 55 #[v] w fun e w' => e = .returned (.int .i64 (chL xs)) ∧ Below w.heap.size w w' := by
  have HV := Lib.hid hv
  have HD := Lib.hid hd
  have hz : tabB 0 = Tryz.zeroCells88 := by kernel_rfl
  obtain ⟨a, c, rfl, _, _, _⟩ := hv.parts
  clear hv hd
  have HCT := Lib.hid (fun w => ChangeTable_c w)
  have hbl := tabTo_len 100
  have HTA : Hid (∀ x y : Nat, x < 10 → y < 10 → (ints (tabTo 100))[x * 10 + y]? = some (.int .i64 (frI (x : Int) (y : Int)))) := fun x y hx hy => chg_at hx hy
  generalize tabTo 100 = TT at *
  go_enter Tryz.func55, Tryz.ntmps55
  go_wp2_with fail
  refine (HCT.out _).mono ?_
  rintro e w1 ⟨rfl, hb1⟩
  have ht := there_new w1 (tabB 0) 88 (n := 100) (by rw [tabB_size]; decide)
  have HB2 := Lib.hid (below_cells (ints TT) (w1.alloc (.cells (tabB 0) 88)) w1.heap.size 0 (Below.alc hb1 _) hb1.size)
  have TR := Lib.hid (World.rangeAt_setCells_same (w1.alloc (.cells (tabB 0) 88)) w1.heap.size 0 (ints TT) (by rw [show (ints TT).length = 100 by simp [ints, hbl]]; exact ht))
  have HV2 := Lib.hid (HV.out.below HB2.out)
  rw [hz] at ht HB2 TR HV2
  clear hb1 HCT hz
  unfold aggI
  go_wp2_with (refine wpList_store100 rfl _ _ rfl _ (TT) rfl rfl ?_ hbl ?_; exact ht)
  generalize World.setCells _ _ _ _ = w2 at *
  generalize w1.heap.size = B at *
  clear ht
  go_loopw [4, 5] (fun s j wr => ∃ m : Nat, (m < xs.length ∨ m = 0) ∧ j = .int .i64 ((m : Int) + 1) ∧ s = .int .i64 (chTo xs m) ∧ Below w2.heap.size w2 wr) (fun _ j _ => 11 - (intOf j).toNat)
  case atStart => exact ⟨0, Or.inr rfl, rfl, rfl, Below.refl _ _⟩
  case round =>
    obtain ⟨m, hk, rfl, rfl, hb⟩ := hrel
    by_cases hlt : m + 1 < xs.length
    · obtain ⟨x, hx⟩ := elem_at (show m < xs.length by omega)
      obtain ⟨y, hy⟩ := elem_at hlt
      obtain ⟨_, _, he, _, _, H2⟩ := (HV2.out.below hb).parts
      simp only [Value.slice.injEq, true_and] at he
      obtain ⟨rfl, rfl⟩ := he
      obtain ⟨b, off, rfl, f1⟩ := H2.out m x hx.out
      obtain ⟨b2, off2, he2, f2⟩ := H2.out (m + 1) y hy.out
      cases he2
      obtain ⟨x0, x1⟩ := HD.out x (List.mem_of_getElem? hx.out)
      obtain ⟨y0, y1⟩ := HD.out y (List.mem_of_getElem? hy.out)
      have hfb := fr_bd x0 x1 y0 y1
      have hcb := chTo_bd HD.out m (by omega)
      have HS : Hid (chTo xs (m + 1) = chTo xs m + frI x y) := by
        show _ = _
        rw [chTo_succ]
        rw [show xs.getD m 0 = x by rw [List.getD_eq_getElem?_getD, hx.out]; rfl, show xs.getD (m + 1) 0 = y by rw [List.getD_eq_getElem?_getD, hy.out]; rfl]
      obtain ⟨X, rfl⟩ := Int.eq_ofNat_of_zero_le x0
      obtain ⟨Y, rfl⟩ := Int.eq_ofNat_of_zero_le y0
      have f3 : wr.cell? ⟨B, X * 10 + Y, none⟩ = some (.int .i64 (frI (X : Int) (Y : Int))) := by
        have := range_below TR.out hb (X * 10 + Y) _ (HTA.out X Y (by omega) (by omega))
        rwa [Nat.zero_add] at this
      have n1 : (m : Int) + 1 - 1 = (m : Int) := by omega
      have hmlt : m < xs.length := by omega
      have hwm : IntKind.i64.wrap (m : Int) = (m : Int) := IntWalk.i64_in _ (by omega)
      have hwm1 : IntKind.i64.wrap ((m : Int) + 1) = (m : Int) + 1 := IntWalk.i64_in _ (by omega)
      have n2 : (0 : Int) ≤ (m : Int) := by omega
      have n3 : (m : Int) < (xs.length : Int) := by omega
      have n4 : (0 : Int) ≤ (m : Int) + 1 := by omega
      have n5 : (m : Int) + 1 < (xs.length : Int) := by omega
      have n6 : ((m : Int) + 1).toNat = m + 1 := by omega
      have x10 : (X : Int) < 10 := by omega
      have y10 : (Y : Int) < 10 := by omega
      generalize hcm : chTo xs m = cm at *
      generalize hfr : frI (X : Int) (Y : Int) = fr at *
      have hcm7 : cm ≤ 70 := by omega
      clear H2 hcm hfr
      have hdd : decide ((m : Int) + 1 < (xs.length : Int)) = true := by simp; omega
      have hrh : (wr.drew.cell? ⟨b, off + m, none⟩ = some (.int .i64 (X : Int)) ∧ wr.drew.cell? ⟨b, off + (m + 1), none⟩ = some (.int .i64 (Y : Int)) ∧ wr.drew.cell? ⟨B, X * 10 + Y, none⟩ = some (.int .i64 fr) ∧ Below w2.heap.size w2 wr.drew) := ⟨f1, f2, f3, hb.drew⟩
      go_wp2_with fail
      refine wp_region_noPanic ?_
      refine wp_region_held_drew (S := fun w' : World => w'.cell? ⟨b, off + m, none⟩ = some (.int .i64 (X : Int)) ∧ w'.cell? ⟨b, off + (m + 1), none⟩ = some (.int .i64 (Y : Int)) ∧ w'.cell? ⟨B, X * 10 + Y, none⟩ = some (.int .i64 fr) ∧ Below w2.heap.size w2 w') (by kernel_rfl) hrh (fun hHeld => ?_)
      refine' wpAnyH_take (i := 0) (oi := _) (v := _) ?e_25 ?a_25 ?b_25 ?c_25 ?q_25 ?y_25 hHeld ?r_25
      case e_25 => (simp only [List.getElem?_toArray, List.getElem?_cons_zero, List.getElem?_cons_succ]; exact rfl)
      case a_25 => kernel_rfl
      case b_25 => kernel_rfl
      case c_25 => kernel_rfl
      case q_25 => exact fun _ _ _ h => h
      case y_25 => exact Or.inl ⟨by rfl, by (intro w hSw; (try dsimp only at hSw); go_simp; first | done | with_reducible rfl)⟩
      try simp only [Act.put, List.setIfInBounds_toArray, List.set_cons_zero, List.set_cons_succ]
      refine' wpAnyH_take (i := 1) (oi := _) (v := _) ?e_26 ?a_26 ?b_26 ?c_26 ?q_26 ?y_26 hHeld ?r_26
      case e_26 => (simp only [List.getElem?_toArray, List.getElem?_cons_zero, List.getElem?_cons_succ]; exact rfl)
      case a_26 => kernel_rfl
      case b_26 => kernel_rfl
      case c_26 => kernel_rfl
      case q_26 => exact fun _ _ _ h => h
      case y_26 => exact Or.inl ⟨by rfl, by (intro w hSw; (try dsimp only at hSw); go_simp; first | done | with_reducible rfl)⟩
      try simp only [Act.put, List.setIfInBounds_toArray, List.set_cons_zero, List.set_cons_succ]
      refine' wpAnyH_take (i := 2) (oi := _) (v := _) ?e_27 ?a_27 ?b_27 ?c_27 ?q_27 ?y_27 hHeld ?r_27
      case e_27 => (simp only [List.getElem?_toArray, List.getElem?_cons_zero, List.getElem?_cons_succ]; exact rfl)
      case a_27 => kernel_rfl
      case b_27 => kernel_rfl
      case c_27 => kernel_rfl
      case q_27 => exact fun _ _ _ h => h
      case y_27 => exact Or.inl ⟨by rfl, by (intro w hSw; (try dsimp only at hSw); go_simp; first | done | with_reducible rfl)⟩
      try simp only [Act.put, List.setIfInBounds_toArray, List.set_cons_zero, List.set_cons_succ]
      refine' wpAnyH_take (i := 3) (oi := _) (v := _) ?e_28 ?a_28 ?b_28 ?c_28 ?q_28 ?y_28 hHeld ?r_28
      case e_28 => (simp only [List.getElem?_toArray, List.getElem?_cons_zero, List.getElem?_cons_succ]; exact rfl)
      case a_28 => kernel_rfl
      case b_28 => kernel_rfl
      case c_28 => kernel_rfl
      case q_28 => exact fun _ _ _ h => h
      case y_28 => exact Or.inl ⟨by rfl, by (intro w hSw; (try dsimp only at hSw); go_simp; first | done | with_reducible rfl)⟩
      try simp only [Act.put, List.setIfInBounds_toArray, List.set_cons_zero, List.set_cons_succ]
      refine' wpAnyH_take (i := 4) (oi := _) (v := _) ?e_29 ?a_29 ?b_29 ?c_29 ?q_29 ?y_29 hHeld ?r_29
      case e_29 => (simp only [List.getElem?_toArray, List.getElem?_cons_zero, List.getElem?_cons_succ]; exact rfl)
      case a_29 => kernel_rfl
      case b_29 => kernel_rfl
      case c_29 => kernel_rfl
      case q_29 => exact fun _ _ _ h => h
      case y_29 => exact Or.inl ⟨by rfl, by (intro w hSw; (try dsimp only at hSw); go_simp; first | done | with_reducible rfl)⟩
      try simp only [Act.put, List.setIfInBounds_toArray, List.set_cons_zero, List.set_cons_succ]
      refine' wpAnyH_take (i := 5) (oi := _) (v := _) ?e_30 ?a_30 ?b_30 ?c_30 ?q_30 ?y_30 hHeld ?r_30
      case e_30 => (simp only [List.getElem?_toArray, List.getElem?_cons_zero, List.getElem?_cons_succ]; exact rfl)
      case a_30 => kernel_rfl
      case b_30 => kernel_rfl
      case c_30 => kernel_rfl
      case q_30 => exact fun _ _ _ h => h
      case y_30 => exact Or.inl ⟨by rfl, by (intro w hSw; (try dsimp only at hSw); go_simp; first | done | with_reducible rfl)⟩
      try simp only [Act.put, List.setIfInBounds_toArray, List.set_cons_zero, List.set_cons_succ]
      refine' wpAnyH_take (i := 6) (oi := _) (v := _) ?e_31 ?a_31 ?b_31 ?c_31 ?q_31 ?y_31 hHeld ?r_31
      case e_31 => (simp only [List.getElem?_toArray, List.getElem?_cons_zero, List.getElem?_cons_succ]; exact rfl)
      case a_31 => kernel_rfl
      case b_31 => kernel_rfl
      case c_31 => kernel_rfl
      case q_31 => exact fun _ _ _ h => h
      case y_31 => exact Or.inl ⟨by rfl, by (intro w hSw; (try dsimp only at hSw); go_simp; first | done | with_reducible rfl)⟩
      try simp only [Act.put, List.setIfInBounds_toArray, List.set_cons_zero, List.set_cons_succ]
      refine' wpAnyH_take (i := 7) (oi := _) (v := _) ?e_32 ?a_32 ?b_32 ?c_32 ?q_32 ?y_32 hHeld ?r_32
      case e_32 => (simp only [List.getElem?_toArray, List.getElem?_cons_zero, List.getElem?_cons_succ]; exact rfl)
      case a_32 => kernel_rfl
      case b_32 => kernel_rfl
      case c_32 => kernel_rfl
      case q_32 => exact fun _ _ _ h => h
      case y_32 => exact Or.inl ⟨by rfl, by (intro w hSw; (try dsimp only at hSw); go_simp; first | done | with_reducible rfl)⟩
      try simp only [Act.put, List.setIfInBounds_toArray, List.set_cons_zero, List.set_cons_succ]
      refine' wpAnyH_take (i := 8) (oi := _) (v := _) ?e_33 ?a_33 ?b_33 ?c_33 ?q_33 ?y_33 hHeld ?r_33
      case e_33 => (simp only [List.getElem?_toArray, List.getElem?_cons_zero, List.getElem?_cons_succ]; exact rfl)
      case a_33 => kernel_rfl
      case b_33 => kernel_rfl
      case c_33 => kernel_rfl
      case q_33 => exact fun _ _ _ h => h
      case y_33 => exact Or.inl ⟨by rfl, by (intro w hSw; (try dsimp only at hSw); go_simp; first | done | with_reducible rfl)⟩
      try simp only [Act.put, List.setIfInBounds_toArray, List.set_cons_zero, List.set_cons_succ]
      refine' wpAnyH_take (i := 9) (oi := _) (v := _) ?e_34 ?a_34 ?b_34 ?c_34 ?q_34 ?y_34 hHeld ?r_34
      case e_34 => (simp only [List.getElem?_toArray, List.getElem?_cons_zero, List.getElem?_cons_succ]; exact rfl)
      case a_34 => kernel_rfl
      case b_34 => kernel_rfl
      case c_34 => kernel_rfl
      case q_34 => exact fun _ _ _ h => h
      case y_34 => exact Or.inl ⟨by rfl, by (intro w hSw; (try dsimp only at hSw); go_simp; first | done | with_reducible rfl)⟩
      try simp only [Act.put, List.setIfInBounds_toArray, List.set_cons_zero, List.set_cons_succ]
      refine' wpAnyH_take (i := 10) (oi := _) (v := _) ?e_35 ?a_35 ?b_35 ?c_35 ?q_35 ?y_35 hHeld ?r_35
      case e_35 => (simp only [List.getElem?_toArray, List.getElem?_cons_zero, List.getElem?_cons_succ]; exact rfl)
      case a_35 => kernel_rfl
      case b_35 => kernel_rfl
      case c_35 => kernel_rfl
      case q_35 => exact fun _ _ _ h => h
      case y_35 => exact Or.inl ⟨by rfl, by (intro w hSw; (try dsimp only at hSw); go_simp; first | done | with_reducible rfl)⟩
      try simp only [Act.put, List.setIfInBounds_toArray, List.set_cons_zero, List.set_cons_succ]
      refine' wpAnyH_take (i := 11) (oi := _) (v := _) ?e_36 ?a_36 ?b_36 ?c_36 ?q_36 ?y_36 hHeld ?r_36
      case e_36 => (simp only [List.getElem?_toArray, List.getElem?_cons_zero, List.getElem?_cons_succ]; exact rfl)
      case a_36 => kernel_rfl
      case b_36 => kernel_rfl
      case c_36 => kernel_rfl
      case q_36 => exact fun _ _ _ h => h
      case y_36 => exact Or.inl ⟨by rfl, by (intro w hSw; (try dsimp only at hSw); go_simp; first | done | with_reducible rfl)⟩
      try simp only [Act.put, List.setIfInBounds_toArray, List.set_cons_zero, List.set_cons_succ]
      refine' wpAnyH_take (i := 12) (oi := _) (v := _) ?e_37 ?a_37 ?b_37 ?c_37 ?q_37 ?y_37 hHeld ?r_37
      case e_37 => (simp only [List.getElem?_toArray, List.getElem?_cons_zero, List.getElem?_cons_succ]; exact rfl)
      case a_37 => kernel_rfl
      case b_37 => kernel_rfl
      case c_37 => kernel_rfl
      case q_37 => exact fun _ _ _ h => h
      case y_37 => exact Or.inl ⟨by rfl, by (intro w hSw; (try dsimp only at hSw); go_simp; first | done | with_reducible rfl)⟩
      try simp only [Act.put, List.setIfInBounds_toArray, List.set_cons_zero, List.set_cons_succ]
      refine' wpAnyH_take (i := 13) (oi := _) (v := _) ?e_38 ?a_38 ?b_38 ?c_38 ?q_38 ?y_38 hHeld ?r_38
      case e_38 => (simp only [List.getElem?_toArray, List.getElem?_cons_zero, List.getElem?_cons_succ]; exact rfl)
      case a_38 => kernel_rfl
      case b_38 => kernel_rfl
      case c_38 => kernel_rfl
      case q_38 => exact fun _ _ _ h => h
      case y_38 => exact Or.inl ⟨by rfl, by (intro w hSw; (try dsimp only at hSw); go_simp; first | done | with_reducible rfl)⟩
      try simp only [Act.put, List.setIfInBounds_toArray, List.set_cons_zero, List.set_cons_succ]
      refine' wpAnyH_take (i := 14) (oi := _) (v := _) ?e_39 ?a_39 ?b_39 ?c_39 ?q_39 ?y_39 hHeld ?r_39
      case e_39 => (simp only [List.getElem?_toArray, List.getElem?_cons_zero, List.getElem?_cons_succ]; exact rfl)
      case a_39 => kernel_rfl
      case b_39 => kernel_rfl
      case c_39 => kernel_rfl
      case q_39 => exact fun _ _ _ h => h
      case y_39 => exact Or.inl ⟨by rfl, by (intro w hSw; (try dsimp only at hSw); go_simp; first | done | with_reducible rfl)⟩
      try simp only [Act.put, List.setIfInBounds_toArray, List.set_cons_zero, List.set_cons_succ]
      refine wpAnyH_done (by kernel_rfl) ?_ _
      refine NoPanic.normal ?_
      have HB := Lib.hid hHeld.2.2.2
      clear hHeld hrh f1 f2 f3 hb
      go_wp2
      go_roundw
      case rel => exact ⟨m + 1, Or.inl hlt, by go_num, by rw [HS.out]; exact int_val (IntWalk.i64_in _ (by omega)), HB.out⟩
      case measure => simp [intOf]; omega
    · have hdd : decide ((m : Int) + 1 < (xs.length : Int)) = false := by simp; omega
      have HE : Hid (chTo xs m = chL xs) := by
        show _ = _
        unfold chL
        have e : xs.length - 1 = m := by omega
        rw [e]
      have HB := Lib.hid (Below.chain HB2.out hb)
      go_wp2
      go_ret
      exact ⟨by rw [HE.out]; rfl, HB.out⟩
def cgV (xs : List Int) : Value := .tuple #[.int .i64 (if testB xs then chL xs else 0), .bool (testB xs)]
theorem testB_len {xs : List Int} (h : testB xs = true) : xs.length ≤ 10 ∧ ∀ x ∈ xs, 0 ≤ x ∧ x ≤ 9 := by
  unfold testB at h; simp only [Bool.and_eq_true, decide_eq_true_eq] at h
  exact ⟨h.1, digits_all h.2⟩
theorem ChangesOf_c (v : Value) (xs : List Int) (w : World) (hv : Ints w v xs) : Calls Tryz.prog 15 #[v] w fun e w' => e = .returned (cgV xs) ∧ Below w.heap.size w w' := by
  have HV := Lib.hid hv
  rcases hq : testB xs with _ | _
  · have HF : Hid (cgV xs = .tuple #[.int .i64 0, .bool false]) := by show _ = _; unfold cgV; rw [hq]; rfl
    have HQ := Lib.hid hq; clear hq
    go_enter Tryz.func15, Tryz.ntmps15
    go_wp2_with fail
    refine (isTest_c v xs _ HV.out).mono ?_
    rintro e w1 ⟨rfl, hb1⟩
    rw [HQ.out]
    go_wp2
    go_ret2
    exact ⟨by rw [HF.out]; rfl, hb1⟩
  · have HF : Hid (cgV xs = .tuple #[.int .i64 (chL xs), .bool true]) := by show _ = _; unfold cgV; rw [hq]; rfl
    obtain ⟨hl, hd⟩ := testB_len hq
    have HQ := Lib.hid hq; clear hq
    have HD := Lib.hid hd; clear hd
    go_enter Tryz.func15, Tryz.ntmps15
    go_wp2_with fail
    refine (isTest_c v xs _ HV.out).mono ?_
    rintro e w1 ⟨rfl, hb1⟩
    rw [HQ.out]
    go_wp2_with fail
    refine (digitChanges_c v xs _ (HV.out.below hb1) HD.out hl).mono ?_
    rintro e w2 ⟨rfl, hb2⟩
    have HB := Lib.hid (Below.chain hb1 hb2)
    go_wp2
    go_ret2
    exact ⟨by rw [HF.out]; rfl, HB.out⟩
theorem sChangesOf_c (v : Value) (xs : List Int) (w : World) (hv : Ints w v xs) : Calls Tryz.prog 16 #[v] w fun e w' => e = .returned (cgV xs) ∧ Below w.heap.size w w' := by
  have HV := Lib.hid hv
  rcases hq : testB xs with _ | _
  · have HF : Hid (cgV xs = .tuple #[.int .i64 0, .bool false]) := by show _ = _; unfold cgV; rw [hq]; rfl
    have HQ := Lib.hid hq; clear hq
    go_enter Tryz.func16, Tryz.ntmps16
    go_wp2_with fail
    refine (l7Test_c v xs _ HV.out).mono ?_
    rintro e w1 ⟨rfl, hb1⟩
    rw [HQ.out]
    go_wp2
    go_ret2
    exact ⟨by rw [HF.out]; rfl, hb1⟩
  · have HF : Hid (cgV xs = .tuple #[.int .i64 (chL xs), .bool true]) := by show _ = _; unfold cgV; rw [hq]; rfl
    obtain ⟨hl, hd⟩ := testB_len hq
    have HQ := Lib.hid hq; clear hq
    have HD := Lib.hid hd; clear hd
    go_enter Tryz.func16, Tryz.ntmps16
    go_wp2_with fail
    refine (l7Test_c v xs _ HV.out).mono ?_
    rintro e w1 ⟨rfl, hb1⟩
    rw [HQ.out]
    go_wp2_with fail
    refine (l7Changes_c v xs _ (HV.out.below hb1) HD.out hl).mono ?_
    rintro e w2 ⟨rfl, hb2⟩
    have HB := Lib.hid (Below.chain hb1 hb2)
    go_wp2
    go_ret2
    exact ⟨by rw [HF.out]; rfl, HB.out⟩
end Go.Proofs.YtfbnmkpkihfocaaGreat
