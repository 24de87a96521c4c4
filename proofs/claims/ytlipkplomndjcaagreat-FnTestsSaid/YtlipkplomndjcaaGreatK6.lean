/- Texts of this claim, gathered: Put. -/
import Derived.Test.YtlipkplomndjcaaGreatK5
import Derived.Deep.DrawnRows
namespace Go.Proofs.YtlipkplomndjcaaGreat
open Go.RowKit
set_option linter.unusedVariables false
set_option linter.unusedSimpArgs false
set_option maxRecDepth 100000
attribute [local go_sem ↓] Go.wp_at_zero Go.wp_at_succ
set_option maxHeartbeats 4000000 in
theorem l1Put_c (g cap lo : Nat) (l : List Int) (n : Int) (w : World) (ho : w.ownsRow lo 3 1 (.slice (some ⟨g, 0, none⟩) l.length cap) l.length (ints l)) (hlen : l.length ≤ 1000) (hlo : lo ≤ w.heap.size) :
    Calls Tryz.prog 98 #[.slice (some ⟨g, 0, none⟩) l.length cap, .int .i64 n] w fun e w' => ∃ g' cap', e = .returned (.slice (some ⟨g', 0, none⟩) (putR l n).length cap') ∧ w'.ownsRow lo 3 1 (.slice (some ⟨g', 0, none⟩) (putR l n).length cap') (putR l n).length (ints (putR l n)) ∧ Below w.heap.size w w' := by
  obtain ⟨inf, hi, hz0, hz1, hz2⟩ := info_parts info_int
  have hI := Ints.of_own ho
  obtain ⟨a, c, e0, hlc, hcm, HC⟩ := hI.parts
  injection e0 with e1 _ e3
  subst e1 e3
  have HO := Lib.hid ho
  clear ho hI
  go_enter Tryz.func98, Tryz.ntmps98
  go_wp2
  go_loop [5] (fun i => ∃ k : Nat, k ≤ l.length ∧ i = .int .i64 (k : Int) ∧ Hid (∀ j x, j < k → l[j]? = some x → x < n)) (fun i => l.length - (intOf i).toNat)
  case atStart => exact ⟨0, by omega, rfl, fun j x h => by omega⟩
  case round =>
    obtain ⟨k, hk, rfl, hbef⟩ := hrel
    by_cases hlt : k < l.length
    · have hd : decide ((k : Int) < (l.length : Int)) = true := by simp; omega
      obtain ⟨x, hx⟩ := elem_at hlt
      obtain ⟨b0, o0, e0, g0⟩ := HC.out k x hx.out
      injection e0 with e0
      injection e0 with e1 e2
      subst e1 e2
      rw [Nat.zero_add] at g0
      by_cases hxn : x < n
      · have hN : Hid (∀ j y, j < k + 1 → l[j]? = some y → y < n) := fun j y hj hy => by
          by_cases hj2 : j < k
          · exact hbef.out j y hj2 hy
          · obtain rfl : j = k := by omega
            rw [hx.out] at hy
            injection hy with hy
            omega
        clear hbef
        go_wp2
        go_round
        case rel => exact ⟨k + 1, by omega, by go_num, hN⟩
        case measure => simp [intOf]; omega
      · have hput := putR_at l n k (by omega) hbef.out (fun y hy => by rw [hx.out] at hy; injection hy with hy; omega)
        by_cases he : x = n
        · rw [if_pos (by rw [hx.out, he])] at hput
          have HP := Lib.hid hput
          clear hbef hput
          subst he
          go_wp2
          go_ret
          exact ⟨g, cap, by rw [HP.out]; rfl, by rw [HP.out]; exact HO.out, Below.refl _ _⟩
        · rw [if_neg (by rw [hx.out]; intro h; injection h with h; exact he h)] at hput
          have HP := Lib.hid hput
          have hd2 : decide (x = n) = false := by simpa using he
          have hd3 : (x == n) = false := by simpa using he
          clear hbef hput
          have hck : (cap = k) = False := by simp; omega
          go_wp2
          have n0 : (0 : Int) ≤ ((k : Nat) : Int) := by omega
          have n1 : ((k : Nat) : Int) ≤ (l.length : Int) := by omega
          have n2 : (l.length : Int) ≤ (cap : Int) := by omega
          have n3 : ((k : Nat) : Int) ≤ (cap : Int) := by omega
          refine wp_region_held_drew (S := fun _ : World => True) (by kernel_rfl) trivial (fun hHeld => ?_)
          have B_wd : Below w.heap.size w w.drew := (Below.refl _ _).drew
          generalize w.drew = wd at *
          refine' wpAnyH_take (i := 1) (oi := _) (v := _) ?e_1 ?a_1 ?b_1 ?c_1 ?q_1 ?y_1 hHeld ?r_1
          case e_1 => (simp only [List.getElem?_toArray, List.getElem?_cons_zero, List.getElem?_cons_succ]; exact rfl)
          case a_1 => kernel_rfl
          case b_1 => kernel_rfl
          case c_1 => kernel_rfl
          case q_1 => exact fun _ _ _ h => h
          case y_1 => exact Or.inl ⟨by rfl, by (intro w hSw; (try dsimp only at hSw); go_simp; first | done | with_reducible rfl)⟩
          try simp only [Act.put, List.setIfInBounds_toArray, List.set_cons_zero, List.set_cons_succ]
          refine' wpAnyH_take (i := 2) (oi := _) (v := _) ?e_2 ?a_2 ?b_2 ?c_2 ?q_2 ?y_2 hHeld ?r_2
          case e_2 => (simp only [List.getElem?_toArray, List.getElem?_cons_zero, List.getElem?_cons_succ]; exact rfl)
          case a_2 => kernel_rfl
          case b_2 => kernel_rfl
          case c_2 => kernel_rfl
          case q_2 => exact fun _ _ _ h => h
          case y_2 => exact Or.inl ⟨by rfl, by (intro w hSw; (try dsimp only at hSw); go_simp; first | done | with_reducible rfl)⟩
          try simp only [Act.put, List.setIfInBounds_toArray, List.set_cons_zero, List.set_cons_succ]
          refine' wpAnyH_take (i := 3) (oi := _) (v := _) ?e_3 ?a_3 ?b_3 ?c_3 ?q_3 ?y_3 hHeld ?r_3
          case e_3 => (simp only [List.getElem?_toArray, List.getElem?_cons_zero, List.getElem?_cons_succ]; exact rfl)
          case a_3 => kernel_rfl
          case b_3 => kernel_rfl
          case c_3 => kernel_rfl
          case q_3 => exact fun _ _ _ h => h
          case y_3 => exact Or.inl ⟨by rfl, by (intro w hSw; (try dsimp only at hSw); go_simp; first | done | with_reducible rfl)⟩
          try simp only [Act.put, List.setIfInBounds_toArray, List.set_cons_zero, List.set_cons_succ]
          refine' wpAnyH_take (i := 5) (oi := _) (v := _) ?e_4 ?a_4 ?b_4 ?c_4 ?q_4 ?y_4 hHeld ?r_4
          case e_4 => (simp only [List.getElem?_toArray, List.getElem?_cons_zero, List.getElem?_cons_succ]; exact rfl)
          case a_4 => kernel_rfl
          case b_4 => kernel_rfl
          case c_4 => kernel_rfl
          case q_4 => exact fun _ _ _ h => h
          case y_4 => exact Or.inl ⟨by rfl, by (intro w hSw; (try dsimp only at hSw); go_simp; first | done | with_reducible rfl)⟩
          try simp only [Act.put, List.setIfInBounds_toArray, List.set_cons_zero, List.set_cons_succ]
          refine' wpAnyH_take (i := 8) (oi := _) (v := _) ?e_5 ?a_5 ?b_5 ?c_5 ?q_5 ?y_5 hHeld ?r_5
          case e_5 => (simp only [List.getElem?_toArray, List.getElem?_cons_zero, List.getElem?_cons_succ]; exact rfl)
          case a_5 => kernel_rfl
          case b_5 => kernel_rfl
          case c_5 => kernel_rfl
          case q_5 => exact fun _ _ _ h => h
          case y_5 => exact Or.inl ⟨by rfl, by (intro w hSw; (try dsimp only at hSw); go_simp; first | done | with_reducible rfl)⟩
          try simp only [Act.put, List.setIfInBounds_toArray, List.set_cons_zero, List.set_cons_succ]
          refine' wpAnyH_take (i := 9) (oi := _) (v := _) ?e_6 ?a_6 ?b_6 ?c_6 ?q_6 ?y_6 hHeld ?r_6
          case e_6 => (simp only [List.getElem?_toArray, List.getElem?_cons_zero, List.getElem?_cons_succ]; exact rfl)
          case a_6 => kernel_rfl
          case b_6 => kernel_rfl
          case c_6 => kernel_rfl
          case q_6 => exact fun _ _ _ h => h
          case y_6 => exact Or.inl ⟨by rfl, by (intro w hSw; (try dsimp only at hSw); go_simp; first | done | with_reducible rfl)⟩
          try simp only [Act.put, List.setIfInBounds_toArray, List.set_cons_zero, List.set_cons_succ]
          refine' wpAnyH_take (i := 10) (oi := _) (v := _) ?e_7 ?a_7 ?b_7 ?c_7 ?q_7 ?y_7 hHeld ?r_7
          case e_7 => (simp only [List.getElem?_toArray, List.getElem?_cons_zero, List.getElem?_cons_succ]; exact rfl)
          case a_7 => kernel_rfl
          case b_7 => kernel_rfl
          case c_7 => kernel_rfl
          case q_7 => exact fun _ _ _ h => h
          case y_7 => exact Or.inl ⟨by rfl, by (intro w hSw; (try dsimp only at hSw); go_simp; first | done | with_reducible rfl)⟩
          try simp only [Act.put, List.setIfInBounds_toArray, List.set_cons_zero, List.set_cons_succ]
          refine wpAnyH_ready (rs := [0, 6]) (by kernel_rfl) (by simp) ?_
          refine' AllReadyH.cons (o := _) ?e_8 ?st_8 ?more_8
          case e_8 => (simp only [List.getElem?_toArray, List.getElem?_cons_zero, List.getElem?_cons_succ]; exact rfl)
          case st_8 =>
            intro K hK
            go_simp
            have B_wa9 := Below.alc B_wd (.cells #[] 3)
            have zz_wa9 : wd.heap.size < (wd.alloc (.cells #[] 3)).heap.size := by simp
            have O_wa9 := own_lo (lo' := w.heap.size) (World.ownsRow_lit (e := 3) (size := 1) (base := wd.heap.size) wd #[] 0 (Nat.le_refl _) (by decide) rfl) B_wd.size
            generalize wd.heap.size = go at *
            generalize World.alloc _ _ = wa9 at *
            clear B_wd
            refine hK.out _ _ trivial (fun hHeld => ?_)
            clear hK K
            try simp only [Act.put, List.setIfInBounds_toArray, List.set_cons_zero, List.set_cons_succ]
            refine wpAnyH_ready (rs := [4, 6]) (by kernel_rfl) (by simp) ?_
            refine' AllReadyH.cons (o := _) ?e_10 ?st_10 ?more_10
            case e_10 => (simp only [List.getElem?_toArray, List.getElem?_cons_zero, List.getElem?_cons_succ]; exact rfl)
            case st_10 =>
              intro K hK
              refine step_append_at (by rfl) _ _ _ (by rfl) w.heap.size 3 inf (.int .i64 0) 1 8 Tryz.underlying24 hi hz0 hz1 hz2 rfl (by decide) (.slice (some ⟨go, 0, none⟩) 0 0) 0 [] (by rfl) O_wa9 ⟨g, 0, none⟩ k cap (ints (l.take k)) (by rfl) (by first | (simp; done) | (simp; omega)) (own_take (own_keep HO.out B_wa9) k) ints_one (by unfold maxLen; omega) (by omega) B_wa9.size ?_
              intro v1 wa11 O_wa11 hg_wa11 hat_wa11
              have B_wa11 := Below.grown B_wa9 hg_wa11 B_wa9.size (fun q hq => (O_wa9.lt q hq).1)
              clear B_wa9 O_wa9 hg_wa11 hat_wa11
              refine hK.out _ _ trivial (fun hHeld => ?_)
              clear hK K
              try simp only [Act.put, List.setIfInBounds_toArray, List.set_cons_zero, List.set_cons_succ]
              refine wpAnyH_ready (rs := [6]) (by kernel_rfl) (by simp) ?_
              refine' AllReadyH.cons (o := _) ?e_12 ?st_12 AllReadyH.nil
              case e_12 => (simp only [List.getElem?_toArray, List.getElem?_cons_zero, List.getElem?_cons_succ]; exact rfl)
              case st_12 =>
                intro K hK
                go_simp
                have B_wa13 := Below.alc B_wa11 (.cells #[.int .i64 n] 3)
                have zz_wa13 : wa11.heap.size < (wa11.alloc (.cells #[.int .i64 n] 3)).heap.size := by simp
                have N_wa13 : (wa11.alloc (.cells #[.int .i64 n] 3)).cell? ⟨wa11.heap.size, 0, none⟩ = some (.int .i64 n) := by rw [World.cell?_alloc_at _ _ _ _ rfl]; rfl
                have O_wa13 := O_wa11.alloc (.cells #[.int .i64 n] 3)
                have hne2 : v1.ownBlock ≠ some wa11.heap.size := by intro h; have := (O_wa11.lt _ h).2; omega
                generalize wa11.heap.size = gn at *
                generalize World.alloc _ _ = wa13 at *
                clear B_wa11 O_wa11
                refine hK.out _ _ trivial (fun hHeld => ?_)
                clear hK K
                try simp only [Act.put, List.setIfInBounds_toArray, List.set_cons_zero, List.set_cons_succ]
                refine wpAnyH_ready (rs := [7]) (by kernel_rfl) (by simp) ?_
                refine' AllReadyH.cons (o := _) ?e_14 ?st_14 AllReadyH.nil
                case e_14 => (simp only [List.getElem?_toArray, List.getElem?_cons_zero, List.getElem?_cons_succ]; exact rfl)
                case st_14 =>
                  intro K hK
                  refine step_append_at (by rfl) _ _ _ (by rfl) w.heap.size 3 inf (.int .i64 0) 1 8 Tryz.underlying24 hi hz0 hz1 hz2 rfl (by decide) v1 (0 + k) ([] ++ ints (l.take k)) (by rfl) O_wa13 ⟨gn, 0, none⟩ 1 1 [.int .i64 n] (by rfl) (by simp) (fun j u hj => by (cases j with | zero => (simp at hj; subst hj; rw [Addr.add_lit]; exact N_wa13) | succ j => simp at hj)) (by simp [Value.oneCell']) (by unfold maxLen; omega) (by omega) B_wa13.size ?_
                  intro v2 wa15 O_wa15 hg_wa15 hat_wa15
                  have B_wa15 := Below.grown B_wa13 hg_wa15 B_wa13.size (fun q hq => (O_wa13.lt q hq).1)
                  clear B_wa13 O_wa13 hg_wa15 hat_wa15 N_wa13
                  refine hK.out _ _ trivial (fun hHeld => ?_)
                  clear hK K
                  try simp only [Act.put, List.setIfInBounds_toArray, List.set_cons_zero, List.set_cons_succ]
                  refine wpAnyH_ready (rs := [11]) (by kernel_rfl) (by simp) ?_
                  refine' AllReadyH.cons (o := _) ?e_16 ?st_16 AllReadyH.nil
                  case e_16 => (simp only [List.getElem?_toArray, List.getElem?_cons_zero, List.getElem?_cons_succ]; exact rfl)
                  case st_16 =>
                    intro K hK
                    refine step_append_at (by rfl) _ _ _ (by rfl) w.heap.size 3 inf (.int .i64 0) 1 8 Tryz.underlying24 hi hz0 hz1 hz2 rfl (by decide) v2 (0 + k + 1) ([] ++ ints (l.take k) ++ [.int .i64 n]) (by rfl) O_wa15 ⟨g, k, none⟩ (l.length - k) _ (ints (l.drop k)) (by rfl) (by simp) (own_drop (own_keep HO.out B_wa15) k) ints_one (by unfold maxLen; omega) (by omega) B_wa15.size ?_
                    intro v3 wa17 O_wa17 hg_wa17 hat_wa17
                    have B_wa17 := Below.grown B_wa15 hg_wa17 B_wa15.size (fun q hq => (O_wa15.lt q hq).1)
                    clear B_wa15 O_wa15 hg_wa17 hat_wa17
                    refine hK.out _ _ trivial (fun hHeld => ?_)
                    clear hK K
                    try simp only [Act.put, List.setIfInBounds_toArray, List.set_cons_zero, List.set_cons_succ]
                    refine' wpAnyH_take (i := 12) (oi := _) (v := _) ?e_18 ?a_18 ?b_18 ?c_18 ?q_18 ?y_18 hHeld ?r_18
                    case e_18 => (simp only [List.getElem?_toArray, List.getElem?_cons_zero, List.getElem?_cons_succ]; exact rfl)
                    case a_18 => kernel_rfl
                    case b_18 => kernel_rfl
                    case c_18 => kernel_rfl
                    case q_18 => exact fun _ _ _ h => h
                    case y_18 => exact Or.inl ⟨by rfl, by (intro w hSw; (try dsimp only at hSw); go_simp; first | done | with_reducible rfl)⟩
                    try simp only [Act.put, List.setIfInBounds_toArray, List.set_cons_zero, List.set_cons_succ]
                    refine wpAnyH_done (by kernel_rfl) ?_ _
                    obtain ⟨g3, c3, rfl, _, _, _, _⟩ := own_form O_wa17 (by omega)
                    have hpl : (putR l n).length = 0 + k + 1 + (l.length - k) := by rw [HP.out]; first | (simp; done) | (simp; omega)
                    have OO := Lib.hid (show wa17.ownsRow lo 3 1 (.slice (some ⟨g3, 0, none⟩) (putR l n).length c3) (putR l n).length (ints (putR l n)) by rw [hpl]; exact own_lo (ownsRow_cast O_wa17 (by omega) (by rw [HP.out]; simp)) hlo)
                    have HPL := Lib.hid hpl
                    clear O_wa17 hpl
                    go_wp2
                    go_ret
                    exact ⟨g3, c3, by rw [HPL.out]; rfl, OO.out, B_wa17⟩
            case more_10 =>
              refine' AllReadyH.cons (o := _) ?e_19 ?st_19 AllReadyH.nil
              case e_19 => (simp only [List.getElem?_toArray, List.getElem?_cons_zero, List.getElem?_cons_succ]; exact rfl)
              case st_19 =>
                intro K hK
                go_simp
                have B_wa20 := Below.alc B_wa9 (.cells #[.int .i64 n] 3)
                have zz_wa20 : wa9.heap.size < (wa9.alloc (.cells #[.int .i64 n] 3)).heap.size := by simp
                have N_wa20 : (wa9.alloc (.cells #[.int .i64 n] 3)).cell? ⟨wa9.heap.size, 0, none⟩ = some (.int .i64 n) := by rw [World.cell?_alloc_at _ _ _ _ rfl]; rfl
                have O_wa20 := O_wa9.alloc (.cells #[.int .i64 n] 3)
                have hne : wa9.heap.size ≠ go := by have := (O_wa9.lt go rfl).2; omega
                generalize wa9.heap.size = gn at *
                generalize World.alloc _ _ = wa20 at *
                clear B_wa9 O_wa9
                refine hK.out _ _ trivial (fun hHeld => ?_)
                clear hK K
                try simp only [Act.put, List.setIfInBounds_toArray, List.set_cons_zero, List.set_cons_succ]
                refine wpAnyH_ready (rs := [4]) (by kernel_rfl) (by simp) ?_
                refine' AllReadyH.cons (o := _) ?e_21 ?st_21 AllReadyH.nil
                case e_21 => (simp only [List.getElem?_toArray, List.getElem?_cons_zero, List.getElem?_cons_succ]; exact rfl)
                case st_21 =>
                  intro K hK
                  refine step_append_at (by rfl) _ _ _ (by rfl) w.heap.size 3 inf (.int .i64 0) 1 8 Tryz.underlying24 hi hz0 hz1 hz2 rfl (by decide) (.slice (some ⟨go, 0, none⟩) 0 0) 0 [] (by rfl) O_wa20 ⟨g, 0, none⟩ k cap (ints (l.take k)) (by rfl) (by first | (simp; done) | (simp; omega)) (own_take (own_keep HO.out B_wa20) k) ints_one (by unfold maxLen; omega) (by omega) B_wa20.size ?_
                  intro v1 wa22 O_wa22 hg_wa22 hat_wa22
                  have B_wa22 := Below.grown B_wa20 hg_wa22 B_wa20.size (fun q hq => (O_wa20.lt q hq).1)
                  have N_wa22 := hg_wa22.cell N_wa20 (fun h => by injection h with h; exact hne h)
                  have hne2 : v1.ownBlock ≠ some gn := by intro h; rcases hat_wa22 with h2 | h2 <;> rw [h2] at h <;> injection h with h; (first | exact hne h.symm | (have := World.block_lt_of_cell? _ _ N_wa20; simp at this; omega)); (first | exact hne h.symm | (have := World.block_lt_of_cell? _ _ N_wa20; simp at this; omega))
                  clear B_wa20 O_wa20 hg_wa22 hat_wa22 N_wa20
                  refine hK.out _ _ trivial (fun hHeld => ?_)
                  clear hK K
                  try simp only [Act.put, List.setIfInBounds_toArray, List.set_cons_zero, List.set_cons_succ]
                  refine wpAnyH_ready (rs := [7]) (by kernel_rfl) (by simp) ?_
                  refine' AllReadyH.cons (o := _) ?e_23 ?st_23 AllReadyH.nil
                  case e_23 => (simp only [List.getElem?_toArray, List.getElem?_cons_zero, List.getElem?_cons_succ]; exact rfl)
                  case st_23 =>
                    intro K hK
                    refine step_append_at (by rfl) _ _ _ (by rfl) w.heap.size 3 inf (.int .i64 0) 1 8 Tryz.underlying24 hi hz0 hz1 hz2 rfl (by decide) v1 (0 + k) ([] ++ ints (l.take k)) (by rfl) O_wa22 ⟨gn, 0, none⟩ 1 1 [.int .i64 n] (by rfl) (by simp) (fun j u hj => by (cases j with | zero => (simp at hj; subst hj; rw [Addr.add_lit]; exact N_wa22) | succ j => simp at hj)) (by simp [Value.oneCell']) (by unfold maxLen; omega) (by omega) B_wa22.size ?_
                    intro v2 wa24 O_wa24 hg_wa24 hat_wa24
                    have B_wa24 := Below.grown B_wa22 hg_wa24 B_wa22.size (fun q hq => (O_wa22.lt q hq).1)
                    clear B_wa22 O_wa22 hg_wa24 hat_wa24 N_wa22
                    refine hK.out _ _ trivial (fun hHeld => ?_)
                    clear hK K
                    try simp only [Act.put, List.setIfInBounds_toArray, List.set_cons_zero, List.set_cons_succ]
                    refine wpAnyH_ready (rs := [11]) (by kernel_rfl) (by simp) ?_
                    refine' AllReadyH.cons (o := _) ?e_25 ?st_25 AllReadyH.nil
                    case e_25 => (simp only [List.getElem?_toArray, List.getElem?_cons_zero, List.getElem?_cons_succ]; exact rfl)
                    case st_25 =>
                      intro K hK
                      refine step_append_at (by rfl) _ _ _ (by rfl) w.heap.size 3 inf (.int .i64 0) 1 8 Tryz.underlying24 hi hz0 hz1 hz2 rfl (by decide) v2 (0 + k + 1) ([] ++ ints (l.take k) ++ [.int .i64 n]) (by rfl) O_wa24 ⟨g, k, none⟩ (l.length - k) _ (ints (l.drop k)) (by rfl) (by simp) (own_drop (own_keep HO.out B_wa24) k) ints_one (by unfold maxLen; omega) (by omega) B_wa24.size ?_
                      intro v3 wa26 O_wa26 hg_wa26 hat_wa26
                      have B_wa26 := Below.grown B_wa24 hg_wa26 B_wa24.size (fun q hq => (O_wa24.lt q hq).1)
                      clear B_wa24 O_wa24 hg_wa26 hat_wa26
                      refine hK.out _ _ trivial (fun hHeld => ?_)
                      clear hK K
                      try simp only [Act.put, List.setIfInBounds_toArray, List.set_cons_zero, List.set_cons_succ]
                      refine' wpAnyH_take (i := 12) (oi := _) (v := _) ?e_27 ?a_27 ?b_27 ?c_27 ?q_27 ?y_27 hHeld ?r_27
                      case e_27 => (simp only [List.getElem?_toArray, List.getElem?_cons_zero, List.getElem?_cons_succ]; exact rfl)
                      case a_27 => kernel_rfl
                      case b_27 => kernel_rfl
                      case c_27 => kernel_rfl
                      case q_27 => exact fun _ _ _ h => h
                      case y_27 => exact Or.inl ⟨by rfl, by (intro w hSw; (try dsimp only at hSw); go_simp; first | done | with_reducible rfl)⟩
                      try simp only [Act.put, List.setIfInBounds_toArray, List.set_cons_zero, List.set_cons_succ]
                      refine wpAnyH_done (by kernel_rfl) ?_ _
                      obtain ⟨g3, c3, rfl, _, _, _, _⟩ := own_form O_wa26 (by omega)
                      have hpl : (putR l n).length = 0 + k + 1 + (l.length - k) := by rw [HP.out]; first | (simp; done) | (simp; omega)
                      have OO := Lib.hid (show wa26.ownsRow lo 3 1 (.slice (some ⟨g3, 0, none⟩) (putR l n).length c3) (putR l n).length (ints (putR l n)) by rw [hpl]; exact own_lo (ownsRow_cast O_wa26 (by omega) (by rw [HP.out]; simp)) hlo)
                      have HPL := Lib.hid hpl
                      clear O_wa26 hpl
                      go_wp2
                      go_ret
                      exact ⟨g3, c3, by rw [HPL.out]; rfl, OO.out, B_wa26⟩
          case more_8 =>
            refine' AllReadyH.cons (o := _) ?e_28 ?st_28 AllReadyH.nil
            case e_28 => (simp only [List.getElem?_toArray, List.getElem?_cons_zero, List.getElem?_cons_succ]; exact rfl)
            case st_28 =>
              intro K hK
              go_simp
              have B_wa29 := Below.alc B_wd (.cells #[.int .i64 n] 3)
              have zz_wa29 : wd.heap.size < (wd.alloc (.cells #[.int .i64 n] 3)).heap.size := by simp
              have N_wa29 : (wd.alloc (.cells #[.int .i64 n] 3)).cell? ⟨wd.heap.size, 0, none⟩ = some (.int .i64 n) := by rw [World.cell?_alloc_at _ _ _ _ rfl]; rfl
              generalize wd.heap.size = gn at *
              generalize World.alloc _ _ = wa29 at *
              clear B_wd
              refine hK.out _ _ trivial (fun hHeld => ?_)
              clear hK K
              try simp only [Act.put, List.setIfInBounds_toArray, List.set_cons_zero, List.set_cons_succ]
              refine wpAnyH_ready (rs := [0]) (by kernel_rfl) (by simp) ?_
              refine' AllReadyH.cons (o := _) ?e_30 ?st_30 AllReadyH.nil
              case e_30 => (simp only [List.getElem?_toArray, List.getElem?_cons_zero, List.getElem?_cons_succ]; exact rfl)
              case st_30 =>
                intro K hK
                go_simp
                have B_wa31 := Below.alc B_wa29 (.cells #[] 3)
                have zz_wa31 : wa29.heap.size < (wa29.alloc (.cells #[] 3)).heap.size := by simp
                have O_wa31 := own_lo (lo' := w.heap.size) (World.ownsRow_lit (e := 3) (size := 1) (base := wa29.heap.size) wa29 #[] 0 (Nat.le_refl _) (by decide) rfl) B_wa29.size
                have N_wa31 := cell_later (below_one (w := wa29) (.cells #[] 3)) N_wa29
                have hne : gn ≠ wa29.heap.size := by have := World.block_lt_of_cell? _ _ N_wa29; simp at this; omega
                generalize wa29.heap.size = go at *
                generalize World.alloc _ _ = wa31 at *
                clear B_wa29 N_wa29
                refine hK.out _ _ trivial (fun hHeld => ?_)
                clear hK K
                try simp only [Act.put, List.setIfInBounds_toArray, List.set_cons_zero, List.set_cons_succ]
                refine wpAnyH_ready (rs := [4]) (by kernel_rfl) (by simp) ?_
                refine' AllReadyH.cons (o := _) ?e_32 ?st_32 AllReadyH.nil
                case e_32 => (simp only [List.getElem?_toArray, List.getElem?_cons_zero, List.getElem?_cons_succ]; exact rfl)
                case st_32 =>
                  intro K hK
                  refine step_append_at (by rfl) _ _ _ (by rfl) w.heap.size 3 inf (.int .i64 0) 1 8 Tryz.underlying24 hi hz0 hz1 hz2 rfl (by decide) (.slice (some ⟨go, 0, none⟩) 0 0) 0 [] (by rfl) O_wa31 ⟨g, 0, none⟩ k cap (ints (l.take k)) (by rfl) (by first | (simp; done) | (simp; omega)) (own_take (own_keep HO.out B_wa31) k) ints_one (by unfold maxLen; omega) (by omega) B_wa31.size ?_
                  intro v1 wa33 O_wa33 hg_wa33 hat_wa33
                  have B_wa33 := Below.grown B_wa31 hg_wa33 B_wa31.size (fun q hq => (O_wa31.lt q hq).1)
                  have N_wa33 := hg_wa33.cell N_wa31 (fun h => by injection h with h; exact hne h)
                  have hne2 : v1.ownBlock ≠ some gn := by intro h; rcases hat_wa33 with h2 | h2 <;> rw [h2] at h <;> injection h with h; (first | exact hne h.symm | (have := World.block_lt_of_cell? _ _ N_wa31; simp at this; omega)); (first | exact hne h.symm | (have := World.block_lt_of_cell? _ _ N_wa31; simp at this; omega))
                  clear B_wa31 O_wa31 hg_wa33 hat_wa33 N_wa31
                  refine hK.out _ _ trivial (fun hHeld => ?_)
                  clear hK K
                  try simp only [Act.put, List.setIfInBounds_toArray, List.set_cons_zero, List.set_cons_succ]
                  refine wpAnyH_ready (rs := [7]) (by kernel_rfl) (by simp) ?_
                  refine' AllReadyH.cons (o := _) ?e_34 ?st_34 AllReadyH.nil
                  case e_34 => (simp only [List.getElem?_toArray, List.getElem?_cons_zero, List.getElem?_cons_succ]; exact rfl)
                  case st_34 =>
                    intro K hK
                    refine step_append_at (by rfl) _ _ _ (by rfl) w.heap.size 3 inf (.int .i64 0) 1 8 Tryz.underlying24 hi hz0 hz1 hz2 rfl (by decide) v1 (0 + k) ([] ++ ints (l.take k)) (by rfl) O_wa33 ⟨gn, 0, none⟩ 1 1 [.int .i64 n] (by rfl) (by simp) (fun j u hj => by (cases j with | zero => (simp at hj; subst hj; rw [Addr.add_lit]; exact N_wa33) | succ j => simp at hj)) (by simp [Value.oneCell']) (by unfold maxLen; omega) (by omega) B_wa33.size ?_
                    intro v2 wa35 O_wa35 hg_wa35 hat_wa35
                    have B_wa35 := Below.grown B_wa33 hg_wa35 B_wa33.size (fun q hq => (O_wa33.lt q hq).1)
                    clear B_wa33 O_wa33 hg_wa35 hat_wa35 N_wa33
                    refine hK.out _ _ trivial (fun hHeld => ?_)
                    clear hK K
                    try simp only [Act.put, List.setIfInBounds_toArray, List.set_cons_zero, List.set_cons_succ]
                    refine wpAnyH_ready (rs := [11]) (by kernel_rfl) (by simp) ?_
                    refine' AllReadyH.cons (o := _) ?e_36 ?st_36 AllReadyH.nil
                    case e_36 => (simp only [List.getElem?_toArray, List.getElem?_cons_zero, List.getElem?_cons_succ]; exact rfl)
                    case st_36 =>
                      intro K hK
                      refine step_append_at (by rfl) _ _ _ (by rfl) w.heap.size 3 inf (.int .i64 0) 1 8 Tryz.underlying24 hi hz0 hz1 hz2 rfl (by decide) v2 (0 + k + 1) ([] ++ ints (l.take k) ++ [.int .i64 n]) (by rfl) O_wa35 ⟨g, k, none⟩ (l.length - k) _ (ints (l.drop k)) (by rfl) (by simp) (own_drop (own_keep HO.out B_wa35) k) ints_one (by unfold maxLen; omega) (by omega) B_wa35.size ?_
                      intro v3 wa37 O_wa37 hg_wa37 hat_wa37
                      have B_wa37 := Below.grown B_wa35 hg_wa37 B_wa35.size (fun q hq => (O_wa35.lt q hq).1)
                      clear B_wa35 O_wa35 hg_wa37 hat_wa37
                      refine hK.out _ _ trivial (fun hHeld => ?_)
                      clear hK K
                      try simp only [Act.put, List.setIfInBounds_toArray, List.set_cons_zero, List.set_cons_succ]
                      refine' wpAnyH_take (i := 12) (oi := _) (v := _) ?e_38 ?a_38 ?b_38 ?c_38 ?q_38 ?y_38 hHeld ?r_38
                      case e_38 => (simp only [List.getElem?_toArray, List.getElem?_cons_zero, List.getElem?_cons_succ]; exact rfl)
                      case a_38 => kernel_rfl
                      case b_38 => kernel_rfl
                      case c_38 => kernel_rfl
                      case q_38 => exact fun _ _ _ h => h
                      case y_38 => exact Or.inl ⟨by rfl, by (intro w hSw; (try dsimp only at hSw); go_simp; first | done | with_reducible rfl)⟩
                      try simp only [Act.put, List.setIfInBounds_toArray, List.set_cons_zero, List.set_cons_succ]
                      refine wpAnyH_done (by kernel_rfl) ?_ _
                      obtain ⟨g3, c3, rfl, _, _, _, _⟩ := own_form O_wa37 (by omega)
                      have hpl : (putR l n).length = 0 + k + 1 + (l.length - k) := by rw [HP.out]; first | (simp; done) | (simp; omega)
                      have OO := Lib.hid (show wa37.ownsRow lo 3 1 (.slice (some ⟨g3, 0, none⟩) (putR l n).length c3) (putR l n).length (ints (putR l n)) by rw [hpl]; exact own_lo (ownsRow_cast O_wa37 (by omega) (by rw [HP.out]; simp)) hlo)
                      have HPL := Lib.hid hpl
                      clear O_wa37 hpl
                      go_wp2
                      go_ret
                      exact ⟨g3, c3, by rw [HPL.out]; rfl, OO.out, B_wa37⟩
    · obtain rfl : k = l.length := by omega
      have hput := putR_at l n l.length (by omega) hbef.out (fun y hy => by rw [List.getElem?_eq_none (Nat.le_refl _)] at hy; cases hy)
      rw [if_neg (by rw [List.getElem?_eq_none (Nat.le_refl _)]; simp)] at hput
      have HP := Lib.hid hput
      clear hbef hput
      by_cases hce : cap = l.length
      · have hck : (cap = l.length) = True := by simp [hce]
        have hce2 : ((cap : Nat) : Int) = (l.length : Int) := by omega
        have HCE := Lib.hid hce
        clear hce hce2
        go_wp2
        have n0 : (0 : Int) ≤ ((l.length : Nat) : Int) := by omega
        have n1 : ((l.length : Nat) : Int) ≤ (l.length : Int) := by omega
        have n2 : (l.length : Int) ≤ (cap : Int) := by omega
        have n3 : ((l.length : Nat) : Int) ≤ (cap : Int) := by omega
        refine wp_region_held_drew (S := fun _ : World => True) (by kernel_rfl) trivial (fun hHeld => ?_)
        have B_wd : Below w.heap.size w w.drew := (Below.refl _ _).drew
        generalize w.drew = wd at *
        refine' wpAnyH_take (i := 1) (oi := _) (v := _) ?e_39 ?a_39 ?b_39 ?c_39 ?q_39 ?y_39 hHeld ?r_39
        case e_39 => (simp only [List.getElem?_toArray, List.getElem?_cons_zero, List.getElem?_cons_succ]; exact rfl)
        case a_39 => kernel_rfl
        case b_39 => kernel_rfl
        case c_39 => kernel_rfl
        case q_39 => exact fun _ _ _ h => h
        case y_39 => exact Or.inl ⟨by rfl, by (intro w hSw; (try dsimp only at hSw); go_simp; first | done | with_reducible rfl)⟩
        try simp only [Act.put, List.setIfInBounds_toArray, List.set_cons_zero, List.set_cons_succ]
        refine' wpAnyH_take (i := 2) (oi := _) (v := _) ?e_40 ?a_40 ?b_40 ?c_40 ?q_40 ?y_40 hHeld ?r_40
        case e_40 => (simp only [List.getElem?_toArray, List.getElem?_cons_zero, List.getElem?_cons_succ]; exact rfl)
        case a_40 => kernel_rfl
        case b_40 => kernel_rfl
        case c_40 => kernel_rfl
        case q_40 => exact fun _ _ _ h => h
        case y_40 => exact Or.inl ⟨by rfl, by (intro w hSw; (try dsimp only at hSw); go_simp; first | done | with_reducible rfl)⟩
        try simp only [Act.put, List.setIfInBounds_toArray, List.set_cons_zero, List.set_cons_succ]
        refine' wpAnyH_take (i := 3) (oi := _) (v := _) ?e_41 ?a_41 ?b_41 ?c_41 ?q_41 ?y_41 hHeld ?r_41
        case e_41 => (simp only [List.getElem?_toArray, List.getElem?_cons_zero, List.getElem?_cons_succ]; exact rfl)
        case a_41 => kernel_rfl
        case b_41 => kernel_rfl
        case c_41 => kernel_rfl
        case q_41 => exact fun _ _ _ h => h
        case y_41 => exact Or.inl ⟨by rfl, by (intro w hSw; (try dsimp only at hSw); go_simp; first | done | with_reducible rfl)⟩
        try simp only [Act.put, List.setIfInBounds_toArray, List.set_cons_zero, List.set_cons_succ]
        refine' wpAnyH_take (i := 5) (oi := _) (v := _) ?e_42 ?a_42 ?b_42 ?c_42 ?q_42 ?y_42 hHeld ?r_42
        case e_42 => (simp only [List.getElem?_toArray, List.getElem?_cons_zero, List.getElem?_cons_succ]; exact rfl)
        case a_42 => kernel_rfl
        case b_42 => kernel_rfl
        case c_42 => kernel_rfl
        case q_42 => exact fun _ _ _ h => h
        case y_42 => exact Or.inl ⟨by rfl, by (intro w hSw; (try dsimp only at hSw); go_simp; first | done | with_reducible rfl)⟩
        try simp only [Act.put, List.setIfInBounds_toArray, List.set_cons_zero, List.set_cons_succ]
        refine' wpAnyH_take (i := 8) (oi := _) (v := _) ?e_43 ?a_43 ?b_43 ?c_43 ?q_43 ?y_43 hHeld ?r_43
        case e_43 => (simp only [List.getElem?_toArray, List.getElem?_cons_zero, List.getElem?_cons_succ]; exact rfl)
        case a_43 => kernel_rfl
        case b_43 => kernel_rfl
        case c_43 => kernel_rfl
        case q_43 => exact fun _ _ _ h => h
        case y_43 => exact Or.inl ⟨by rfl, by (intro w hSw; (try dsimp only at hSw); go_simp; first | done | with_reducible rfl)⟩
        try simp only [Act.put, List.setIfInBounds_toArray, List.set_cons_zero, List.set_cons_succ]
        refine' wpAnyH_take (i := 9) (oi := _) (v := _) ?e_44 ?a_44 ?b_44 ?c_44 ?q_44 ?y_44 hHeld ?r_44
        case e_44 => (simp only [List.getElem?_toArray, List.getElem?_cons_zero, List.getElem?_cons_succ]; exact rfl)
        case a_44 => kernel_rfl
        case b_44 => kernel_rfl
        case c_44 => kernel_rfl
        case q_44 => exact fun _ _ _ h => h
        case y_44 => exact Or.inl ⟨by rfl, by (intro w hSw; (try dsimp only at hSw); go_simp; first | done | with_reducible rfl)⟩
        try simp only [Act.put, List.setIfInBounds_toArray, List.set_cons_zero, List.set_cons_succ]
        refine' wpAnyH_take (i := 10) (oi := _) (v := _) ?e_45 ?a_45 ?b_45 ?c_45 ?q_45 ?y_45 hHeld ?r_45
        case e_45 => (simp only [List.getElem?_toArray, List.getElem?_cons_zero, List.getElem?_cons_succ]; exact rfl)
        case a_45 => kernel_rfl
        case b_45 => kernel_rfl
        case c_45 => kernel_rfl
        case q_45 => exact fun _ _ _ h => h
        case y_45 => exact Or.inl ⟨by rfl, by (intro w hSw; (try dsimp only at hSw); go_simp; first | done | with_reducible rfl)⟩
        try simp only [Act.put, List.setIfInBounds_toArray, List.set_cons_zero, List.set_cons_succ]
        refine wpAnyH_ready (rs := [0, 6]) (by kernel_rfl) (by simp) ?_
        refine' AllReadyH.cons (o := _) ?e_46 ?st_46 ?more_46
        case e_46 => (simp only [List.getElem?_toArray, List.getElem?_cons_zero, List.getElem?_cons_succ]; exact rfl)
        case st_46 =>
          intro K hK
          go_simp
          have B_wa47 := Below.alc B_wd (.cells #[] 3)
          have zz_wa47 : wd.heap.size < (wd.alloc (.cells #[] 3)).heap.size := by simp
          have O_wa47 := own_lo (lo' := w.heap.size) (World.ownsRow_lit (e := 3) (size := 1) (base := wd.heap.size) wd #[] 0 (Nat.le_refl _) (by decide) rfl) B_wd.size
          generalize wd.heap.size = go at *
          generalize World.alloc _ _ = wa47 at *
          clear B_wd
          refine hK.out _ _ trivial (fun hHeld => ?_)
          clear hK K
          try simp only [Act.put, List.setIfInBounds_toArray, List.set_cons_zero, List.set_cons_succ]
          refine wpAnyH_ready (rs := [4, 6]) (by kernel_rfl) (by simp) ?_
          refine' AllReadyH.cons (o := _) ?e_48 ?st_48 ?more_48
          case e_48 => (simp only [List.getElem?_toArray, List.getElem?_cons_zero, List.getElem?_cons_succ]; exact rfl)
          case st_48 =>
            intro K hK
            refine step_append_at (by rfl) _ _ _ (by rfl) w.heap.size 3 inf (.int .i64 0) 1 8 Tryz.underlying24 hi hz0 hz1 hz2 rfl (by decide) (.slice (some ⟨go, 0, none⟩) 0 0) 0 [] (by rfl) O_wa47 ⟨g, 0, none⟩ l.length cap (ints (l.take l.length)) (by rfl) (by first | (simp; done) | (simp; omega)) (own_take (own_keep HO.out B_wa47) l.length) ints_one (by unfold maxLen; omega) (by omega) B_wa47.size ?_
            intro v1 wa49 O_wa49 hg_wa49 hat_wa49
            have B_wa49 := Below.grown B_wa47 hg_wa49 B_wa47.size (fun q hq => (O_wa47.lt q hq).1)
            clear B_wa47 O_wa47 hg_wa49 hat_wa49
            refine hK.out _ _ trivial (fun hHeld => ?_)
            clear hK K
            try simp only [Act.put, List.setIfInBounds_toArray, List.set_cons_zero, List.set_cons_succ]
            refine wpAnyH_ready (rs := [6]) (by kernel_rfl) (by simp) ?_
            refine' AllReadyH.cons (o := _) ?e_50 ?st_50 AllReadyH.nil
            case e_50 => (simp only [List.getElem?_toArray, List.getElem?_cons_zero, List.getElem?_cons_succ]; exact rfl)
            case st_50 =>
              intro K hK
              go_simp
              have B_wa51 := Below.alc B_wa49 (.cells #[.int .i64 n] 3)
              have zz_wa51 : wa49.heap.size < (wa49.alloc (.cells #[.int .i64 n] 3)).heap.size := by simp
              have N_wa51 : (wa49.alloc (.cells #[.int .i64 n] 3)).cell? ⟨wa49.heap.size, 0, none⟩ = some (.int .i64 n) := by rw [World.cell?_alloc_at _ _ _ _ rfl]; rfl
              have O_wa51 := O_wa49.alloc (.cells #[.int .i64 n] 3)
              have hne2 : v1.ownBlock ≠ some wa49.heap.size := by intro h; have := (O_wa49.lt _ h).2; omega
              generalize wa49.heap.size = gn at *
              generalize World.alloc _ _ = wa51 at *
              clear B_wa49 O_wa49
              refine hK.out _ _ trivial (fun hHeld => ?_)
              clear hK K
              try simp only [Act.put, List.setIfInBounds_toArray, List.set_cons_zero, List.set_cons_succ]
              refine wpAnyH_ready (rs := [7]) (by kernel_rfl) (by simp) ?_
              refine' AllReadyH.cons (o := _) ?e_52 ?st_52 AllReadyH.nil
              case e_52 => (simp only [List.getElem?_toArray, List.getElem?_cons_zero, List.getElem?_cons_succ]; exact rfl)
              case st_52 =>
                intro K hK
                refine step_append_at (by rfl) _ _ _ (by rfl) w.heap.size 3 inf (.int .i64 0) 1 8 Tryz.underlying24 hi hz0 hz1 hz2 rfl (by decide) v1 (0 + l.length) ([] ++ ints (l.take l.length)) (by rfl) O_wa51 ⟨gn, 0, none⟩ 1 1 [.int .i64 n] (by rfl) (by simp) (fun j u hj => by (cases j with | zero => (simp at hj; subst hj; rw [Addr.add_lit]; exact N_wa51) | succ j => simp at hj)) (by simp [Value.oneCell']) (by unfold maxLen; omega) (by omega) B_wa51.size ?_
                intro v2 wa53 O_wa53 hg_wa53 hat_wa53
                have B_wa53 := Below.grown B_wa51 hg_wa53 B_wa51.size (fun q hq => (O_wa51.lt q hq).1)
                clear B_wa51 O_wa51 hg_wa53 hat_wa53 N_wa51
                refine hK.out _ _ trivial (fun hHeld => ?_)
                clear hK K
                try simp only [Act.put, List.setIfInBounds_toArray, List.set_cons_zero, List.set_cons_succ]
                refine wpAnyH_ready (rs := [11]) (by kernel_rfl) (by simp) ?_
                refine' AllReadyH.cons (o := _) ?e_54 ?st_54 AllReadyH.nil
                case e_54 => (simp only [List.getElem?_toArray, List.getElem?_cons_zero, List.getElem?_cons_succ]; exact rfl)
                case st_54 =>
                  intro K hK
                  refine step_append_at (by rfl) _ _ _ (by rfl) w.heap.size 3 inf (.int .i64 0) 1 8 Tryz.underlying24 hi hz0 hz1 hz2 rfl (by decide) v2 (0 + l.length + 1) ([] ++ ints (l.take l.length) ++ [.int .i64 n]) (by rfl) O_wa53 _ _ _ [] (by rfl) (by simp) (fun j u hj => by simp at hj) (by simp) (by unfold maxLen; omega) (by omega) B_wa53.size ?_
                  intro v3 wa55 O_wa55 hg_wa55 hat_wa55
                  have B_wa55 := Below.grown B_wa53 hg_wa55 B_wa53.size (fun q hq => (O_wa53.lt q hq).1)
                  clear B_wa53 O_wa53 hg_wa55 hat_wa55
                  refine hK.out _ _ trivial (fun hHeld => ?_)
                  clear hK K
                  try simp only [Act.put, List.setIfInBounds_toArray, List.set_cons_zero, List.set_cons_succ]
                  refine' wpAnyH_take (i := 12) (oi := _) (v := _) ?e_56 ?a_56 ?b_56 ?c_56 ?q_56 ?y_56 hHeld ?r_56
                  case e_56 => (simp only [List.getElem?_toArray, List.getElem?_cons_zero, List.getElem?_cons_succ]; exact rfl)
                  case a_56 => kernel_rfl
                  case b_56 => kernel_rfl
                  case c_56 => kernel_rfl
                  case q_56 => exact fun _ _ _ h => h
                  case y_56 => exact Or.inl ⟨by rfl, by (intro w hSw; (try dsimp only at hSw); go_simp; first | done | with_reducible rfl)⟩
                  try simp only [Act.put, List.setIfInBounds_toArray, List.set_cons_zero, List.set_cons_succ]
                  refine wpAnyH_done (by kernel_rfl) ?_ _
                  obtain ⟨g3, c3, rfl, _, _, _, _⟩ := own_form O_wa55 (by omega)
                  have hpl : (putR l n).length = 0 + l.length + 1 + 0 := by rw [HP.out]; first | (simp; done) | (simp; omega)
                  have OO := Lib.hid (show wa55.ownsRow lo 3 1 (.slice (some ⟨g3, 0, none⟩) (putR l n).length c3) (putR l n).length (ints (putR l n)) by rw [hpl]; exact own_lo (ownsRow_cast O_wa55 (by omega) (by rw [HP.out]; simp)) hlo)
                  have HPL := Lib.hid hpl
                  clear O_wa55 hpl
                  go_wp2
                  go_ret
                  exact ⟨g3, c3, by rw [HPL.out]; rfl, OO.out, B_wa55⟩
          case more_48 =>
            refine' AllReadyH.cons (o := _) ?e_57 ?st_57 AllReadyH.nil
            case e_57 => (simp only [List.getElem?_toArray, List.getElem?_cons_zero, List.getElem?_cons_succ]; exact rfl)
            case st_57 =>
              intro K hK
              go_simp
              have B_wa58 := Below.alc B_wa47 (.cells #[.int .i64 n] 3)
              have zz_wa58 : wa47.heap.size < (wa47.alloc (.cells #[.int .i64 n] 3)).heap.size := by simp
              have N_wa58 : (wa47.alloc (.cells #[.int .i64 n] 3)).cell? ⟨wa47.heap.size, 0, none⟩ = some (.int .i64 n) := by rw [World.cell?_alloc_at _ _ _ _ rfl]; rfl
              have O_wa58 := O_wa47.alloc (.cells #[.int .i64 n] 3)
              have hne : wa47.heap.size ≠ go := by have := (O_wa47.lt go rfl).2; omega
              generalize wa47.heap.size = gn at *
              generalize World.alloc _ _ = wa58 at *
              clear B_wa47 O_wa47
              refine hK.out _ _ trivial (fun hHeld => ?_)
              clear hK K
              try simp only [Act.put, List.setIfInBounds_toArray, List.set_cons_zero, List.set_cons_succ]
              refine wpAnyH_ready (rs := [4]) (by kernel_rfl) (by simp) ?_
              refine' AllReadyH.cons (o := _) ?e_59 ?st_59 AllReadyH.nil
              case e_59 => (simp only [List.getElem?_toArray, List.getElem?_cons_zero, List.getElem?_cons_succ]; exact rfl)
              case st_59 =>
                intro K hK
                refine step_append_at (by rfl) _ _ _ (by rfl) w.heap.size 3 inf (.int .i64 0) 1 8 Tryz.underlying24 hi hz0 hz1 hz2 rfl (by decide) (.slice (some ⟨go, 0, none⟩) 0 0) 0 [] (by rfl) O_wa58 ⟨g, 0, none⟩ l.length cap (ints (l.take l.length)) (by rfl) (by first | (simp; done) | (simp; omega)) (own_take (own_keep HO.out B_wa58) l.length) ints_one (by unfold maxLen; omega) (by omega) B_wa58.size ?_
                intro v1 wa60 O_wa60 hg_wa60 hat_wa60
                have B_wa60 := Below.grown B_wa58 hg_wa60 B_wa58.size (fun q hq => (O_wa58.lt q hq).1)
                have N_wa60 := hg_wa60.cell N_wa58 (fun h => by injection h with h; exact hne h)
                have hne2 : v1.ownBlock ≠ some gn := by intro h; rcases hat_wa60 with h2 | h2 <;> rw [h2] at h <;> injection h with h; (first | exact hne h.symm | (have := World.block_lt_of_cell? _ _ N_wa58; simp at this; omega)); (first | exact hne h.symm | (have := World.block_lt_of_cell? _ _ N_wa58; simp at this; omega))
                clear B_wa58 O_wa58 hg_wa60 hat_wa60 N_wa58
                refine hK.out _ _ trivial (fun hHeld => ?_)
                clear hK K
                try simp only [Act.put, List.setIfInBounds_toArray, List.set_cons_zero, List.set_cons_succ]
                refine wpAnyH_ready (rs := [7]) (by kernel_rfl) (by simp) ?_
                refine' AllReadyH.cons (o := _) ?e_61 ?st_61 AllReadyH.nil
                case e_61 => (simp only [List.getElem?_toArray, List.getElem?_cons_zero, List.getElem?_cons_succ]; exact rfl)
                case st_61 =>
                  intro K hK
                  refine step_append_at (by rfl) _ _ _ (by rfl) w.heap.size 3 inf (.int .i64 0) 1 8 Tryz.underlying24 hi hz0 hz1 hz2 rfl (by decide) v1 (0 + l.length) ([] ++ ints (l.take l.length)) (by rfl) O_wa60 ⟨gn, 0, none⟩ 1 1 [.int .i64 n] (by rfl) (by simp) (fun j u hj => by (cases j with | zero => (simp at hj; subst hj; rw [Addr.add_lit]; exact N_wa60) | succ j => simp at hj)) (by simp [Value.oneCell']) (by unfold maxLen; omega) (by omega) B_wa60.size ?_
                  intro v2 wa62 O_wa62 hg_wa62 hat_wa62
                  have B_wa62 := Below.grown B_wa60 hg_wa62 B_wa60.size (fun q hq => (O_wa60.lt q hq).1)
                  clear B_wa60 O_wa60 hg_wa62 hat_wa62 N_wa60
                  refine hK.out _ _ trivial (fun hHeld => ?_)
                  clear hK K
                  try simp only [Act.put, List.setIfInBounds_toArray, List.set_cons_zero, List.set_cons_succ]
                  refine wpAnyH_ready (rs := [11]) (by kernel_rfl) (by simp) ?_
                  refine' AllReadyH.cons (o := _) ?e_63 ?st_63 AllReadyH.nil
                  case e_63 => (simp only [List.getElem?_toArray, List.getElem?_cons_zero, List.getElem?_cons_succ]; exact rfl)
                  case st_63 =>
                    intro K hK
                    refine step_append_at (by rfl) _ _ _ (by rfl) w.heap.size 3 inf (.int .i64 0) 1 8 Tryz.underlying24 hi hz0 hz1 hz2 rfl (by decide) v2 (0 + l.length + 1) ([] ++ ints (l.take l.length) ++ [.int .i64 n]) (by rfl) O_wa62 _ _ _ [] (by rfl) (by simp) (fun j u hj => by simp at hj) (by simp) (by unfold maxLen; omega) (by omega) B_wa62.size ?_
                    intro v3 wa64 O_wa64 hg_wa64 hat_wa64
                    have B_wa64 := Below.grown B_wa62 hg_wa64 B_wa62.size (fun q hq => (O_wa62.lt q hq).1)
                    clear B_wa62 O_wa62 hg_wa64 hat_wa64
                    refine hK.out _ _ trivial (fun hHeld => ?_)
                    clear hK K
                    try simp only [Act.put, List.setIfInBounds_toArray, List.set_cons_zero, List.set_cons_succ]
                    refine' wpAnyH_take (i := 12) (oi := _) (v := _) ?e_65 ?a_65 ?b_65 ?c_65 ?q_65 ?y_65 hHeld ?r_65
                    case e_65 => (simp only [List.getElem?_toArray, List.getElem?_cons_zero, List.getElem?_cons_succ]; exact rfl)
                    case a_65 => kernel_rfl
                    case b_65 => kernel_rfl
                    case c_65 => kernel_rfl
                    case q_65 => exact fun _ _ _ h => h
                    case y_65 => exact Or.inl ⟨by rfl, by (intro w hSw; (try dsimp only at hSw); go_simp; first | done | with_reducible rfl)⟩
                    try simp only [Act.put, List.setIfInBounds_toArray, List.set_cons_zero, List.set_cons_succ]
                    refine wpAnyH_done (by kernel_rfl) ?_ _
                    obtain ⟨g3, c3, rfl, _, _, _, _⟩ := own_form O_wa64 (by omega)
                    have hpl : (putR l n).length = 0 + l.length + 1 + 0 := by rw [HP.out]; first | (simp; done) | (simp; omega)
                    have OO := Lib.hid (show wa64.ownsRow lo 3 1 (.slice (some ⟨g3, 0, none⟩) (putR l n).length c3) (putR l n).length (ints (putR l n)) by rw [hpl]; exact own_lo (ownsRow_cast O_wa64 (by omega) (by rw [HP.out]; simp)) hlo)
                    have HPL := Lib.hid hpl
                    clear O_wa64 hpl
                    go_wp2
                    go_ret
                    exact ⟨g3, c3, by rw [HPL.out]; rfl, OO.out, B_wa64⟩
        case more_46 =>
          refine' AllReadyH.cons (o := _) ?e_66 ?st_66 AllReadyH.nil
          case e_66 => (simp only [List.getElem?_toArray, List.getElem?_cons_zero, List.getElem?_cons_succ]; exact rfl)
          case st_66 =>
            intro K hK
            go_simp
            have B_wa67 := Below.alc B_wd (.cells #[.int .i64 n] 3)
            have zz_wa67 : wd.heap.size < (wd.alloc (.cells #[.int .i64 n] 3)).heap.size := by simp
            have N_wa67 : (wd.alloc (.cells #[.int .i64 n] 3)).cell? ⟨wd.heap.size, 0, none⟩ = some (.int .i64 n) := by rw [World.cell?_alloc_at _ _ _ _ rfl]; rfl
            generalize wd.heap.size = gn at *
            generalize World.alloc _ _ = wa67 at *
            clear B_wd
            refine hK.out _ _ trivial (fun hHeld => ?_)
            clear hK K
            try simp only [Act.put, List.setIfInBounds_toArray, List.set_cons_zero, List.set_cons_succ]
            refine wpAnyH_ready (rs := [0]) (by kernel_rfl) (by simp) ?_
            refine' AllReadyH.cons (o := _) ?e_68 ?st_68 AllReadyH.nil
            case e_68 => (simp only [List.getElem?_toArray, List.getElem?_cons_zero, List.getElem?_cons_succ]; exact rfl)
            case st_68 =>
              intro K hK
              go_simp
              have B_wa69 := Below.alc B_wa67 (.cells #[] 3)
              have zz_wa69 : wa67.heap.size < (wa67.alloc (.cells #[] 3)).heap.size := by simp
              have O_wa69 := own_lo (lo' := w.heap.size) (World.ownsRow_lit (e := 3) (size := 1) (base := wa67.heap.size) wa67 #[] 0 (Nat.le_refl _) (by decide) rfl) B_wa67.size
              have N_wa69 := cell_later (below_one (w := wa67) (.cells #[] 3)) N_wa67
              have hne : gn ≠ wa67.heap.size := by have := World.block_lt_of_cell? _ _ N_wa67; simp at this; omega
              generalize wa67.heap.size = go at *
              generalize World.alloc _ _ = wa69 at *
              clear B_wa67 N_wa67
              refine hK.out _ _ trivial (fun hHeld => ?_)
              clear hK K
              try simp only [Act.put, List.setIfInBounds_toArray, List.set_cons_zero, List.set_cons_succ]
              refine wpAnyH_ready (rs := [4]) (by kernel_rfl) (by simp) ?_
              refine' AllReadyH.cons (o := _) ?e_70 ?st_70 AllReadyH.nil
              case e_70 => (simp only [List.getElem?_toArray, List.getElem?_cons_zero, List.getElem?_cons_succ]; exact rfl)
              case st_70 =>
                intro K hK
                refine step_append_at (by rfl) _ _ _ (by rfl) w.heap.size 3 inf (.int .i64 0) 1 8 Tryz.underlying24 hi hz0 hz1 hz2 rfl (by decide) (.slice (some ⟨go, 0, none⟩) 0 0) 0 [] (by rfl) O_wa69 ⟨g, 0, none⟩ l.length cap (ints (l.take l.length)) (by rfl) (by first | (simp; done) | (simp; omega)) (own_take (own_keep HO.out B_wa69) l.length) ints_one (by unfold maxLen; omega) (by omega) B_wa69.size ?_
                intro v1 wa71 O_wa71 hg_wa71 hat_wa71
                have B_wa71 := Below.grown B_wa69 hg_wa71 B_wa69.size (fun q hq => (O_wa69.lt q hq).1)
                have N_wa71 := hg_wa71.cell N_wa69 (fun h => by injection h with h; exact hne h)
                have hne2 : v1.ownBlock ≠ some gn := by intro h; rcases hat_wa71 with h2 | h2 <;> rw [h2] at h <;> injection h with h; (first | exact hne h.symm | (have := World.block_lt_of_cell? _ _ N_wa69; simp at this; omega)); (first | exact hne h.symm | (have := World.block_lt_of_cell? _ _ N_wa69; simp at this; omega))
                clear B_wa69 O_wa69 hg_wa71 hat_wa71 N_wa69
                refine hK.out _ _ trivial (fun hHeld => ?_)
                clear hK K
                try simp only [Act.put, List.setIfInBounds_toArray, List.set_cons_zero, List.set_cons_succ]
                refine wpAnyH_ready (rs := [7]) (by kernel_rfl) (by simp) ?_
                refine' AllReadyH.cons (o := _) ?e_72 ?st_72 AllReadyH.nil
                case e_72 => (simp only [List.getElem?_toArray, List.getElem?_cons_zero, List.getElem?_cons_succ]; exact rfl)
                case st_72 =>
                  intro K hK
                  refine step_append_at (by rfl) _ _ _ (by rfl) w.heap.size 3 inf (.int .i64 0) 1 8 Tryz.underlying24 hi hz0 hz1 hz2 rfl (by decide) v1 (0 + l.length) ([] ++ ints (l.take l.length)) (by rfl) O_wa71 ⟨gn, 0, none⟩ 1 1 [.int .i64 n] (by rfl) (by simp) (fun j u hj => by (cases j with | zero => (simp at hj; subst hj; rw [Addr.add_lit]; exact N_wa71) | succ j => simp at hj)) (by simp [Value.oneCell']) (by unfold maxLen; omega) (by omega) B_wa71.size ?_
                  intro v2 wa73 O_wa73 hg_wa73 hat_wa73
                  have B_wa73 := Below.grown B_wa71 hg_wa73 B_wa71.size (fun q hq => (O_wa71.lt q hq).1)
                  clear B_wa71 O_wa71 hg_wa73 hat_wa73 N_wa71
                  refine hK.out _ _ trivial (fun hHeld => ?_)
                  clear hK K
                  try simp only [Act.put, List.setIfInBounds_toArray, List.set_cons_zero, List.set_cons_succ]
                  refine wpAnyH_ready (rs := [11]) (by kernel_rfl) (by simp) ?_
                  refine' AllReadyH.cons (o := _) ?e_74 ?st_74 AllReadyH.nil
                  case e_74 => (simp only [List.getElem?_toArray, List.getElem?_cons_zero, List.getElem?_cons_succ]; exact rfl)
                  case st_74 =>
                    intro K hK
                    refine step_append_at (by rfl) _ _ _ (by rfl) w.heap.size 3 inf (.int .i64 0) 1 8 Tryz.underlying24 hi hz0 hz1 hz2 rfl (by decide) v2 (0 + l.length + 1) ([] ++ ints (l.take l.length) ++ [.int .i64 n]) (by rfl) O_wa73 _ _ _ [] (by rfl) (by simp) (fun j u hj => by simp at hj) (by simp) (by unfold maxLen; omega) (by omega) B_wa73.size ?_
                    intro v3 wa75 O_wa75 hg_wa75 hat_wa75
                    have B_wa75 := Below.grown B_wa73 hg_wa75 B_wa73.size (fun q hq => (O_wa73.lt q hq).1)
                    clear B_wa73 O_wa73 hg_wa75 hat_wa75
                    refine hK.out _ _ trivial (fun hHeld => ?_)
                    clear hK K
                    try simp only [Act.put, List.setIfInBounds_toArray, List.set_cons_zero, List.set_cons_succ]
                    refine' wpAnyH_take (i := 12) (oi := _) (v := _) ?e_76 ?a_76 ?b_76 ?c_76 ?q_76 ?y_76 hHeld ?r_76
                    case e_76 => (simp only [List.getElem?_toArray, List.getElem?_cons_zero, List.getElem?_cons_succ]; exact rfl)
                    case a_76 => kernel_rfl
                    case b_76 => kernel_rfl
                    case c_76 => kernel_rfl
                    case q_76 => exact fun _ _ _ h => h
                    case y_76 => exact Or.inl ⟨by rfl, by (intro w hSw; (try dsimp only at hSw); go_simp; first | done | with_reducible rfl)⟩
                    try simp only [Act.put, List.setIfInBounds_toArray, List.set_cons_zero, List.set_cons_succ]
                    refine wpAnyH_done (by kernel_rfl) ?_ _
                    obtain ⟨g3, c3, rfl, _, _, _, _⟩ := own_form O_wa75 (by omega)
                    have hpl : (putR l n).length = 0 + l.length + 1 + 0 := by rw [HP.out]; first | (simp; done) | (simp; omega)
                    have OO := Lib.hid (show wa75.ownsRow lo 3 1 (.slice (some ⟨g3, 0, none⟩) (putR l n).length c3) (putR l n).length (ints (putR l n)) by rw [hpl]; exact own_lo (ownsRow_cast O_wa75 (by omega) (by rw [HP.out]; simp)) hlo)
                    have HPL := Lib.hid hpl
                    clear O_wa75 hpl
                    go_wp2
                    go_ret
                    exact ⟨g3, c3, by rw [HPL.out]; rfl, OO.out, B_wa75⟩
      · have hck : (cap = l.length) = False := by simp [hce]
        go_wp2
        have n0 : (0 : Int) ≤ ((l.length : Nat) : Int) := by omega
        have n1 : ((l.length : Nat) : Int) ≤ (l.length : Int) := by omega
        have n2 : (l.length : Int) ≤ (cap : Int) := by omega
        have n3 : ((l.length : Nat) : Int) ≤ (cap : Int) := by omega
        refine wp_region_held_drew (S := fun _ : World => True) (by kernel_rfl) trivial (fun hHeld => ?_)
        have B_wd : Below w.heap.size w w.drew := (Below.refl _ _).drew
        generalize w.drew = wd at *
        refine' wpAnyH_take (i := 1) (oi := _) (v := _) ?e_77 ?a_77 ?b_77 ?c_77 ?q_77 ?y_77 hHeld ?r_77
        case e_77 => (simp only [List.getElem?_toArray, List.getElem?_cons_zero, List.getElem?_cons_succ]; exact rfl)
        case a_77 => kernel_rfl
        case b_77 => kernel_rfl
        case c_77 => kernel_rfl
        case q_77 => exact fun _ _ _ h => h
        case y_77 => exact Or.inl ⟨by rfl, by (intro w hSw; (try dsimp only at hSw); go_simp; first | done | with_reducible rfl)⟩
        try simp only [Act.put, List.setIfInBounds_toArray, List.set_cons_zero, List.set_cons_succ]
        refine' wpAnyH_take (i := 2) (oi := _) (v := _) ?e_78 ?a_78 ?b_78 ?c_78 ?q_78 ?y_78 hHeld ?r_78
        case e_78 => (simp only [List.getElem?_toArray, List.getElem?_cons_zero, List.getElem?_cons_succ]; exact rfl)
        case a_78 => kernel_rfl
        case b_78 => kernel_rfl
        case c_78 => kernel_rfl
        case q_78 => exact fun _ _ _ h => h
        case y_78 => exact Or.inl ⟨by rfl, by (intro w hSw; (try dsimp only at hSw); go_simp; first | done | with_reducible rfl)⟩
        try simp only [Act.put, List.setIfInBounds_toArray, List.set_cons_zero, List.set_cons_succ]
        refine' wpAnyH_take (i := 3) (oi := _) (v := _) ?e_79 ?a_79 ?b_79 ?c_79 ?q_79 ?y_79 hHeld ?r_79
        case e_79 => (simp only [List.getElem?_toArray, List.getElem?_cons_zero, List.getElem?_cons_succ]; exact rfl)
        case a_79 => kernel_rfl
        case b_79 => kernel_rfl
        case c_79 => kernel_rfl
        case q_79 => exact fun _ _ _ h => h
        case y_79 => exact Or.inl ⟨by rfl, by (intro w hSw; (try dsimp only at hSw); go_simp; first | done | with_reducible rfl)⟩
        try simp only [Act.put, List.setIfInBounds_toArray, List.set_cons_zero, List.set_cons_succ]
        refine' wpAnyH_take (i := 5) (oi := _) (v := _) ?e_80 ?a_80 ?b_80 ?c_80 ?q_80 ?y_80 hHeld ?r_80
        case e_80 => (simp only [List.getElem?_toArray, List.getElem?_cons_zero, List.getElem?_cons_succ]; exact rfl)
        case a_80 => kernel_rfl
        case b_80 => kernel_rfl
        case c_80 => kernel_rfl
        case q_80 => exact fun _ _ _ h => h
        case y_80 => exact Or.inl ⟨by rfl, by (intro w hSw; (try dsimp only at hSw); go_simp; first | done | with_reducible rfl)⟩
        try simp only [Act.put, List.setIfInBounds_toArray, List.set_cons_zero, List.set_cons_succ]
        refine' wpAnyH_take (i := 8) (oi := _) (v := _) ?e_81 ?a_81 ?b_81 ?c_81 ?q_81 ?y_81 hHeld ?r_81
        case e_81 => (simp only [List.getElem?_toArray, List.getElem?_cons_zero, List.getElem?_cons_succ]; exact rfl)
        case a_81 => kernel_rfl
        case b_81 => kernel_rfl
        case c_81 => kernel_rfl
        case q_81 => exact fun _ _ _ h => h
        case y_81 => exact Or.inl ⟨by rfl, by (intro w hSw; (try dsimp only at hSw); go_simp; first | done | with_reducible rfl)⟩
        try simp only [Act.put, List.setIfInBounds_toArray, List.set_cons_zero, List.set_cons_succ]
        refine' wpAnyH_take (i := 9) (oi := _) (v := _) ?e_82 ?a_82 ?b_82 ?c_82 ?q_82 ?y_82 hHeld ?r_82
        case e_82 => (simp only [List.getElem?_toArray, List.getElem?_cons_zero, List.getElem?_cons_succ]; exact rfl)
        case a_82 => kernel_rfl
        case b_82 => kernel_rfl
        case c_82 => kernel_rfl
        case q_82 => exact fun _ _ _ h => h
        case y_82 => exact Or.inl ⟨by rfl, by (intro w hSw; (try dsimp only at hSw); go_simp; first | done | with_reducible rfl)⟩
        try simp only [Act.put, List.setIfInBounds_toArray, List.set_cons_zero, List.set_cons_succ]
        refine' wpAnyH_take (i := 10) (oi := _) (v := _) ?e_83 ?a_83 ?b_83 ?c_83 ?q_83 ?y_83 hHeld ?r_83
        case e_83 => (simp only [List.getElem?_toArray, List.getElem?_cons_zero, List.getElem?_cons_succ]; exact rfl)
        case a_83 => kernel_rfl
        case b_83 => kernel_rfl
        case c_83 => kernel_rfl
        case q_83 => exact fun _ _ _ h => h
        case y_83 => exact Or.inl ⟨by rfl, by (intro w hSw; (try dsimp only at hSw); go_simp; first | done | with_reducible rfl)⟩
        try simp only [Act.put, List.setIfInBounds_toArray, List.set_cons_zero, List.set_cons_succ]
        refine wpAnyH_ready (rs := [0, 6]) (by kernel_rfl) (by simp) ?_
        refine' AllReadyH.cons (o := _) ?e_84 ?st_84 ?more_84
        case e_84 => (simp only [List.getElem?_toArray, List.getElem?_cons_zero, List.getElem?_cons_succ]; exact rfl)
        case st_84 =>
          intro K hK
          go_simp
          have B_wa85 := Below.alc B_wd (.cells #[] 3)
          have zz_wa85 : wd.heap.size < (wd.alloc (.cells #[] 3)).heap.size := by simp
          have O_wa85 := own_lo (lo' := w.heap.size) (World.ownsRow_lit (e := 3) (size := 1) (base := wd.heap.size) wd #[] 0 (Nat.le_refl _) (by decide) rfl) B_wd.size
          generalize wd.heap.size = go at *
          generalize World.alloc _ _ = wa85 at *
          clear B_wd
          refine hK.out _ _ trivial (fun hHeld => ?_)
          clear hK K
          try simp only [Act.put, List.setIfInBounds_toArray, List.set_cons_zero, List.set_cons_succ]
          refine wpAnyH_ready (rs := [4, 6]) (by kernel_rfl) (by simp) ?_
          refine' AllReadyH.cons (o := _) ?e_86 ?st_86 ?more_86
          case e_86 => (simp only [List.getElem?_toArray, List.getElem?_cons_zero, List.getElem?_cons_succ]; exact rfl)
          case st_86 =>
            intro K hK
            refine step_append_at (by rfl) _ _ _ (by rfl) w.heap.size 3 inf (.int .i64 0) 1 8 Tryz.underlying24 hi hz0 hz1 hz2 rfl (by decide) (.slice (some ⟨go, 0, none⟩) 0 0) 0 [] (by rfl) O_wa85 ⟨g, 0, none⟩ l.length cap (ints (l.take l.length)) (by rfl) (by first | (simp; done) | (simp; omega)) (own_take (own_keep HO.out B_wa85) l.length) ints_one (by unfold maxLen; omega) (by omega) B_wa85.size ?_
            intro v1 wa87 O_wa87 hg_wa87 hat_wa87
            have B_wa87 := Below.grown B_wa85 hg_wa87 B_wa85.size (fun q hq => (O_wa85.lt q hq).1)
            clear B_wa85 O_wa85 hg_wa87 hat_wa87
            refine hK.out _ _ trivial (fun hHeld => ?_)
            clear hK K
            try simp only [Act.put, List.setIfInBounds_toArray, List.set_cons_zero, List.set_cons_succ]
            refine wpAnyH_ready (rs := [6]) (by kernel_rfl) (by simp) ?_
            refine' AllReadyH.cons (o := _) ?e_88 ?st_88 AllReadyH.nil
            case e_88 => (simp only [List.getElem?_toArray, List.getElem?_cons_zero, List.getElem?_cons_succ]; exact rfl)
            case st_88 =>
              intro K hK
              go_simp
              have B_wa89 := Below.alc B_wa87 (.cells #[.int .i64 n] 3)
              have zz_wa89 : wa87.heap.size < (wa87.alloc (.cells #[.int .i64 n] 3)).heap.size := by simp
              have N_wa89 : (wa87.alloc (.cells #[.int .i64 n] 3)).cell? ⟨wa87.heap.size, 0, none⟩ = some (.int .i64 n) := by rw [World.cell?_alloc_at _ _ _ _ rfl]; rfl
              have O_wa89 := O_wa87.alloc (.cells #[.int .i64 n] 3)
              have hne2 : v1.ownBlock ≠ some wa87.heap.size := by intro h; have := (O_wa87.lt _ h).2; omega
              generalize wa87.heap.size = gn at *
              generalize World.alloc _ _ = wa89 at *
              clear B_wa87 O_wa87
              refine hK.out _ _ trivial (fun hHeld => ?_)
              clear hK K
              try simp only [Act.put, List.setIfInBounds_toArray, List.set_cons_zero, List.set_cons_succ]
              refine wpAnyH_ready (rs := [7]) (by kernel_rfl) (by simp) ?_
              refine' AllReadyH.cons (o := _) ?e_90 ?st_90 AllReadyH.nil
              case e_90 => (simp only [List.getElem?_toArray, List.getElem?_cons_zero, List.getElem?_cons_succ]; exact rfl)
              case st_90 =>
                intro K hK
                refine step_append_at (by rfl) _ _ _ (by rfl) w.heap.size 3 inf (.int .i64 0) 1 8 Tryz.underlying24 hi hz0 hz1 hz2 rfl (by decide) v1 (0 + l.length) ([] ++ ints (l.take l.length)) (by rfl) O_wa89 ⟨gn, 0, none⟩ 1 1 [.int .i64 n] (by rfl) (by simp) (fun j u hj => by (cases j with | zero => (simp at hj; subst hj; rw [Addr.add_lit]; exact N_wa89) | succ j => simp at hj)) (by simp [Value.oneCell']) (by unfold maxLen; omega) (by omega) B_wa89.size ?_
                intro v2 wa91 O_wa91 hg_wa91 hat_wa91
                have B_wa91 := Below.grown B_wa89 hg_wa91 B_wa89.size (fun q hq => (O_wa89.lt q hq).1)
                clear B_wa89 O_wa89 hg_wa91 hat_wa91 N_wa89
                refine hK.out _ _ trivial (fun hHeld => ?_)
                clear hK K
                try simp only [Act.put, List.setIfInBounds_toArray, List.set_cons_zero, List.set_cons_succ]
                refine wpAnyH_ready (rs := [11]) (by kernel_rfl) (by simp) ?_
                refine' AllReadyH.cons (o := _) ?e_92 ?st_92 AllReadyH.nil
                case e_92 => (simp only [List.getElem?_toArray, List.getElem?_cons_zero, List.getElem?_cons_succ]; exact rfl)
                case st_92 =>
                  intro K hK
                  refine step_append_at (by rfl) _ _ _ (by rfl) w.heap.size 3 inf (.int .i64 0) 1 8 Tryz.underlying24 hi hz0 hz1 hz2 rfl (by decide) v2 (0 + l.length + 1) ([] ++ ints (l.take l.length) ++ [.int .i64 n]) (by rfl) O_wa91 _ _ _ [] (by rfl) (by simp) (fun j u hj => by simp at hj) (by simp) (by unfold maxLen; omega) (by omega) B_wa91.size ?_
                  intro v3 wa93 O_wa93 hg_wa93 hat_wa93
                  have B_wa93 := Below.grown B_wa91 hg_wa93 B_wa91.size (fun q hq => (O_wa91.lt q hq).1)
                  clear B_wa91 O_wa91 hg_wa93 hat_wa93
                  refine hK.out _ _ trivial (fun hHeld => ?_)
                  clear hK K
                  try simp only [Act.put, List.setIfInBounds_toArray, List.set_cons_zero, List.set_cons_succ]
                  refine' wpAnyH_take (i := 12) (oi := _) (v := _) ?e_94 ?a_94 ?b_94 ?c_94 ?q_94 ?y_94 hHeld ?r_94
                  case e_94 => (simp only [List.getElem?_toArray, List.getElem?_cons_zero, List.getElem?_cons_succ]; exact rfl)
                  case a_94 => kernel_rfl
                  case b_94 => kernel_rfl
                  case c_94 => kernel_rfl
                  case q_94 => exact fun _ _ _ h => h
                  case y_94 => exact Or.inl ⟨by rfl, by (intro w hSw; (try dsimp only at hSw); go_simp; first | done | with_reducible rfl)⟩
                  try simp only [Act.put, List.setIfInBounds_toArray, List.set_cons_zero, List.set_cons_succ]
                  refine wpAnyH_done (by kernel_rfl) ?_ _
                  obtain ⟨g3, c3, rfl, _, _, _, _⟩ := own_form O_wa93 (by omega)
                  have hpl : (putR l n).length = 0 + l.length + 1 + 0 := by rw [HP.out]; first | (simp; done) | (simp; omega)
                  have OO := Lib.hid (show wa93.ownsRow lo 3 1 (.slice (some ⟨g3, 0, none⟩) (putR l n).length c3) (putR l n).length (ints (putR l n)) by rw [hpl]; exact own_lo (ownsRow_cast O_wa93 (by omega) (by rw [HP.out]; simp)) hlo)
                  have HPL := Lib.hid hpl
                  clear O_wa93 hpl
                  go_wp2
                  go_ret
                  exact ⟨g3, c3, by rw [HPL.out]; rfl, OO.out, B_wa93⟩
          case more_86 =>
            refine' AllReadyH.cons (o := _) ?e_95 ?st_95 AllReadyH.nil
            case e_95 => (simp only [List.getElem?_toArray, List.getElem?_cons_zero, List.getElem?_cons_succ]; exact rfl)
            case st_95 =>
              intro K hK
              go_simp
              have B_wa96 := Below.alc B_wa85 (.cells #[.int .i64 n] 3)
              have zz_wa96 : wa85.heap.size < (wa85.alloc (.cells #[.int .i64 n] 3)).heap.size := by simp
              have N_wa96 : (wa85.alloc (.cells #[.int .i64 n] 3)).cell? ⟨wa85.heap.size, 0, none⟩ = some (.int .i64 n) := by rw [World.cell?_alloc_at _ _ _ _ rfl]; rfl
              have O_wa96 := O_wa85.alloc (.cells #[.int .i64 n] 3)
              have hne : wa85.heap.size ≠ go := by have := (O_wa85.lt go rfl).2; omega
              generalize wa85.heap.size = gn at *
              generalize World.alloc _ _ = wa96 at *
              clear B_wa85 O_wa85
              refine hK.out _ _ trivial (fun hHeld => ?_)
              clear hK K
              try simp only [Act.put, List.setIfInBounds_toArray, List.set_cons_zero, List.set_cons_succ]
              refine wpAnyH_ready (rs := [4]) (by kernel_rfl) (by simp) ?_
              refine' AllReadyH.cons (o := _) ?e_97 ?st_97 AllReadyH.nil
              case e_97 => (simp only [List.getElem?_toArray, List.getElem?_cons_zero, List.getElem?_cons_succ]; exact rfl)
              case st_97 =>
                intro K hK
                refine step_append_at (by rfl) _ _ _ (by rfl) w.heap.size 3 inf (.int .i64 0) 1 8 Tryz.underlying24 hi hz0 hz1 hz2 rfl (by decide) (.slice (some ⟨go, 0, none⟩) 0 0) 0 [] (by rfl) O_wa96 ⟨g, 0, none⟩ l.length cap (ints (l.take l.length)) (by rfl) (by first | (simp; done) | (simp; omega)) (own_take (own_keep HO.out B_wa96) l.length) ints_one (by unfold maxLen; omega) (by omega) B_wa96.size ?_
                intro v1 wa98 O_wa98 hg_wa98 hat_wa98
                have B_wa98 := Below.grown B_wa96 hg_wa98 B_wa96.size (fun q hq => (O_wa96.lt q hq).1)
                have N_wa98 := hg_wa98.cell N_wa96 (fun h => by injection h with h; exact hne h)
                have hne2 : v1.ownBlock ≠ some gn := by intro h; rcases hat_wa98 with h2 | h2 <;> rw [h2] at h <;> injection h with h; (first | exact hne h.symm | (have := World.block_lt_of_cell? _ _ N_wa96; simp at this; omega)); (first | exact hne h.symm | (have := World.block_lt_of_cell? _ _ N_wa96; simp at this; omega))
                clear B_wa96 O_wa96 hg_wa98 hat_wa98 N_wa96
                refine hK.out _ _ trivial (fun hHeld => ?_)
                clear hK K
                try simp only [Act.put, List.setIfInBounds_toArray, List.set_cons_zero, List.set_cons_succ]
                refine wpAnyH_ready (rs := [7]) (by kernel_rfl) (by simp) ?_
                refine' AllReadyH.cons (o := _) ?e_99 ?st_99 AllReadyH.nil
                case e_99 => (simp only [List.getElem?_toArray, List.getElem?_cons_zero, List.getElem?_cons_succ]; exact rfl)
                case st_99 =>
                  intro K hK
                  refine step_append_at (by rfl) _ _ _ (by rfl) w.heap.size 3 inf (.int .i64 0) 1 8 Tryz.underlying24 hi hz0 hz1 hz2 rfl (by decide) v1 (0 + l.length) ([] ++ ints (l.take l.length)) (by rfl) O_wa98 ⟨gn, 0, none⟩ 1 1 [.int .i64 n] (by rfl) (by simp) (fun j u hj => by (cases j with | zero => (simp at hj; subst hj; rw [Addr.add_lit]; exact N_wa98) | succ j => simp at hj)) (by simp [Value.oneCell']) (by unfold maxLen; omega) (by omega) B_wa98.size ?_
                  intro v2 wa100 O_wa100 hg_wa100 hat_wa100
                  have B_wa100 := Below.grown B_wa98 hg_wa100 B_wa98.size (fun q hq => (O_wa98.lt q hq).1)
                  clear B_wa98 O_wa98 hg_wa100 hat_wa100 N_wa98
                  refine hK.out _ _ trivial (fun hHeld => ?_)
                  clear hK K
                  try simp only [Act.put, List.setIfInBounds_toArray, List.set_cons_zero, List.set_cons_succ]
                  refine wpAnyH_ready (rs := [11]) (by kernel_rfl) (by simp) ?_
                  refine' AllReadyH.cons (o := _) ?e_101 ?st_101 AllReadyH.nil
                  case e_101 => (simp only [List.getElem?_toArray, List.getElem?_cons_zero, List.getElem?_cons_succ]; exact rfl)
                  case st_101 =>
                    intro K hK
                    refine step_append_at (by rfl) _ _ _ (by rfl) w.heap.size 3 inf (.int .i64 0) 1 8 Tryz.underlying24 hi hz0 hz1 hz2 rfl (by decide) v2 (0 + l.length + 1) ([] ++ ints (l.take l.length) ++ [.int .i64 n]) (by rfl) O_wa100 _ _ _ [] (by rfl) (by simp) (fun j u hj => by simp at hj) (by simp) (by unfold maxLen; omega) (by omega) B_wa100.size ?_
                    intro v3 wa102 O_wa102 hg_wa102 hat_wa102
                    have B_wa102 := Below.grown B_wa100 hg_wa102 B_wa100.size (fun q hq => (O_wa100.lt q hq).1)
                    clear B_wa100 O_wa100 hg_wa102 hat_wa102
                    refine hK.out _ _ trivial (fun hHeld => ?_)
                    clear hK K
                    try simp only [Act.put, List.setIfInBounds_toArray, List.set_cons_zero, List.set_cons_succ]
                    refine' wpAnyH_take (i := 12) (oi := _) (v := _) ?e_103 ?a_103 ?b_103 ?c_103 ?q_103 ?y_103 hHeld ?r_103
                    case e_103 => (simp only [List.getElem?_toArray, List.getElem?_cons_zero, List.getElem?_cons_succ]; exact rfl)
                    case a_103 => kernel_rfl
                    case b_103 => kernel_rfl
                    case c_103 => kernel_rfl
                    case q_103 => exact fun _ _ _ h => h
                    case y_103 => exact Or.inl ⟨by rfl, by (intro w hSw; (try dsimp only at hSw); go_simp; first | done | with_reducible rfl)⟩
                    try simp only [Act.put, List.setIfInBounds_toArray, List.set_cons_zero, List.set_cons_succ]
                    refine wpAnyH_done (by kernel_rfl) ?_ _
                    obtain ⟨g3, c3, rfl, _, _, _, _⟩ := own_form O_wa102 (by omega)
                    have hpl : (putR l n).length = 0 + l.length + 1 + 0 := by rw [HP.out]; first | (simp; done) | (simp; omega)
                    have OO := Lib.hid (show wa102.ownsRow lo 3 1 (.slice (some ⟨g3, 0, none⟩) (putR l n).length c3) (putR l n).length (ints (putR l n)) by rw [hpl]; exact own_lo (ownsRow_cast O_wa102 (by omega) (by rw [HP.out]; simp)) hlo)
                    have HPL := Lib.hid hpl
                    clear O_wa102 hpl
                    go_wp2
                    go_ret
                    exact ⟨g3, c3, by rw [HPL.out]; rfl, OO.out, B_wa102⟩
        case more_84 =>
          refine' AllReadyH.cons (o := _) ?e_104 ?st_104 AllReadyH.nil
          case e_104 => (simp only [List.getElem?_toArray, List.getElem?_cons_zero, List.getElem?_cons_succ]; exact rfl)
          case st_104 =>
            intro K hK
            go_simp
            have B_wa105 := Below.alc B_wd (.cells #[.int .i64 n] 3)
            have zz_wa105 : wd.heap.size < (wd.alloc (.cells #[.int .i64 n] 3)).heap.size := by simp
            have N_wa105 : (wd.alloc (.cells #[.int .i64 n] 3)).cell? ⟨wd.heap.size, 0, none⟩ = some (.int .i64 n) := by rw [World.cell?_alloc_at _ _ _ _ rfl]; rfl
            generalize wd.heap.size = gn at *
            generalize World.alloc _ _ = wa105 at *
            clear B_wd
            refine hK.out _ _ trivial (fun hHeld => ?_)
            clear hK K
            try simp only [Act.put, List.setIfInBounds_toArray, List.set_cons_zero, List.set_cons_succ]
            refine wpAnyH_ready (rs := [0]) (by kernel_rfl) (by simp) ?_
            refine' AllReadyH.cons (o := _) ?e_106 ?st_106 AllReadyH.nil
            case e_106 => (simp only [List.getElem?_toArray, List.getElem?_cons_zero, List.getElem?_cons_succ]; exact rfl)
            case st_106 =>
              intro K hK
              go_simp
              have B_wa107 := Below.alc B_wa105 (.cells #[] 3)
              have zz_wa107 : wa105.heap.size < (wa105.alloc (.cells #[] 3)).heap.size := by simp
              have O_wa107 := own_lo (lo' := w.heap.size) (World.ownsRow_lit (e := 3) (size := 1) (base := wa105.heap.size) wa105 #[] 0 (Nat.le_refl _) (by decide) rfl) B_wa105.size
              have N_wa107 := cell_later (below_one (w := wa105) (.cells #[] 3)) N_wa105
              have hne : gn ≠ wa105.heap.size := by have := World.block_lt_of_cell? _ _ N_wa105; simp at this; omega
              generalize wa105.heap.size = go at *
              generalize World.alloc _ _ = wa107 at *
              clear B_wa105 N_wa105
              refine hK.out _ _ trivial (fun hHeld => ?_)
              clear hK K
              try simp only [Act.put, List.setIfInBounds_toArray, List.set_cons_zero, List.set_cons_succ]
              refine wpAnyH_ready (rs := [4]) (by kernel_rfl) (by simp) ?_
              refine' AllReadyH.cons (o := _) ?e_108 ?st_108 AllReadyH.nil
              case e_108 => (simp only [List.getElem?_toArray, List.getElem?_cons_zero, List.getElem?_cons_succ]; exact rfl)
              case st_108 =>
                intro K hK
                refine step_append_at (by rfl) _ _ _ (by rfl) w.heap.size 3 inf (.int .i64 0) 1 8 Tryz.underlying24 hi hz0 hz1 hz2 rfl (by decide) (.slice (some ⟨go, 0, none⟩) 0 0) 0 [] (by rfl) O_wa107 ⟨g, 0, none⟩ l.length cap (ints (l.take l.length)) (by rfl) (by first | (simp; done) | (simp; omega)) (own_take (own_keep HO.out B_wa107) l.length) ints_one (by unfold maxLen; omega) (by omega) B_wa107.size ?_
                intro v1 wa109 O_wa109 hg_wa109 hat_wa109
                have B_wa109 := Below.grown B_wa107 hg_wa109 B_wa107.size (fun q hq => (O_wa107.lt q hq).1)
                have N_wa109 := hg_wa109.cell N_wa107 (fun h => by injection h with h; exact hne h)
                have hne2 : v1.ownBlock ≠ some gn := by intro h; rcases hat_wa109 with h2 | h2 <;> rw [h2] at h <;> injection h with h; (first | exact hne h.symm | (have := World.block_lt_of_cell? _ _ N_wa107; simp at this; omega)); (first | exact hne h.symm | (have := World.block_lt_of_cell? _ _ N_wa107; simp at this; omega))
                clear B_wa107 O_wa107 hg_wa109 hat_wa109 N_wa107
                refine hK.out _ _ trivial (fun hHeld => ?_)
                clear hK K
                try simp only [Act.put, List.setIfInBounds_toArray, List.set_cons_zero, List.set_cons_succ]
                refine wpAnyH_ready (rs := [7]) (by kernel_rfl) (by simp) ?_
                refine' AllReadyH.cons (o := _) ?e_110 ?st_110 AllReadyH.nil
                case e_110 => (simp only [List.getElem?_toArray, List.getElem?_cons_zero, List.getElem?_cons_succ]; exact rfl)
                case st_110 =>
                  intro K hK
                  refine step_append_at (by rfl) _ _ _ (by rfl) w.heap.size 3 inf (.int .i64 0) 1 8 Tryz.underlying24 hi hz0 hz1 hz2 rfl (by decide) v1 (0 + l.length) ([] ++ ints (l.take l.length)) (by rfl) O_wa109 ⟨gn, 0, none⟩ 1 1 [.int .i64 n] (by rfl) (by simp) (fun j u hj => by (cases j with | zero => (simp at hj; subst hj; rw [Addr.add_lit]; exact N_wa109) | succ j => simp at hj)) (by simp [Value.oneCell']) (by unfold maxLen; omega) (by omega) B_wa109.size ?_
                  intro v2 wa111 O_wa111 hg_wa111 hat_wa111
                  have B_wa111 := Below.grown B_wa109 hg_wa111 B_wa109.size (fun q hq => (O_wa109.lt q hq).1)
                  clear B_wa109 O_wa109 hg_wa111 hat_wa111 N_wa109
                  refine hK.out _ _ trivial (fun hHeld => ?_)
                  clear hK K
                  try simp only [Act.put, List.setIfInBounds_toArray, List.set_cons_zero, List.set_cons_succ]
                  refine wpAnyH_ready (rs := [11]) (by kernel_rfl) (by simp) ?_
                  refine' AllReadyH.cons (o := _) ?e_112 ?st_112 AllReadyH.nil
                  case e_112 => (simp only [List.getElem?_toArray, List.getElem?_cons_zero, List.getElem?_cons_succ]; exact rfl)
                  case st_112 =>
                    intro K hK
                    refine step_append_at (by rfl) _ _ _ (by rfl) w.heap.size 3 inf (.int .i64 0) 1 8 Tryz.underlying24 hi hz0 hz1 hz2 rfl (by decide) v2 (0 + l.length + 1) ([] ++ ints (l.take l.length) ++ [.int .i64 n]) (by rfl) O_wa111 _ _ _ [] (by rfl) (by simp) (fun j u hj => by simp at hj) (by simp) (by unfold maxLen; omega) (by omega) B_wa111.size ?_
                    intro v3 wa113 O_wa113 hg_wa113 hat_wa113
                    have B_wa113 := Below.grown B_wa111 hg_wa113 B_wa111.size (fun q hq => (O_wa111.lt q hq).1)
                    clear B_wa111 O_wa111 hg_wa113 hat_wa113
                    refine hK.out _ _ trivial (fun hHeld => ?_)
                    clear hK K
                    try simp only [Act.put, List.setIfInBounds_toArray, List.set_cons_zero, List.set_cons_succ]
                    refine' wpAnyH_take (i := 12) (oi := _) (v := _) ?e_114 ?a_114 ?b_114 ?c_114 ?q_114 ?y_114 hHeld ?r_114
                    case e_114 => (simp only [List.getElem?_toArray, List.getElem?_cons_zero, List.getElem?_cons_succ]; exact rfl)
                    case a_114 => kernel_rfl
                    case b_114 => kernel_rfl
                    case c_114 => kernel_rfl
                    case q_114 => exact fun _ _ _ h => h
                    case y_114 => exact Or.inl ⟨by rfl, by (intro w hSw; (try dsimp only at hSw); go_simp; first | done | with_reducible rfl)⟩
                    try simp only [Act.put, List.setIfInBounds_toArray, List.set_cons_zero, List.set_cons_succ]
                    refine wpAnyH_done (by kernel_rfl) ?_ _
                    obtain ⟨g3, c3, rfl, _, _, _, _⟩ := own_form O_wa113 (by omega)
                    have hpl : (putR l n).length = 0 + l.length + 1 + 0 := by rw [HP.out]; first | (simp; done) | (simp; omega)
                    have OO := Lib.hid (show wa113.ownsRow lo 3 1 (.slice (some ⟨g3, 0, none⟩) (putR l n).length c3) (putR l n).length (ints (putR l n)) by rw [hpl]; exact own_lo (ownsRow_cast O_wa113 (by omega) (by rw [HP.out]; simp)) hlo)
                    have HPL := Lib.hid hpl
                    clear O_wa113 hpl
                    go_wp2
                    go_ret
                    exact ⟨g3, c3, by rw [HPL.out]; rfl, OO.out, B_wa113⟩
end Go.Proofs.YtlipkplomndjcaaGreat
