/- The walk of the law DoJob: for every Bench and Job it returns true and turns nothing that was there. -/
import Derived.Test.YtfflbbgipbnckaaJob8
import Derived.Test.YtfflbbgipbnckaaBench4
import Derived.Deep.DeepCutAuto
namespace Go.Proofs.Ytfflbbgipbnckaa
open Go.RowKit
set_option linter.unusedVariables false
set_option linter.unusedSimpArgs false
set_option maxRecDepth 100000
attribute [local go_sem ↓] Go.wp_at_zero Go.wp_at_succ
theorem hil19 {b : List Int} (h : b.length = 19) : (Try.prog.info? 38).map (·.size) = some (ints b).length := by rw [show (ints b).length = 19 by simp [ints, h]]; kernel_rfl
theorem djV_form {b : List Int} (hb : b.length = 19) (k a v : Int) : ∃ Y ok, djV b k a v = mkV Y ok ∧ Y.length = 19 := by
  unfold djV
  rcases hg : goodB b with _ | _
  · exact ⟨zeroI, false, rfl, by simp [zeroI]⟩
  · exact ⟨jobB b k a v, possB b k a v, rfl, jobB_len hb hg k a v⟩
set_option maxHeartbeats 4000000 in
theorem FnExactDoJob_walk (v0 : Value) (b : List Int) (v1 : Value) (j : Int × Int × Int) (w : World) (hv0 : v0 = aggI b ∧ b.length = 19) (hv1 : v1 = jobV j.1 j.2.1 j.2.2) : Calls Try.prog 6 #[v0, v1] w fun e w' => e = .returned (.bool true) ∧ Below w.heap.size w w' := by
  obtain ⟨rfl, hb⟩ := hv0
  subst hv1
  obtain ⟨k, a, v⟩ := j
  simp only
  have R_w0 := World.rangeAt_alloc (range_new w (ints b) 38) (.cells #[.int .i64 k, .int .i64 a, .int .i64 v] 40)
  have B_w0 : Below w.heap.size w ((w.alloc (.cells (ints b).toArray 38)).alloc (.cells #[.int .i64 k, .int .i64 a, .int .i64 v] 40)) := by (repeat (first | exact Below.refl _ _ | exact (Below.refl _ _).drew | assumption | exact below_one _ | refine Below.chain ?_ (by assumption) | refine Below.drew ?_ | refine Below.alc ?_ _ | refine below_drewN ?_ | (refine Below.setCell ?_ ?_ _) | exact Nat.le_refl _ | (simp; done) | (simp; omega)))
  have C0_w0 : ((w.alloc (.cells (ints b).toArray 38)).alloc (.cells #[.int .i64 k, .int .i64 a, .int .i64 v] 40)).cell? ⟨w.heap.size + 1, 0, none⟩ = some (.int .i64 k) := by rw [World.cell?_alloc_at _ _ _ _ (by simp)]; rfl
  have C1_w0 : ((w.alloc (.cells (ints b).toArray 38)).alloc (.cells #[.int .i64 k, .int .i64 a, .int .i64 v] 40)).cell? ⟨w.heap.size + 1, 1, none⟩ = some (.int .i64 a) := by rw [World.cell?_alloc_at _ _ _ _ (by simp)]; rfl
  have C2_w0 : ((w.alloc (.cells (ints b).toArray 38)).alloc (.cells #[.int .i64 k, .int .i64 a, .int .i64 v] 40)).cell? ⟨w.heap.size + 1, 2, none⟩ = some (.int .i64 v) := by rw [World.cell?_alloc_at _ _ _ _ (by simp)]; rfl
  have hil := hil19 hb
  have HT := Lib.hid (fun w => toBench_c b w hb)
  have HJ := Lib.hid (fun w => toJob_c k a v w)
  obtain ⟨Y, ok, hE, hY⟩ := djV_form hb k a v
  have HS0 := fun w => sDoJob_c b k a v w hb
  have HI0 := fun w => DoJob_c b k a v w hb
  rw [hE] at HS0 HI0
  have HS := Lib.hid HS0; have HI := Lib.hid HI0
  clear HS0 HI0 hE
  unfold mkV aggI jobV at *
  go_enter Try.func6, Try.ntmps6
  go_upto_region 1 with fail
  generalize World.alloc _ _ = w0 at *
  go_cut [5, 6] (fun s5 s6 wx => ∃ g : Nat, s5 = .pointer (some ⟨g, 0, none⟩) ∧ s6 = .bool ok ∧ wx.rangeAt g 0 (ints Y) ∧ g < wx.heap.size ∧ w.heap.size + 1 < g ∧ wx.rangeAt w.heap.size 0 (ints b) ∧ wx.cell? ⟨w.heap.size + 1, 0, none⟩ = some (.int .i64 k) ∧ wx.cell? ⟨w.heap.size + 1, 1, none⟩ = some (.int .i64 a) ∧ wx.cell? ⟨w.heap.size + 1, 2, none⟩ = some (.int .i64 v) ∧ Below w.heap.size w wx)
  case first =>
    have R_wd := (show World.rangeAt (w0.drew) _ _ _ from R_w0)
    have C0_wd := (show World.cell? (w0.drew) _ = some _ from C0_w0)
    have C1_wd := (show World.cell? (w0.drew) _ = some _ from C1_w0)
    have C2_wd := (show World.cell? (w0.drew) _ = some _ from C2_w0)
    have B_wd := B_w0.drew
    refine wp_region_held_drew (S := fun w' : World => w'.rangeAt w.heap.size 0 (ints b) ∧ w'.cell? ⟨w.heap.size + 1, 0, none⟩ = some (.int .i64 k) ∧ w'.cell? ⟨w.heap.size + 1, 1, none⟩ = some (.int .i64 a) ∧ w'.cell? ⟨w.heap.size + 1, 2, none⟩ = some (.int .i64 v)) (by kernel_rfl) ⟨R_wd, C0_wd, C1_wd, C2_wd⟩ (fun hHeld => ?_)
    generalize w0.drew = wd at *
    clear R_w0 C0_w0 C1_w0 C2_w0 B_w0
    refine' wpAnyH_take (i := 0) (oi := _) (v := _) ?e_1 ?a_1 ?b_1 ?c_1 ?q_1 ?y_1 hHeld ?r_1
    case e_1 => (simp only [List.getElem?_toArray, List.getElem?_cons_zero, List.getElem?_cons_succ]; exact rfl)
    case a_1 => kernel_rfl
    case b_1 => kernel_rfl
    case c_1 => kernel_rfl
    case q_1 => exact fun _ _ _ h => h
    case y_1 =>
      refine' yieldsIf_load_mid ?hw_1 _ _ rfl _ _ rfl (ints b) _ ?hS_1 ?hu_1 ?hd_1 ?hi_1
      case hw_1 => rfl
      case hS_1 => exact fun (w' : World) (h : w'.rangeAt w.heap.size 0 (ints b) ∧ w'.cell? ⟨w.heap.size + 1, 0, none⟩ = some (.int .i64 k) ∧ w'.cell? ⟨w.heap.size + 1, 1, none⟩ = some (.int .i64 a) ∧ w'.cell? ⟨w.heap.size + 1, 2, none⟩ = some (.int .i64 v)) => h.1
      case hu_1 => exact Try.underlying38
      case hd_1 => rfl
      case hi_1 => exact hil
    try simp only [Act.put, List.setIfInBounds_toArray, List.set_cons_zero, List.set_cons_succ]
    refine' wpAnyH_take (i := 2) (oi := _) (v := _) ?e_2 ?a_2 ?b_2 ?c_2 ?q_2 ?y_2 hHeld ?r_2
    case e_2 => (simp only [List.getElem?_toArray, List.getElem?_cons_zero, List.getElem?_cons_succ]; exact rfl)
    case a_2 => kernel_rfl
    case b_2 => kernel_rfl
    case c_2 => kernel_rfl
    case q_2 => exact fun _ _ _ h => h
    case y_2 => exact Or.inl ⟨by rfl, by (intro w hSw; (try dsimp only at hSw); go_simp; first | done | with_reducible rfl)⟩
    try simp only [Act.put, List.setIfInBounds_toArray, List.set_cons_zero, List.set_cons_succ]
    refine wpAnyH_ready (rs := [1, 8]) (by kernel_rfl) (by simp) ?_
    refine' AllReadyH.cons (o := _) ?e_3 ?st_3 ?more_3
    case e_3 => (simp only [List.getElem?_toArray, List.getElem?_cons_zero, List.getElem?_cons_succ]; exact rfl)
    case st_3 =>
      intro K hK
      go_simp
      refine (HT.out _).mono ?_
      rintro e wc4 ⟨rfl, hx5⟩
      have R_wc4 := range_below R_wd hx5
      have C0_wc4 := cell_later hx5 C0_wd
      have C1_wc4 := cell_later hx5 C1_wd
      have C2_wc4 := cell_later hx5 C2_wd
      have B_wc4 := Below.chain B_wd hx5
      clear R_wd C0_wd C1_wd C2_wd B_wd hx5
      go_wp2_with fail
      refine hK.out _ _ ⟨R_wc4, C0_wc4, C1_wc4, C2_wc4⟩ (fun hHeld => ?_)
      clear hK K
      try simp only [Act.put, List.setIfInBounds_toArray, List.set_cons_zero, List.set_cons_succ]
      refine wpAnyH_ready (rs := [3, 8]) (by kernel_rfl) (by simp) ?_
      refine' AllReadyH.cons (o := _) ?e_6 ?st_6 ?more_6
      case e_6 => (simp only [List.getElem?_toArray, List.getElem?_cons_zero, List.getElem?_cons_succ]; exact rfl)
      case st_6 =>
        intro K hK
        go_simp
        refine (HJ.out _).mono ?_
        rintro e wc7 ⟨rfl, hx8⟩
        have R_wc7 := range_below R_wc4 hx8
        have C0_wc7 := cell_later hx8 C0_wc4
        have C1_wc7 := cell_later hx8 C1_wc4
        have C2_wc7 := cell_later hx8 C2_wc4
        have B_wc7 := Below.chain B_wc4 hx8
        clear R_wc4 C0_wc4 C1_wc4 C2_wc4 B_wc4 hx8
        go_wp2_with fail
        refine hK.out _ _ ⟨R_wc7, C0_wc7, C1_wc7, C2_wc7⟩ (fun hHeld => ?_)
        clear hK K
        try simp only [Act.put, List.setIfInBounds_toArray, List.set_cons_zero, List.set_cons_succ]
        refine wpAnyH_ready (rs := [4, 8]) (by kernel_rfl) (by simp) ?_
        refine' AllReadyH.cons (o := _) ?e_9 ?st_9 ?more_9
        case e_9 => (simp only [List.getElem?_toArray, List.getElem?_cons_zero, List.getElem?_cons_succ]; exact rfl)
        case st_9 =>
          intro K hK
          go_simp
          refine (HS.out _).mono ?_
          rintro e wc10 ⟨rfl, hx11⟩
          have R_wc10 := range_below R_wc7 hx11
          have C0_wc10 := cell_later hx11 C0_wc7
          have C1_wc10 := cell_later hx11 C1_wc7
          have C2_wc10 := cell_later hx11 C2_wc7
          have B_wc10 := Below.chain B_wc7 hx11
          clear R_wc7 C0_wc7 C1_wc7 C2_wc7 B_wc7 hx11
          go_wp2_with fail
          refine hK.out _ _ ⟨R_wc10, C0_wc10, C1_wc10, C2_wc10⟩ (fun hHeld => ?_)
          clear hK K
          try simp only [Act.put, List.setIfInBounds_toArray, List.set_cons_zero, List.set_cons_succ]
          refine' wpAnyH_take (i := 5) (oi := _) (v := _) ?e_12 ?a_12 ?b_12 ?c_12 ?q_12 ?y_12 hHeld ?r_12
          case e_12 => (simp only [List.getElem?_toArray, List.getElem?_cons_zero, List.getElem?_cons_succ]; exact rfl)
          case a_12 => kernel_rfl
          case b_12 => kernel_rfl
          case c_12 => kernel_rfl
          case q_12 => exact fun _ _ _ h => h
          case y_12 => exact Or.inl ⟨by rfl, by (intro w hSw; (try dsimp only at hSw); go_simp; first | done | with_reducible rfl)⟩
          try simp only [Act.put, List.setIfInBounds_toArray, List.set_cons_zero, List.set_cons_succ]
          refine' wpAnyH_take (i := 6) (oi := _) (v := _) ?e_13 ?a_13 ?b_13 ?c_13 ?q_13 ?y_13 hHeld ?r_13
          case e_13 => (simp only [List.getElem?_toArray, List.getElem?_cons_zero, List.getElem?_cons_succ]; exact rfl)
          case a_13 => kernel_rfl
          case b_13 => kernel_rfl
          case c_13 => kernel_rfl
          case q_13 => exact fun _ _ _ h => h
          case y_13 => exact Or.inl ⟨by rfl, by (intro w hSw; (try dsimp only at hSw); go_simp; first | done | with_reducible rfl)⟩
          try simp only [Act.put, List.setIfInBounds_toArray, List.set_cons_zero, List.set_cons_succ]
          refine' wpAnyH_take (i := 7) (oi := _) (v := _) ?e_14 ?a_14 ?b_14 ?c_14 ?q_14 ?y_14 hHeld ?r_14
          case e_14 => (simp only [List.getElem?_toArray, List.getElem?_cons_zero, List.getElem?_cons_succ]; exact rfl)
          case a_14 => kernel_rfl
          case b_14 => kernel_rfl
          case c_14 => kernel_rfl
          case q_14 => exact fun _ _ _ h => h
          case y_14 => exact Or.inl ⟨by rfl, by (intro w hSw; (try dsimp only at hSw); go_simp; first | done | with_reducible rfl)⟩
          try simp only [Act.put, List.setIfInBounds_toArray, List.set_cons_zero, List.set_cons_succ]
          refine wpAnyH_ready (rs := [8]) (by kernel_rfl) (by simp) ?_
          refine' AllReadyH.cons (o := _) ?e_15 ?st_15 AllReadyH.nil
          case e_15 => (simp only [List.getElem?_toArray, List.getElem?_cons_zero, List.getElem?_cons_succ]; exact rfl)
          case st_15 =>
            intro K hK
            go_simp
            have R_wa16 := World.rangeAt_alloc R_wc10 (.cells zBA 41)
            have C0_wa16 := cell_later (below_one (w := wc10) (.cells zBA 41)) C0_wc10
            have C1_wa16 := cell_later (below_one (w := wc10) (.cells zBA 41)) C1_wc10
            have C2_wa16 := cell_later (below_one (w := wc10) (.cells zBA 41)) C2_wc10
            have B_wa16 := Below.alc B_wc10 (.cells zBA 41)
            have T_wa16 := there_new wc10 zBA 41 (n := 19) (by decide)
            have hg1 : w.heap.size + 1 ≤ wc10.heap.size := by have := B_wc10.size; have := World.block_lt_of_cell? _ _ (cell18 R_wc10 (j := 0) (by omega)); have := World.block_lt_of_cell? _ _ C0_wc10; simp at *; omega
            have hg2 : ∀ x o u, wc10.cell? ⟨x, o, none⟩ = some u → x < wc10.heap.size := fun x o u h => World.block_lt_of_cell? _ _ h
            have hn_C0 := hg2 _ _ _ C0_wc10
            have hn_C1 := hg2 _ _ _ C1_wc10
            have hn_C2 := hg2 _ _ _ C2_wc10
            have hn_R := hg2 _ _ _ (cell18 R_wc10 (j := 0) (by omega))
            unfold zBA at *
            generalize wc10.heap.size = g at *
            generalize World.alloc _ _ = wa16 at *
            clear R_wc10 C0_wc10 C1_wc10 C2_wc10 B_wc10 hg2
            refine hK.out _ _ ⟨R_wa16, C0_wa16, C1_wa16, C2_wa16⟩ (fun hHeld => ?_)
            clear hK K
            try simp only [Act.put, List.setIfInBounds_toArray, List.set_cons_zero, List.set_cons_succ]
            refine wpAnyH_ready (rs := [9]) (by kernel_rfl) (by simp) ?_
            refine' AllReadyH.cons (o := _) ?e_18 ?st_18 AllReadyH.nil
            case e_18 => (simp only [List.getElem?_toArray, List.getElem?_cons_zero, List.getElem?_cons_succ]; exact rfl)
            intro K hK
            rw [if_pos (by rfl)]
            refine wp_store_mid _ _ _ rfl _ _ (ints Y).toArray rfl rfl (by rw [show (ints Y).toArray.size = 19 by simp [ints, hY]]; exact T_wa16) (by simpa using hi19 hY) (all_oneCell_toArray ints_one) ?_
            simp only [Act.put, List.setIfInBounds_toArray, List.set_cons_zero, List.set_cons_succ, List.toList_toArray]
            have R_ws17 := World.rangeAt_setCells_apart R_wa16 g 0 (ints Y) (.inl (by omega))
            have C0_ws17 := cell_far2 (g2 := g) (o2 := 0) (vs := ints Y) C0_wa16 (by omega)
            have C1_ws17 := cell_far2 (g2 := g) (o2 := 0) (vs := ints Y) C1_wa16 (by omega)
            have C2_ws17 := cell_far2 (g2 := g) (o2 := 0) (vs := ints Y) C2_wa16 (by omega)
            have B_ws17 := below_cells (ints Y) wa16 g 0 B_wa16 (by omega)
            have Y_ws17 := World.rangeAt_setCells_same wa16 g 0 (ints Y) (by rw [show (ints Y).length = 19 by simp [ints, hY]]; exact T_wa16)
            have T_ws17 := World.there_setCells T_wa16 g 0 (ints Y)
            have hgV := World.block_lt_of_cell? _ _ (cell18 Y_ws17 (j := 0) (by omega))
            refine hK.out _ _ ⟨R_ws17, C0_ws17, C1_ws17, C2_ws17⟩ (fun hHeld => ?_)
            clear hK K
            try simp only [Act.put, List.setIfInBounds_toArray, List.set_cons_zero, List.set_cons_succ]
            refine' wpAnyH_take (i := 10) (oi := _) (v := _) ?e_19 ?a_19 ?b_19 ?c_19 ?q_19 ?y_19 hHeld ?r_19
            case e_19 => (simp only [List.getElem?_toArray, List.getElem?_cons_zero, List.getElem?_cons_succ]; exact rfl)
            case a_19 => kernel_rfl
            case b_19 => kernel_rfl
            case c_19 => kernel_rfl
            case q_19 => exact fun _ _ _ h => h
            case y_19 => exact Or.inl ⟨by rfl, by (intro w hSw; (try dsimp only at hSw); go_simp; first | done | with_reducible rfl)⟩
            try simp only [Act.put, List.setIfInBounds_toArray, List.set_cons_zero, List.set_cons_succ]
            refine wpAnyH_done (by kernel_rfl) ?_ _
            go_wp2_with fail
            go_meet
            exact ⟨g, rfl, rfl, Y_ws17, hgV, by omega, R_ws17, C0_ws17, C1_ws17, C2_ws17, B_ws17⟩
        case more_9 =>
          refine' AllReadyH.cons (o := _) ?e_20 ?st_20 AllReadyH.nil
          case e_20 => (simp only [List.getElem?_toArray, List.getElem?_cons_zero, List.getElem?_cons_succ]; exact rfl)
          case st_20 =>
            intro K hK
            go_simp
            have R_wa21 := World.rangeAt_alloc R_wc7 (.cells zBA 41)
            have C0_wa21 := cell_later (below_one (w := wc7) (.cells zBA 41)) C0_wc7
            have C1_wa21 := cell_later (below_one (w := wc7) (.cells zBA 41)) C1_wc7
            have C2_wa21 := cell_later (below_one (w := wc7) (.cells zBA 41)) C2_wc7
            have B_wa21 := Below.alc B_wc7 (.cells zBA 41)
            have T_wa21 := there_new wc7 zBA 41 (n := 19) (by decide)
            have hg1 : w.heap.size + 1 ≤ wc7.heap.size := by have := B_wc7.size; have := World.block_lt_of_cell? _ _ (cell18 R_wc7 (j := 0) (by omega)); have := World.block_lt_of_cell? _ _ C0_wc7; simp at *; omega
            have hg2 : ∀ x o u, wc7.cell? ⟨x, o, none⟩ = some u → x < wc7.heap.size := fun x o u h => World.block_lt_of_cell? _ _ h
            have hn_C0 := hg2 _ _ _ C0_wc7
            have hn_C1 := hg2 _ _ _ C1_wc7
            have hn_C2 := hg2 _ _ _ C2_wc7
            have hn_R := hg2 _ _ _ (cell18 R_wc7 (j := 0) (by omega))
            unfold zBA at *
            generalize wc7.heap.size = g at *
            generalize World.alloc _ _ = wa21 at *
            clear R_wc7 C0_wc7 C1_wc7 C2_wc7 B_wc7 hg2
            refine hK.out _ _ ⟨R_wa21, C0_wa21, C1_wa21, C2_wa21⟩ (fun hHeld => ?_)
            clear hK K
            try simp only [Act.put, List.setIfInBounds_toArray, List.set_cons_zero, List.set_cons_succ]
            refine wpAnyH_ready (rs := [4]) (by kernel_rfl) (by simp) ?_
            refine' AllReadyH.cons (o := _) ?e_22 ?st_22 AllReadyH.nil
            case e_22 => (simp only [List.getElem?_toArray, List.getElem?_cons_zero, List.getElem?_cons_succ]; exact rfl)
            case st_22 =>
              intro K hK
              go_simp
              refine (HS.out _).mono ?_
              rintro e wc23 ⟨rfl, hx24⟩
              have R_wc23 := range_below R_wa21 hx24
              have C0_wc23 := cell_later hx24 C0_wa21
              have C1_wc23 := cell_later hx24 C1_wa21
              have C2_wc23 := cell_later hx24 C2_wa21
              have B_wc23 := Below.chain B_wa21 hx24
              have T_wc23 := there_below T_wa21 hx24
              clear R_wa21 C0_wa21 C1_wa21 C2_wa21 B_wa21 T_wa21 hx24
              go_wp2_with fail
              refine hK.out _ _ ⟨R_wc23, C0_wc23, C1_wc23, C2_wc23⟩ (fun hHeld => ?_)
              clear hK K
              try simp only [Act.put, List.setIfInBounds_toArray, List.set_cons_zero, List.set_cons_succ]
              refine' wpAnyH_take (i := 5) (oi := _) (v := _) ?e_25 ?a_25 ?b_25 ?c_25 ?q_25 ?y_25 hHeld ?r_25
              case e_25 => (simp only [List.getElem?_toArray, List.getElem?_cons_zero, List.getElem?_cons_succ]; exact rfl)
              case a_25 => kernel_rfl
              case b_25 => kernel_rfl
              case c_25 => kernel_rfl
              case q_25 => exact fun _ _ _ h => h
              case y_25 => exact Or.inl ⟨by rfl, by (intro w hSw; (try dsimp only at hSw); go_simp; first | done | with_reducible rfl)⟩
              try simp only [Act.put, List.setIfInBounds_toArray, List.set_cons_zero, List.set_cons_succ]
              refine' wpAnyH_take (i := 6) (oi := _) (v := _) ?e_26 ?a_26 ?b_26 ?c_26 ?q_26 ?y_26 hHeld ?r_26
              case e_26 => (simp only [List.getElem?_toArray, List.getElem?_cons_zero, List.getElem?_cons_succ]; exact rfl)
              case a_26 => kernel_rfl
              case b_26 => kernel_rfl
              case c_26 => kernel_rfl
              case q_26 => exact fun _ _ _ h => h
              case y_26 => exact Or.inl ⟨by rfl, by (intro w hSw; (try dsimp only at hSw); go_simp; first | done | with_reducible rfl)⟩
              try simp only [Act.put, List.setIfInBounds_toArray, List.set_cons_zero, List.set_cons_succ]
              refine' wpAnyH_take (i := 7) (oi := _) (v := _) ?e_27 ?a_27 ?b_27 ?c_27 ?q_27 ?y_27 hHeld ?r_27
              case e_27 => (simp only [List.getElem?_toArray, List.getElem?_cons_zero, List.getElem?_cons_succ]; exact rfl)
              case a_27 => kernel_rfl
              case b_27 => kernel_rfl
              case c_27 => kernel_rfl
              case q_27 => exact fun _ _ _ h => h
              case y_27 => exact Or.inl ⟨by rfl, by (intro w hSw; (try dsimp only at hSw); go_simp; first | done | with_reducible rfl)⟩
              try simp only [Act.put, List.setIfInBounds_toArray, List.set_cons_zero, List.set_cons_succ]
              refine wpAnyH_ready (rs := [9]) (by kernel_rfl) (by simp) ?_
              refine' AllReadyH.cons (o := _) ?e_29 ?st_29 AllReadyH.nil
              case e_29 => (simp only [List.getElem?_toArray, List.getElem?_cons_zero, List.getElem?_cons_succ]; exact rfl)
              intro K hK
              rw [if_pos (by rfl)]
              refine wp_store_mid _ _ _ rfl _ _ (ints Y).toArray rfl rfl (by rw [show (ints Y).toArray.size = 19 by simp [ints, hY]]; exact T_wc23) (by simpa using hi19 hY) (all_oneCell_toArray ints_one) ?_
              simp only [Act.put, List.setIfInBounds_toArray, List.set_cons_zero, List.set_cons_succ, List.toList_toArray]
              have R_ws28 := World.rangeAt_setCells_apart R_wc23 g 0 (ints Y) (.inl (by omega))
              have C0_ws28 := cell_far2 (g2 := g) (o2 := 0) (vs := ints Y) C0_wc23 (by omega)
              have C1_ws28 := cell_far2 (g2 := g) (o2 := 0) (vs := ints Y) C1_wc23 (by omega)
              have C2_ws28 := cell_far2 (g2 := g) (o2 := 0) (vs := ints Y) C2_wc23 (by omega)
              have B_ws28 := below_cells (ints Y) wc23 g 0 B_wc23 (by omega)
              have Y_ws28 := World.rangeAt_setCells_same wc23 g 0 (ints Y) (by rw [show (ints Y).length = 19 by simp [ints, hY]]; exact T_wc23)
              have T_ws28 := World.there_setCells T_wc23 g 0 (ints Y)
              have hgV := World.block_lt_of_cell? _ _ (cell18 Y_ws28 (j := 0) (by omega))
              refine hK.out _ _ ⟨R_ws28, C0_ws28, C1_ws28, C2_ws28⟩ (fun hHeld => ?_)
              clear hK K
              try simp only [Act.put, List.setIfInBounds_toArray, List.set_cons_zero, List.set_cons_succ]
              refine' wpAnyH_take (i := 10) (oi := _) (v := _) ?e_30 ?a_30 ?b_30 ?c_30 ?q_30 ?y_30 hHeld ?r_30
              case e_30 => (simp only [List.getElem?_toArray, List.getElem?_cons_zero, List.getElem?_cons_succ]; exact rfl)
              case a_30 => kernel_rfl
              case b_30 => kernel_rfl
              case c_30 => kernel_rfl
              case q_30 => exact fun _ _ _ h => h
              case y_30 => exact Or.inl ⟨by rfl, by (intro w hSw; (try dsimp only at hSw); go_simp; first | done | with_reducible rfl)⟩
              try simp only [Act.put, List.setIfInBounds_toArray, List.set_cons_zero, List.set_cons_succ]
              refine wpAnyH_done (by kernel_rfl) ?_ _
              go_wp2_with fail
              go_meet
              exact ⟨g, rfl, rfl, Y_ws28, hgV, by omega, R_ws28, C0_ws28, C1_ws28, C2_ws28, B_ws28⟩
      case more_6 =>
        refine' AllReadyH.cons (o := _) ?e_31 ?st_31 AllReadyH.nil
        case e_31 => (simp only [List.getElem?_toArray, List.getElem?_cons_zero, List.getElem?_cons_succ]; exact rfl)
        case st_31 =>
          intro K hK
          go_simp
          have R_wa32 := World.rangeAt_alloc R_wc4 (.cells zBA 41)
          have C0_wa32 := cell_later (below_one (w := wc4) (.cells zBA 41)) C0_wc4
          have C1_wa32 := cell_later (below_one (w := wc4) (.cells zBA 41)) C1_wc4
          have C2_wa32 := cell_later (below_one (w := wc4) (.cells zBA 41)) C2_wc4
          have B_wa32 := Below.alc B_wc4 (.cells zBA 41)
          have T_wa32 := there_new wc4 zBA 41 (n := 19) (by decide)
          have hg1 : w.heap.size + 1 ≤ wc4.heap.size := by have := B_wc4.size; have := World.block_lt_of_cell? _ _ (cell18 R_wc4 (j := 0) (by omega)); have := World.block_lt_of_cell? _ _ C0_wc4; simp at *; omega
          have hg2 : ∀ x o u, wc4.cell? ⟨x, o, none⟩ = some u → x < wc4.heap.size := fun x o u h => World.block_lt_of_cell? _ _ h
          have hn_C0 := hg2 _ _ _ C0_wc4
          have hn_C1 := hg2 _ _ _ C1_wc4
          have hn_C2 := hg2 _ _ _ C2_wc4
          have hn_R := hg2 _ _ _ (cell18 R_wc4 (j := 0) (by omega))
          unfold zBA at *
          generalize wc4.heap.size = g at *
          generalize World.alloc _ _ = wa32 at *
          clear R_wc4 C0_wc4 C1_wc4 C2_wc4 B_wc4 hg2
          refine hK.out _ _ ⟨R_wa32, C0_wa32, C1_wa32, C2_wa32⟩ (fun hHeld => ?_)
          clear hK K
          try simp only [Act.put, List.setIfInBounds_toArray, List.set_cons_zero, List.set_cons_succ]
          refine wpAnyH_ready (rs := [3]) (by kernel_rfl) (by simp) ?_
          refine' AllReadyH.cons (o := _) ?e_33 ?st_33 AllReadyH.nil
          case e_33 => (simp only [List.getElem?_toArray, List.getElem?_cons_zero, List.getElem?_cons_succ]; exact rfl)
          case st_33 =>
            intro K hK
            go_simp
            refine (HJ.out _).mono ?_
            rintro e wc34 ⟨rfl, hx35⟩
            have R_wc34 := range_below R_wa32 hx35
            have C0_wc34 := cell_later hx35 C0_wa32
            have C1_wc34 := cell_later hx35 C1_wa32
            have C2_wc34 := cell_later hx35 C2_wa32
            have B_wc34 := Below.chain B_wa32 hx35
            have T_wc34 := there_below T_wa32 hx35
            clear R_wa32 C0_wa32 C1_wa32 C2_wa32 B_wa32 T_wa32 hx35
            go_wp2_with fail
            refine hK.out _ _ ⟨R_wc34, C0_wc34, C1_wc34, C2_wc34⟩ (fun hHeld => ?_)
            clear hK K
            try simp only [Act.put, List.setIfInBounds_toArray, List.set_cons_zero, List.set_cons_succ]
            refine wpAnyH_ready (rs := [4]) (by kernel_rfl) (by simp) ?_
            refine' AllReadyH.cons (o := _) ?e_36 ?st_36 AllReadyH.nil
            case e_36 => (simp only [List.getElem?_toArray, List.getElem?_cons_zero, List.getElem?_cons_succ]; exact rfl)
            case st_36 =>
              intro K hK
              go_simp
              refine (HS.out _).mono ?_
              rintro e wc37 ⟨rfl, hx38⟩
              have R_wc37 := range_below R_wc34 hx38
              have C0_wc37 := cell_later hx38 C0_wc34
              have C1_wc37 := cell_later hx38 C1_wc34
              have C2_wc37 := cell_later hx38 C2_wc34
              have B_wc37 := Below.chain B_wc34 hx38
              have T_wc37 := there_below T_wc34 hx38
              clear R_wc34 C0_wc34 C1_wc34 C2_wc34 B_wc34 T_wc34 hx38
              go_wp2_with fail
              refine hK.out _ _ ⟨R_wc37, C0_wc37, C1_wc37, C2_wc37⟩ (fun hHeld => ?_)
              clear hK K
              try simp only [Act.put, List.setIfInBounds_toArray, List.set_cons_zero, List.set_cons_succ]
              refine' wpAnyH_take (i := 5) (oi := _) (v := _) ?e_39 ?a_39 ?b_39 ?c_39 ?q_39 ?y_39 hHeld ?r_39
              case e_39 => (simp only [List.getElem?_toArray, List.getElem?_cons_zero, List.getElem?_cons_succ]; exact rfl)
              case a_39 => kernel_rfl
              case b_39 => kernel_rfl
              case c_39 => kernel_rfl
              case q_39 => exact fun _ _ _ h => h
              case y_39 => exact Or.inl ⟨by rfl, by (intro w hSw; (try dsimp only at hSw); go_simp; first | done | with_reducible rfl)⟩
              try simp only [Act.put, List.setIfInBounds_toArray, List.set_cons_zero, List.set_cons_succ]
              refine' wpAnyH_take (i := 6) (oi := _) (v := _) ?e_40 ?a_40 ?b_40 ?c_40 ?q_40 ?y_40 hHeld ?r_40
              case e_40 => (simp only [List.getElem?_toArray, List.getElem?_cons_zero, List.getElem?_cons_succ]; exact rfl)
              case a_40 => kernel_rfl
              case b_40 => kernel_rfl
              case c_40 => kernel_rfl
              case q_40 => exact fun _ _ _ h => h
              case y_40 => exact Or.inl ⟨by rfl, by (intro w hSw; (try dsimp only at hSw); go_simp; first | done | with_reducible rfl)⟩
              try simp only [Act.put, List.setIfInBounds_toArray, List.set_cons_zero, List.set_cons_succ]
              refine' wpAnyH_take (i := 7) (oi := _) (v := _) ?e_41 ?a_41 ?b_41 ?c_41 ?q_41 ?y_41 hHeld ?r_41
              case e_41 => (simp only [List.getElem?_toArray, List.getElem?_cons_zero, List.getElem?_cons_succ]; exact rfl)
              case a_41 => kernel_rfl
              case b_41 => kernel_rfl
              case c_41 => kernel_rfl
              case q_41 => exact fun _ _ _ h => h
              case y_41 => exact Or.inl ⟨by rfl, by (intro w hSw; (try dsimp only at hSw); go_simp; first | done | with_reducible rfl)⟩
              try simp only [Act.put, List.setIfInBounds_toArray, List.set_cons_zero, List.set_cons_succ]
              refine wpAnyH_ready (rs := [9]) (by kernel_rfl) (by simp) ?_
              refine' AllReadyH.cons (o := _) ?e_43 ?st_43 AllReadyH.nil
              case e_43 => (simp only [List.getElem?_toArray, List.getElem?_cons_zero, List.getElem?_cons_succ]; exact rfl)
              intro K hK
              rw [if_pos (by rfl)]
              refine wp_store_mid _ _ _ rfl _ _ (ints Y).toArray rfl rfl (by rw [show (ints Y).toArray.size = 19 by simp [ints, hY]]; exact T_wc37) (by simpa using hi19 hY) (all_oneCell_toArray ints_one) ?_
              simp only [Act.put, List.setIfInBounds_toArray, List.set_cons_zero, List.set_cons_succ, List.toList_toArray]
              have R_ws42 := World.rangeAt_setCells_apart R_wc37 g 0 (ints Y) (.inl (by omega))
              have C0_ws42 := cell_far2 (g2 := g) (o2 := 0) (vs := ints Y) C0_wc37 (by omega)
              have C1_ws42 := cell_far2 (g2 := g) (o2 := 0) (vs := ints Y) C1_wc37 (by omega)
              have C2_ws42 := cell_far2 (g2 := g) (o2 := 0) (vs := ints Y) C2_wc37 (by omega)
              have B_ws42 := below_cells (ints Y) wc37 g 0 B_wc37 (by omega)
              have Y_ws42 := World.rangeAt_setCells_same wc37 g 0 (ints Y) (by rw [show (ints Y).length = 19 by simp [ints, hY]]; exact T_wc37)
              have T_ws42 := World.there_setCells T_wc37 g 0 (ints Y)
              have hgV := World.block_lt_of_cell? _ _ (cell18 Y_ws42 (j := 0) (by omega))
              refine hK.out _ _ ⟨R_ws42, C0_ws42, C1_ws42, C2_ws42⟩ (fun hHeld => ?_)
              clear hK K
              try simp only [Act.put, List.setIfInBounds_toArray, List.set_cons_zero, List.set_cons_succ]
              refine' wpAnyH_take (i := 10) (oi := _) (v := _) ?e_44 ?a_44 ?b_44 ?c_44 ?q_44 ?y_44 hHeld ?r_44
              case e_44 => (simp only [List.getElem?_toArray, List.getElem?_cons_zero, List.getElem?_cons_succ]; exact rfl)
              case a_44 => kernel_rfl
              case b_44 => kernel_rfl
              case c_44 => kernel_rfl
              case q_44 => exact fun _ _ _ h => h
              case y_44 => exact Or.inl ⟨by rfl, by (intro w hSw; (try dsimp only at hSw); go_simp; first | done | with_reducible rfl)⟩
              try simp only [Act.put, List.setIfInBounds_toArray, List.set_cons_zero, List.set_cons_succ]
              refine wpAnyH_done (by kernel_rfl) ?_ _
              go_wp2_with fail
              go_meet
              exact ⟨g, rfl, rfl, Y_ws42, hgV, by omega, R_ws42, C0_ws42, C1_ws42, C2_ws42, B_ws42⟩
    case more_3 =>
      refine' AllReadyH.cons (o := _) ?e_45 ?st_45 AllReadyH.nil
      case e_45 => (simp only [List.getElem?_toArray, List.getElem?_cons_zero, List.getElem?_cons_succ]; exact rfl)
      case st_45 =>
        intro K hK
        go_simp
        have R_wa46 := World.rangeAt_alloc R_wd (.cells zBA 41)
        have C0_wa46 := cell_later (below_one (w := wd) (.cells zBA 41)) C0_wd
        have C1_wa46 := cell_later (below_one (w := wd) (.cells zBA 41)) C1_wd
        have C2_wa46 := cell_later (below_one (w := wd) (.cells zBA 41)) C2_wd
        have B_wa46 := Below.alc B_wd (.cells zBA 41)
        have T_wa46 := there_new wd zBA 41 (n := 19) (by decide)
        have hg1 : w.heap.size + 1 ≤ wd.heap.size := by have := B_wd.size; have := World.block_lt_of_cell? _ _ (cell18 R_wd (j := 0) (by omega)); have := World.block_lt_of_cell? _ _ C0_wd; simp at *; omega
        have hg2 : ∀ x o u, wd.cell? ⟨x, o, none⟩ = some u → x < wd.heap.size := fun x o u h => World.block_lt_of_cell? _ _ h
        have hn_C0 := hg2 _ _ _ C0_wd
        have hn_C1 := hg2 _ _ _ C1_wd
        have hn_C2 := hg2 _ _ _ C2_wd
        have hn_R := hg2 _ _ _ (cell18 R_wd (j := 0) (by omega))
        unfold zBA at *
        generalize wd.heap.size = g at *
        generalize World.alloc _ _ = wa46 at *
        clear R_wd C0_wd C1_wd C2_wd B_wd hg2
        refine hK.out _ _ ⟨R_wa46, C0_wa46, C1_wa46, C2_wa46⟩ (fun hHeld => ?_)
        clear hK K
        try simp only [Act.put, List.setIfInBounds_toArray, List.set_cons_zero, List.set_cons_succ]
        refine wpAnyH_ready (rs := [1]) (by kernel_rfl) (by simp) ?_
        refine' AllReadyH.cons (o := _) ?e_47 ?st_47 AllReadyH.nil
        case e_47 => (simp only [List.getElem?_toArray, List.getElem?_cons_zero, List.getElem?_cons_succ]; exact rfl)
        case st_47 =>
          intro K hK
          go_simp
          refine (HT.out _).mono ?_
          rintro e wc48 ⟨rfl, hx49⟩
          have R_wc48 := range_below R_wa46 hx49
          have C0_wc48 := cell_later hx49 C0_wa46
          have C1_wc48 := cell_later hx49 C1_wa46
          have C2_wc48 := cell_later hx49 C2_wa46
          have B_wc48 := Below.chain B_wa46 hx49
          have T_wc48 := there_below T_wa46 hx49
          clear R_wa46 C0_wa46 C1_wa46 C2_wa46 B_wa46 T_wa46 hx49
          go_wp2_with fail
          refine hK.out _ _ ⟨R_wc48, C0_wc48, C1_wc48, C2_wc48⟩ (fun hHeld => ?_)
          clear hK K
          try simp only [Act.put, List.setIfInBounds_toArray, List.set_cons_zero, List.set_cons_succ]
          refine wpAnyH_ready (rs := [3]) (by kernel_rfl) (by simp) ?_
          refine' AllReadyH.cons (o := _) ?e_50 ?st_50 AllReadyH.nil
          case e_50 => (simp only [List.getElem?_toArray, List.getElem?_cons_zero, List.getElem?_cons_succ]; exact rfl)
          case st_50 =>
            intro K hK
            go_simp
            refine (HJ.out _).mono ?_
            rintro e wc51 ⟨rfl, hx52⟩
            have R_wc51 := range_below R_wc48 hx52
            have C0_wc51 := cell_later hx52 C0_wc48
            have C1_wc51 := cell_later hx52 C1_wc48
            have C2_wc51 := cell_later hx52 C2_wc48
            have B_wc51 := Below.chain B_wc48 hx52
            have T_wc51 := there_below T_wc48 hx52
            clear R_wc48 C0_wc48 C1_wc48 C2_wc48 B_wc48 T_wc48 hx52
            go_wp2_with fail
            refine hK.out _ _ ⟨R_wc51, C0_wc51, C1_wc51, C2_wc51⟩ (fun hHeld => ?_)
            clear hK K
            try simp only [Act.put, List.setIfInBounds_toArray, List.set_cons_zero, List.set_cons_succ]
            refine wpAnyH_ready (rs := [4]) (by kernel_rfl) (by simp) ?_
            refine' AllReadyH.cons (o := _) ?e_53 ?st_53 AllReadyH.nil
            case e_53 => (simp only [List.getElem?_toArray, List.getElem?_cons_zero, List.getElem?_cons_succ]; exact rfl)
            case st_53 =>
              intro K hK
              go_simp
              refine (HS.out _).mono ?_
              rintro e wc54 ⟨rfl, hx55⟩
              have R_wc54 := range_below R_wc51 hx55
              have C0_wc54 := cell_later hx55 C0_wc51
              have C1_wc54 := cell_later hx55 C1_wc51
              have C2_wc54 := cell_later hx55 C2_wc51
              have B_wc54 := Below.chain B_wc51 hx55
              have T_wc54 := there_below T_wc51 hx55
              clear R_wc51 C0_wc51 C1_wc51 C2_wc51 B_wc51 T_wc51 hx55
              go_wp2_with fail
              refine hK.out _ _ ⟨R_wc54, C0_wc54, C1_wc54, C2_wc54⟩ (fun hHeld => ?_)
              clear hK K
              try simp only [Act.put, List.setIfInBounds_toArray, List.set_cons_zero, List.set_cons_succ]
              refine' wpAnyH_take (i := 5) (oi := _) (v := _) ?e_56 ?a_56 ?b_56 ?c_56 ?q_56 ?y_56 hHeld ?r_56
              case e_56 => (simp only [List.getElem?_toArray, List.getElem?_cons_zero, List.getElem?_cons_succ]; exact rfl)
              case a_56 => kernel_rfl
              case b_56 => kernel_rfl
              case c_56 => kernel_rfl
              case q_56 => exact fun _ _ _ h => h
              case y_56 => exact Or.inl ⟨by rfl, by (intro w hSw; (try dsimp only at hSw); go_simp; first | done | with_reducible rfl)⟩
              try simp only [Act.put, List.setIfInBounds_toArray, List.set_cons_zero, List.set_cons_succ]
              refine' wpAnyH_take (i := 6) (oi := _) (v := _) ?e_57 ?a_57 ?b_57 ?c_57 ?q_57 ?y_57 hHeld ?r_57
              case e_57 => (simp only [List.getElem?_toArray, List.getElem?_cons_zero, List.getElem?_cons_succ]; exact rfl)
              case a_57 => kernel_rfl
              case b_57 => kernel_rfl
              case c_57 => kernel_rfl
              case q_57 => exact fun _ _ _ h => h
              case y_57 => exact Or.inl ⟨by rfl, by (intro w hSw; (try dsimp only at hSw); go_simp; first | done | with_reducible rfl)⟩
              try simp only [Act.put, List.setIfInBounds_toArray, List.set_cons_zero, List.set_cons_succ]
              refine' wpAnyH_take (i := 7) (oi := _) (v := _) ?e_58 ?a_58 ?b_58 ?c_58 ?q_58 ?y_58 hHeld ?r_58
              case e_58 => (simp only [List.getElem?_toArray, List.getElem?_cons_zero, List.getElem?_cons_succ]; exact rfl)
              case a_58 => kernel_rfl
              case b_58 => kernel_rfl
              case c_58 => kernel_rfl
              case q_58 => exact fun _ _ _ h => h
              case y_58 => exact Or.inl ⟨by rfl, by (intro w hSw; (try dsimp only at hSw); go_simp; first | done | with_reducible rfl)⟩
              try simp only [Act.put, List.setIfInBounds_toArray, List.set_cons_zero, List.set_cons_succ]
              refine wpAnyH_ready (rs := [9]) (by kernel_rfl) (by simp) ?_
              refine' AllReadyH.cons (o := _) ?e_60 ?st_60 AllReadyH.nil
              case e_60 => (simp only [List.getElem?_toArray, List.getElem?_cons_zero, List.getElem?_cons_succ]; exact rfl)
              intro K hK
              rw [if_pos (by rfl)]
              refine wp_store_mid _ _ _ rfl _ _ (ints Y).toArray rfl rfl (by rw [show (ints Y).toArray.size = 19 by simp [ints, hY]]; exact T_wc54) (by simpa using hi19 hY) (all_oneCell_toArray ints_one) ?_
              simp only [Act.put, List.setIfInBounds_toArray, List.set_cons_zero, List.set_cons_succ, List.toList_toArray]
              have R_ws59 := World.rangeAt_setCells_apart R_wc54 g 0 (ints Y) (.inl (by omega))
              have C0_ws59 := cell_far2 (g2 := g) (o2 := 0) (vs := ints Y) C0_wc54 (by omega)
              have C1_ws59 := cell_far2 (g2 := g) (o2 := 0) (vs := ints Y) C1_wc54 (by omega)
              have C2_ws59 := cell_far2 (g2 := g) (o2 := 0) (vs := ints Y) C2_wc54 (by omega)
              have B_ws59 := below_cells (ints Y) wc54 g 0 B_wc54 (by omega)
              have Y_ws59 := World.rangeAt_setCells_same wc54 g 0 (ints Y) (by rw [show (ints Y).length = 19 by simp [ints, hY]]; exact T_wc54)
              have T_ws59 := World.there_setCells T_wc54 g 0 (ints Y)
              have hgV := World.block_lt_of_cell? _ _ (cell18 Y_ws59 (j := 0) (by omega))
              refine hK.out _ _ ⟨R_ws59, C0_ws59, C1_ws59, C2_ws59⟩ (fun hHeld => ?_)
              clear hK K
              try simp only [Act.put, List.setIfInBounds_toArray, List.set_cons_zero, List.set_cons_succ]
              refine' wpAnyH_take (i := 10) (oi := _) (v := _) ?e_61 ?a_61 ?b_61 ?c_61 ?q_61 ?y_61 hHeld ?r_61
              case e_61 => (simp only [List.getElem?_toArray, List.getElem?_cons_zero, List.getElem?_cons_succ]; exact rfl)
              case a_61 => kernel_rfl
              case b_61 => kernel_rfl
              case c_61 => kernel_rfl
              case q_61 => exact fun _ _ _ h => h
              case y_61 => exact Or.inl ⟨by rfl, by (intro w hSw; (try dsimp only at hSw); go_simp; first | done | with_reducible rfl)⟩
              try simp only [Act.put, List.setIfInBounds_toArray, List.set_cons_zero, List.set_cons_succ]
              refine wpAnyH_done (by kernel_rfl) ?_ _
              go_wp2_with fail
              go_meet
              exact ⟨g, rfl, rfl, Y_ws59, hgV, by omega, R_ws59, C0_ws59, C1_ws59, C2_ws59, B_ws59⟩
  case rest =>
    obtain ⟨g0, rfl, rfl, YG_w2, hg0, hgw, R_w2, C0_w2, C1_w2, C2_w2, B_w2⟩ := hcut
    go_upto_region 2 with fail
    generalize wc = w2 at *
    go_cut [7, 8] (fun s7 s8 wx => ∃ g : Nat, s7 = .pointer (some ⟨g, 0, none⟩) ∧ s8 = .bool ok ∧ wx.rangeAt g 0 (ints Y) ∧ wx.rangeAt g0 0 (ints Y) ∧ Below w.heap.size w wx)
    case first =>
      have R_wd := (show World.rangeAt (w2.drew) _ _ _ from R_w2)
      have C0_wd := (show World.cell? (w2.drew) _ = some _ from C0_w2)
      have C1_wd := (show World.cell? (w2.drew) _ = some _ from C1_w2)
      have C2_wd := (show World.cell? (w2.drew) _ = some _ from C2_w2)
      have YG_wd := (show World.rangeAt (w2.drew) _ _ _ from YG_w2)
      have B_wd := B_w2.drew
      refine wp_region_held_drew (S := fun w' : World => w'.rangeAt w.heap.size 0 (ints b) ∧ w'.cell? ⟨w.heap.size + 1, 0, none⟩ = some (.int .i64 k) ∧ w'.cell? ⟨w.heap.size + 1, 1, none⟩ = some (.int .i64 a) ∧ w'.cell? ⟨w.heap.size + 1, 2, none⟩ = some (.int .i64 v)) (by kernel_rfl) ⟨R_wd, C0_wd, C1_wd, C2_wd⟩ (fun hHeld => ?_)
      generalize w2.drew = wd at *
      clear R_w2 C0_w2 C1_w2 C2_w2 YG_w2 B_w2
      refine' wpAnyH_take (i := 0) (oi := _) (v := _) ?e_62 ?a_62 ?b_62 ?c_62 ?q_62 ?y_62 hHeld ?r_62
      case e_62 => (simp only [List.getElem?_toArray, List.getElem?_cons_zero, List.getElem?_cons_succ]; exact rfl)
      case a_62 => kernel_rfl
      case b_62 => kernel_rfl
      case c_62 => kernel_rfl
      case q_62 => exact fun _ _ _ h => h
      case y_62 =>
        refine' yieldsIf_load_mid ?hw_62 _ _ rfl _ _ rfl (ints b) _ ?hS_62 ?hu_62 ?hd_62 ?hi_62
        case hw_62 => rfl
        case hS_62 => exact fun (w' : World) (h : w'.rangeAt w.heap.size 0 (ints b) ∧ w'.cell? ⟨w.heap.size + 1, 0, none⟩ = some (.int .i64 k) ∧ w'.cell? ⟨w.heap.size + 1, 1, none⟩ = some (.int .i64 a) ∧ w'.cell? ⟨w.heap.size + 1, 2, none⟩ = some (.int .i64 v)) => h.1
        case hu_62 => exact Try.underlying38
        case hd_62 => rfl
        case hi_62 => exact hil
      try simp only [Act.put, List.setIfInBounds_toArray, List.set_cons_zero, List.set_cons_succ]
      refine' wpAnyH_take (i := 2) (oi := _) (v := _) ?e_63 ?a_63 ?b_63 ?c_63 ?q_63 ?y_63 hHeld ?r_63
      case e_63 => (simp only [List.getElem?_toArray, List.getElem?_cons_zero, List.getElem?_cons_succ]; exact rfl)
      case a_63 => kernel_rfl
      case b_63 => kernel_rfl
      case c_63 => kernel_rfl
      case q_63 => exact fun _ _ _ h => h
      case y_63 => exact Or.inl ⟨by rfl, by (intro w hSw; (try dsimp only at hSw); go_simp; first | done | with_reducible rfl)⟩
      try simp only [Act.put, List.setIfInBounds_toArray, List.set_cons_zero, List.set_cons_succ]
      refine wpAnyH_ready (rs := [1, 8]) (by kernel_rfl) (by simp) ?_
      refine' AllReadyH.cons (o := _) ?e_64 ?st_64 ?more_64
      case e_64 => (simp only [List.getElem?_toArray, List.getElem?_cons_zero, List.getElem?_cons_succ]; exact rfl)
      case st_64 =>
        intro K hK
        go_simp
        refine (HT.out _).mono ?_
        rintro e wc65 ⟨rfl, hx66⟩
        have R_wc65 := range_below R_wd hx66
        have C0_wc65 := cell_later hx66 C0_wd
        have C1_wc65 := cell_later hx66 C1_wd
        have C2_wc65 := cell_later hx66 C2_wd
        have YG_wc65 := range_below YG_wd hx66
        have B_wc65 := Below.chain B_wd hx66
        clear R_wd C0_wd C1_wd C2_wd YG_wd B_wd hx66
        go_wp2_with fail
        refine hK.out _ _ ⟨R_wc65, C0_wc65, C1_wc65, C2_wc65⟩ (fun hHeld => ?_)
        clear hK K
        try simp only [Act.put, List.setIfInBounds_toArray, List.set_cons_zero, List.set_cons_succ]
        refine wpAnyH_ready (rs := [3, 8]) (by kernel_rfl) (by simp) ?_
        refine' AllReadyH.cons (o := _) ?e_67 ?st_67 ?more_67
        case e_67 => (simp only [List.getElem?_toArray, List.getElem?_cons_zero, List.getElem?_cons_succ]; exact rfl)
        case st_67 =>
          intro K hK
          go_simp
          refine (HJ.out _).mono ?_
          rintro e wc68 ⟨rfl, hx69⟩
          have R_wc68 := range_below R_wc65 hx69
          have C0_wc68 := cell_later hx69 C0_wc65
          have C1_wc68 := cell_later hx69 C1_wc65
          have C2_wc68 := cell_later hx69 C2_wc65
          have YG_wc68 := range_below YG_wc65 hx69
          have B_wc68 := Below.chain B_wc65 hx69
          clear R_wc65 C0_wc65 C1_wc65 C2_wc65 YG_wc65 B_wc65 hx69
          go_wp2_with fail
          refine hK.out _ _ ⟨R_wc68, C0_wc68, C1_wc68, C2_wc68⟩ (fun hHeld => ?_)
          clear hK K
          try simp only [Act.put, List.setIfInBounds_toArray, List.set_cons_zero, List.set_cons_succ]
          refine wpAnyH_ready (rs := [4, 8]) (by kernel_rfl) (by simp) ?_
          refine' AllReadyH.cons (o := _) ?e_70 ?st_70 ?more_70
          case e_70 => (simp only [List.getElem?_toArray, List.getElem?_cons_zero, List.getElem?_cons_succ]; exact rfl)
          case st_70 =>
            intro K hK
            go_simp
            refine (HI.out _).mono ?_
            rintro e wc71 ⟨rfl, hx72⟩
            have R_wc71 := range_below R_wc68 hx72
            have C0_wc71 := cell_later hx72 C0_wc68
            have C1_wc71 := cell_later hx72 C1_wc68
            have C2_wc71 := cell_later hx72 C2_wc68
            have YG_wc71 := range_below YG_wc68 hx72
            have B_wc71 := Below.chain B_wc68 hx72
            clear R_wc68 C0_wc68 C1_wc68 C2_wc68 YG_wc68 B_wc68 hx72
            go_wp2_with fail
            refine hK.out _ _ ⟨R_wc71, C0_wc71, C1_wc71, C2_wc71⟩ (fun hHeld => ?_)
            clear hK K
            try simp only [Act.put, List.setIfInBounds_toArray, List.set_cons_zero, List.set_cons_succ]
            refine' wpAnyH_take (i := 5) (oi := _) (v := _) ?e_73 ?a_73 ?b_73 ?c_73 ?q_73 ?y_73 hHeld ?r_73
            case e_73 => (simp only [List.getElem?_toArray, List.getElem?_cons_zero, List.getElem?_cons_succ]; exact rfl)
            case a_73 => kernel_rfl
            case b_73 => kernel_rfl
            case c_73 => kernel_rfl
            case q_73 => exact fun _ _ _ h => h
            case y_73 => exact Or.inl ⟨by rfl, by (intro w hSw; (try dsimp only at hSw); go_simp; first | done | with_reducible rfl)⟩
            try simp only [Act.put, List.setIfInBounds_toArray, List.set_cons_zero, List.set_cons_succ]
            refine' wpAnyH_take (i := 6) (oi := _) (v := _) ?e_74 ?a_74 ?b_74 ?c_74 ?q_74 ?y_74 hHeld ?r_74
            case e_74 => (simp only [List.getElem?_toArray, List.getElem?_cons_zero, List.getElem?_cons_succ]; exact rfl)
            case a_74 => kernel_rfl
            case b_74 => kernel_rfl
            case c_74 => kernel_rfl
            case q_74 => exact fun _ _ _ h => h
            case y_74 => exact Or.inl ⟨by rfl, by (intro w hSw; (try dsimp only at hSw); go_simp; first | done | with_reducible rfl)⟩
            try simp only [Act.put, List.setIfInBounds_toArray, List.set_cons_zero, List.set_cons_succ]
            refine' wpAnyH_take (i := 7) (oi := _) (v := _) ?e_75 ?a_75 ?b_75 ?c_75 ?q_75 ?y_75 hHeld ?r_75
            case e_75 => (simp only [List.getElem?_toArray, List.getElem?_cons_zero, List.getElem?_cons_succ]; exact rfl)
            case a_75 => kernel_rfl
            case b_75 => kernel_rfl
            case c_75 => kernel_rfl
            case q_75 => exact fun _ _ _ h => h
            case y_75 => exact Or.inl ⟨by rfl, by (intro w hSw; (try dsimp only at hSw); go_simp; first | done | with_reducible rfl)⟩
            try simp only [Act.put, List.setIfInBounds_toArray, List.set_cons_zero, List.set_cons_succ]
            refine wpAnyH_ready (rs := [8]) (by kernel_rfl) (by simp) ?_
            refine' AllReadyH.cons (o := _) ?e_76 ?st_76 AllReadyH.nil
            case e_76 => (simp only [List.getElem?_toArray, List.getElem?_cons_zero, List.getElem?_cons_succ]; exact rfl)
            case st_76 =>
              intro K hK
              go_simp
              have R_wa77 := World.rangeAt_alloc R_wc71 (.cells zBA 41)
              have C0_wa77 := cell_later (below_one (w := wc71) (.cells zBA 41)) C0_wc71
              have C1_wa77 := cell_later (below_one (w := wc71) (.cells zBA 41)) C1_wc71
              have C2_wa77 := cell_later (below_one (w := wc71) (.cells zBA 41)) C2_wc71
              have YG_wa77 := World.rangeAt_alloc YG_wc71 (.cells zBA 41)
              have B_wa77 := Below.alc B_wc71 (.cells zBA 41)
              have T_wa77 := there_new wc71 zBA 41 (n := 19) (by decide)
              have hg1 : w.heap.size + 1 ≤ wc71.heap.size := by have := B_wc71.size; have := World.block_lt_of_cell? _ _ (cell18 R_wc71 (j := 0) (by omega)); have := World.block_lt_of_cell? _ _ C0_wc71; simp at *; omega
              have hg2 : ∀ x o u, wc71.cell? ⟨x, o, none⟩ = some u → x < wc71.heap.size := fun x o u h => World.block_lt_of_cell? _ _ h
              have hn_C0 := hg2 _ _ _ C0_wc71
              have hn_C1 := hg2 _ _ _ C1_wc71
              have hn_C2 := hg2 _ _ _ C2_wc71
              have hn_R := hg2 _ _ _ (cell18 R_wc71 (j := 0) (by omega))
              have hn_YG := hg2 _ _ _ (cell18 YG_wc71 (j := 0) (by omega))
              unfold zBA at *
              generalize wc71.heap.size = g at *
              generalize World.alloc _ _ = wa77 at *
              clear R_wc71 C0_wc71 C1_wc71 C2_wc71 YG_wc71 B_wc71 hg2
              refine hK.out _ _ ⟨R_wa77, C0_wa77, C1_wa77, C2_wa77⟩ (fun hHeld => ?_)
              clear hK K
              try simp only [Act.put, List.setIfInBounds_toArray, List.set_cons_zero, List.set_cons_succ]
              refine wpAnyH_ready (rs := [9]) (by kernel_rfl) (by simp) ?_
              refine' AllReadyH.cons (o := _) ?e_79 ?st_79 AllReadyH.nil
              case e_79 => (simp only [List.getElem?_toArray, List.getElem?_cons_zero, List.getElem?_cons_succ]; exact rfl)
              intro K hK
              rw [if_pos (by rfl)]
              refine wp_store_mid _ _ _ rfl _ _ (ints Y).toArray rfl rfl (by rw [show (ints Y).toArray.size = 19 by simp [ints, hY]]; exact T_wa77) (by simpa using hi19 hY) (all_oneCell_toArray ints_one) ?_
              simp only [Act.put, List.setIfInBounds_toArray, List.set_cons_zero, List.set_cons_succ, List.toList_toArray]
              have R_ws78 := World.rangeAt_setCells_apart R_wa77 g 0 (ints Y) (.inl (by omega))
              have C0_ws78 := cell_far2 (g2 := g) (o2 := 0) (vs := ints Y) C0_wa77 (by omega)
              have C1_ws78 := cell_far2 (g2 := g) (o2 := 0) (vs := ints Y) C1_wa77 (by omega)
              have C2_ws78 := cell_far2 (g2 := g) (o2 := 0) (vs := ints Y) C2_wa77 (by omega)
              have YG_ws78 := World.rangeAt_setCells_apart YG_wa77 g 0 (ints Y) (.inl (by omega))
              have B_ws78 := below_cells (ints Y) wa77 g 0 B_wa77 (by omega)
              have Y_ws78 := World.rangeAt_setCells_same wa77 g 0 (ints Y) (by rw [show (ints Y).length = 19 by simp [ints, hY]]; exact T_wa77)
              have T_ws78 := World.there_setCells T_wa77 g 0 (ints Y)
              have hgV := World.block_lt_of_cell? _ _ (cell18 Y_ws78 (j := 0) (by omega))
              refine hK.out _ _ ⟨R_ws78, C0_ws78, C1_ws78, C2_ws78⟩ (fun hHeld => ?_)
              clear hK K
              try simp only [Act.put, List.setIfInBounds_toArray, List.set_cons_zero, List.set_cons_succ]
              refine' wpAnyH_take (i := 10) (oi := _) (v := _) ?e_80 ?a_80 ?b_80 ?c_80 ?q_80 ?y_80 hHeld ?r_80
              case e_80 => (simp only [List.getElem?_toArray, List.getElem?_cons_zero, List.getElem?_cons_succ]; exact rfl)
              case a_80 => kernel_rfl
              case b_80 => kernel_rfl
              case c_80 => kernel_rfl
              case q_80 => exact fun _ _ _ h => h
              case y_80 => exact Or.inl ⟨by rfl, by (intro w hSw; (try dsimp only at hSw); go_simp; first | done | with_reducible rfl)⟩
              try simp only [Act.put, List.setIfInBounds_toArray, List.set_cons_zero, List.set_cons_succ]
              refine wpAnyH_done (by kernel_rfl) ?_ _
              go_wp2_with fail
              go_meet
              exact ⟨g, rfl, rfl, Y_ws78, YG_ws78, B_ws78⟩
          case more_70 =>
            refine' AllReadyH.cons (o := _) ?e_81 ?st_81 AllReadyH.nil
            case e_81 => (simp only [List.getElem?_toArray, List.getElem?_cons_zero, List.getElem?_cons_succ]; exact rfl)
            case st_81 =>
              intro K hK
              go_simp
              have R_wa82 := World.rangeAt_alloc R_wc68 (.cells zBA 41)
              have C0_wa82 := cell_later (below_one (w := wc68) (.cells zBA 41)) C0_wc68
              have C1_wa82 := cell_later (below_one (w := wc68) (.cells zBA 41)) C1_wc68
              have C2_wa82 := cell_later (below_one (w := wc68) (.cells zBA 41)) C2_wc68
              have YG_wa82 := World.rangeAt_alloc YG_wc68 (.cells zBA 41)
              have B_wa82 := Below.alc B_wc68 (.cells zBA 41)
              have T_wa82 := there_new wc68 zBA 41 (n := 19) (by decide)
              have hg1 : w.heap.size + 1 ≤ wc68.heap.size := by have := B_wc68.size; have := World.block_lt_of_cell? _ _ (cell18 R_wc68 (j := 0) (by omega)); have := World.block_lt_of_cell? _ _ C0_wc68; simp at *; omega
              have hg2 : ∀ x o u, wc68.cell? ⟨x, o, none⟩ = some u → x < wc68.heap.size := fun x o u h => World.block_lt_of_cell? _ _ h
              have hn_C0 := hg2 _ _ _ C0_wc68
              have hn_C1 := hg2 _ _ _ C1_wc68
              have hn_C2 := hg2 _ _ _ C2_wc68
              have hn_R := hg2 _ _ _ (cell18 R_wc68 (j := 0) (by omega))
              have hn_YG := hg2 _ _ _ (cell18 YG_wc68 (j := 0) (by omega))
              unfold zBA at *
              generalize wc68.heap.size = g at *
              generalize World.alloc _ _ = wa82 at *
              clear R_wc68 C0_wc68 C1_wc68 C2_wc68 YG_wc68 B_wc68 hg2
              refine hK.out _ _ ⟨R_wa82, C0_wa82, C1_wa82, C2_wa82⟩ (fun hHeld => ?_)
              clear hK K
              try simp only [Act.put, List.setIfInBounds_toArray, List.set_cons_zero, List.set_cons_succ]
              refine wpAnyH_ready (rs := [4]) (by kernel_rfl) (by simp) ?_
              refine' AllReadyH.cons (o := _) ?e_83 ?st_83 AllReadyH.nil
              case e_83 => (simp only [List.getElem?_toArray, List.getElem?_cons_zero, List.getElem?_cons_succ]; exact rfl)
              case st_83 =>
                intro K hK
                go_simp
                refine (HI.out _).mono ?_
                rintro e wc84 ⟨rfl, hx85⟩
                have R_wc84 := range_below R_wa82 hx85
                have C0_wc84 := cell_later hx85 C0_wa82
                have C1_wc84 := cell_later hx85 C1_wa82
                have C2_wc84 := cell_later hx85 C2_wa82
                have YG_wc84 := range_below YG_wa82 hx85
                have B_wc84 := Below.chain B_wa82 hx85
                have T_wc84 := there_below T_wa82 hx85
                clear R_wa82 C0_wa82 C1_wa82 C2_wa82 YG_wa82 B_wa82 T_wa82 hx85
                go_wp2_with fail
                refine hK.out _ _ ⟨R_wc84, C0_wc84, C1_wc84, C2_wc84⟩ (fun hHeld => ?_)
                clear hK K
                try simp only [Act.put, List.setIfInBounds_toArray, List.set_cons_zero, List.set_cons_succ]
                refine' wpAnyH_take (i := 5) (oi := _) (v := _) ?e_86 ?a_86 ?b_86 ?c_86 ?q_86 ?y_86 hHeld ?r_86
                case e_86 => (simp only [List.getElem?_toArray, List.getElem?_cons_zero, List.getElem?_cons_succ]; exact rfl)
                case a_86 => kernel_rfl
                case b_86 => kernel_rfl
                case c_86 => kernel_rfl
                case q_86 => exact fun _ _ _ h => h
                case y_86 => exact Or.inl ⟨by rfl, by (intro w hSw; (try dsimp only at hSw); go_simp; first | done | with_reducible rfl)⟩
                try simp only [Act.put, List.setIfInBounds_toArray, List.set_cons_zero, List.set_cons_succ]
                refine' wpAnyH_take (i := 6) (oi := _) (v := _) ?e_87 ?a_87 ?b_87 ?c_87 ?q_87 ?y_87 hHeld ?r_87
                case e_87 => (simp only [List.getElem?_toArray, List.getElem?_cons_zero, List.getElem?_cons_succ]; exact rfl)
                case a_87 => kernel_rfl
                case b_87 => kernel_rfl
                case c_87 => kernel_rfl
                case q_87 => exact fun _ _ _ h => h
                case y_87 => exact Or.inl ⟨by rfl, by (intro w hSw; (try dsimp only at hSw); go_simp; first | done | with_reducible rfl)⟩
                try simp only [Act.put, List.setIfInBounds_toArray, List.set_cons_zero, List.set_cons_succ]
                refine' wpAnyH_take (i := 7) (oi := _) (v := _) ?e_88 ?a_88 ?b_88 ?c_88 ?q_88 ?y_88 hHeld ?r_88
                case e_88 => (simp only [List.getElem?_toArray, List.getElem?_cons_zero, List.getElem?_cons_succ]; exact rfl)
                case a_88 => kernel_rfl
                case b_88 => kernel_rfl
                case c_88 => kernel_rfl
                case q_88 => exact fun _ _ _ h => h
                case y_88 => exact Or.inl ⟨by rfl, by (intro w hSw; (try dsimp only at hSw); go_simp; first | done | with_reducible rfl)⟩
                try simp only [Act.put, List.setIfInBounds_toArray, List.set_cons_zero, List.set_cons_succ]
                refine wpAnyH_ready (rs := [9]) (by kernel_rfl) (by simp) ?_
                refine' AllReadyH.cons (o := _) ?e_90 ?st_90 AllReadyH.nil
                case e_90 => (simp only [List.getElem?_toArray, List.getElem?_cons_zero, List.getElem?_cons_succ]; exact rfl)
                intro K hK
                rw [if_pos (by rfl)]
                refine wp_store_mid _ _ _ rfl _ _ (ints Y).toArray rfl rfl (by rw [show (ints Y).toArray.size = 19 by simp [ints, hY]]; exact T_wc84) (by simpa using hi19 hY) (all_oneCell_toArray ints_one) ?_
                simp only [Act.put, List.setIfInBounds_toArray, List.set_cons_zero, List.set_cons_succ, List.toList_toArray]
                have R_ws89 := World.rangeAt_setCells_apart R_wc84 g 0 (ints Y) (.inl (by omega))
                have C0_ws89 := cell_far2 (g2 := g) (o2 := 0) (vs := ints Y) C0_wc84 (by omega)
                have C1_ws89 := cell_far2 (g2 := g) (o2 := 0) (vs := ints Y) C1_wc84 (by omega)
                have C2_ws89 := cell_far2 (g2 := g) (o2 := 0) (vs := ints Y) C2_wc84 (by omega)
                have YG_ws89 := World.rangeAt_setCells_apart YG_wc84 g 0 (ints Y) (.inl (by omega))
                have B_ws89 := below_cells (ints Y) wc84 g 0 B_wc84 (by omega)
                have Y_ws89 := World.rangeAt_setCells_same wc84 g 0 (ints Y) (by rw [show (ints Y).length = 19 by simp [ints, hY]]; exact T_wc84)
                have T_ws89 := World.there_setCells T_wc84 g 0 (ints Y)
                have hgV := World.block_lt_of_cell? _ _ (cell18 Y_ws89 (j := 0) (by omega))
                refine hK.out _ _ ⟨R_ws89, C0_ws89, C1_ws89, C2_ws89⟩ (fun hHeld => ?_)
                clear hK K
                try simp only [Act.put, List.setIfInBounds_toArray, List.set_cons_zero, List.set_cons_succ]
                refine' wpAnyH_take (i := 10) (oi := _) (v := _) ?e_91 ?a_91 ?b_91 ?c_91 ?q_91 ?y_91 hHeld ?r_91
                case e_91 => (simp only [List.getElem?_toArray, List.getElem?_cons_zero, List.getElem?_cons_succ]; exact rfl)
                case a_91 => kernel_rfl
                case b_91 => kernel_rfl
                case c_91 => kernel_rfl
                case q_91 => exact fun _ _ _ h => h
                case y_91 => exact Or.inl ⟨by rfl, by (intro w hSw; (try dsimp only at hSw); go_simp; first | done | with_reducible rfl)⟩
                try simp only [Act.put, List.setIfInBounds_toArray, List.set_cons_zero, List.set_cons_succ]
                refine wpAnyH_done (by kernel_rfl) ?_ _
                go_wp2_with fail
                go_meet
                exact ⟨g, rfl, rfl, Y_ws89, YG_ws89, B_ws89⟩
        case more_67 =>
          refine' AllReadyH.cons (o := _) ?e_92 ?st_92 AllReadyH.nil
          case e_92 => (simp only [List.getElem?_toArray, List.getElem?_cons_zero, List.getElem?_cons_succ]; exact rfl)
          case st_92 =>
            intro K hK
            go_simp
            have R_wa93 := World.rangeAt_alloc R_wc65 (.cells zBA 41)
            have C0_wa93 := cell_later (below_one (w := wc65) (.cells zBA 41)) C0_wc65
            have C1_wa93 := cell_later (below_one (w := wc65) (.cells zBA 41)) C1_wc65
            have C2_wa93 := cell_later (below_one (w := wc65) (.cells zBA 41)) C2_wc65
            have YG_wa93 := World.rangeAt_alloc YG_wc65 (.cells zBA 41)
            have B_wa93 := Below.alc B_wc65 (.cells zBA 41)
            have T_wa93 := there_new wc65 zBA 41 (n := 19) (by decide)
            have hg1 : w.heap.size + 1 ≤ wc65.heap.size := by have := B_wc65.size; have := World.block_lt_of_cell? _ _ (cell18 R_wc65 (j := 0) (by omega)); have := World.block_lt_of_cell? _ _ C0_wc65; simp at *; omega
            have hg2 : ∀ x o u, wc65.cell? ⟨x, o, none⟩ = some u → x < wc65.heap.size := fun x o u h => World.block_lt_of_cell? _ _ h
            have hn_C0 := hg2 _ _ _ C0_wc65
            have hn_C1 := hg2 _ _ _ C1_wc65
            have hn_C2 := hg2 _ _ _ C2_wc65
            have hn_R := hg2 _ _ _ (cell18 R_wc65 (j := 0) (by omega))
            have hn_YG := hg2 _ _ _ (cell18 YG_wc65 (j := 0) (by omega))
            unfold zBA at *
            generalize wc65.heap.size = g at *
            generalize World.alloc _ _ = wa93 at *
            clear R_wc65 C0_wc65 C1_wc65 C2_wc65 YG_wc65 B_wc65 hg2
            refine hK.out _ _ ⟨R_wa93, C0_wa93, C1_wa93, C2_wa93⟩ (fun hHeld => ?_)
            clear hK K
            try simp only [Act.put, List.setIfInBounds_toArray, List.set_cons_zero, List.set_cons_succ]
            refine wpAnyH_ready (rs := [3]) (by kernel_rfl) (by simp) ?_
            refine' AllReadyH.cons (o := _) ?e_94 ?st_94 AllReadyH.nil
            case e_94 => (simp only [List.getElem?_toArray, List.getElem?_cons_zero, List.getElem?_cons_succ]; exact rfl)
            case st_94 =>
              intro K hK
              go_simp
              refine (HJ.out _).mono ?_
              rintro e wc95 ⟨rfl, hx96⟩
              have R_wc95 := range_below R_wa93 hx96
              have C0_wc95 := cell_later hx96 C0_wa93
              have C1_wc95 := cell_later hx96 C1_wa93
              have C2_wc95 := cell_later hx96 C2_wa93
              have YG_wc95 := range_below YG_wa93 hx96
              have B_wc95 := Below.chain B_wa93 hx96
              have T_wc95 := there_below T_wa93 hx96
              clear R_wa93 C0_wa93 C1_wa93 C2_wa93 YG_wa93 B_wa93 T_wa93 hx96
              go_wp2_with fail
              refine hK.out _ _ ⟨R_wc95, C0_wc95, C1_wc95, C2_wc95⟩ (fun hHeld => ?_)
              clear hK K
              try simp only [Act.put, List.setIfInBounds_toArray, List.set_cons_zero, List.set_cons_succ]
              refine wpAnyH_ready (rs := [4]) (by kernel_rfl) (by simp) ?_
              refine' AllReadyH.cons (o := _) ?e_97 ?st_97 AllReadyH.nil
              case e_97 => (simp only [List.getElem?_toArray, List.getElem?_cons_zero, List.getElem?_cons_succ]; exact rfl)
              case st_97 =>
                intro K hK
                go_simp
                refine (HI.out _).mono ?_
                rintro e wc98 ⟨rfl, hx99⟩
                have R_wc98 := range_below R_wc95 hx99
                have C0_wc98 := cell_later hx99 C0_wc95
                have C1_wc98 := cell_later hx99 C1_wc95
                have C2_wc98 := cell_later hx99 C2_wc95
                have YG_wc98 := range_below YG_wc95 hx99
                have B_wc98 := Below.chain B_wc95 hx99
                have T_wc98 := there_below T_wc95 hx99
                clear R_wc95 C0_wc95 C1_wc95 C2_wc95 YG_wc95 B_wc95 T_wc95 hx99
                go_wp2_with fail
                refine hK.out _ _ ⟨R_wc98, C0_wc98, C1_wc98, C2_wc98⟩ (fun hHeld => ?_)
                clear hK K
                try simp only [Act.put, List.setIfInBounds_toArray, List.set_cons_zero, List.set_cons_succ]
                refine' wpAnyH_take (i := 5) (oi := _) (v := _) ?e_100 ?a_100 ?b_100 ?c_100 ?q_100 ?y_100 hHeld ?r_100
                case e_100 => (simp only [List.getElem?_toArray, List.getElem?_cons_zero, List.getElem?_cons_succ]; exact rfl)
                case a_100 => kernel_rfl
                case b_100 => kernel_rfl
                case c_100 => kernel_rfl
                case q_100 => exact fun _ _ _ h => h
                case y_100 => exact Or.inl ⟨by rfl, by (intro w hSw; (try dsimp only at hSw); go_simp; first | done | with_reducible rfl)⟩
                try simp only [Act.put, List.setIfInBounds_toArray, List.set_cons_zero, List.set_cons_succ]
                refine' wpAnyH_take (i := 6) (oi := _) (v := _) ?e_101 ?a_101 ?b_101 ?c_101 ?q_101 ?y_101 hHeld ?r_101
                case e_101 => (simp only [List.getElem?_toArray, List.getElem?_cons_zero, List.getElem?_cons_succ]; exact rfl)
                case a_101 => kernel_rfl
                case b_101 => kernel_rfl
                case c_101 => kernel_rfl
                case q_101 => exact fun _ _ _ h => h
                case y_101 => exact Or.inl ⟨by rfl, by (intro w hSw; (try dsimp only at hSw); go_simp; first | done | with_reducible rfl)⟩
                try simp only [Act.put, List.setIfInBounds_toArray, List.set_cons_zero, List.set_cons_succ]
                refine' wpAnyH_take (i := 7) (oi := _) (v := _) ?e_102 ?a_102 ?b_102 ?c_102 ?q_102 ?y_102 hHeld ?r_102
                case e_102 => (simp only [List.getElem?_toArray, List.getElem?_cons_zero, List.getElem?_cons_succ]; exact rfl)
                case a_102 => kernel_rfl
                case b_102 => kernel_rfl
                case c_102 => kernel_rfl
                case q_102 => exact fun _ _ _ h => h
                case y_102 => exact Or.inl ⟨by rfl, by (intro w hSw; (try dsimp only at hSw); go_simp; first | done | with_reducible rfl)⟩
                try simp only [Act.put, List.setIfInBounds_toArray, List.set_cons_zero, List.set_cons_succ]
                refine wpAnyH_ready (rs := [9]) (by kernel_rfl) (by simp) ?_
                refine' AllReadyH.cons (o := _) ?e_104 ?st_104 AllReadyH.nil
                case e_104 => (simp only [List.getElem?_toArray, List.getElem?_cons_zero, List.getElem?_cons_succ]; exact rfl)
                intro K hK
                rw [if_pos (by rfl)]
                refine wp_store_mid _ _ _ rfl _ _ (ints Y).toArray rfl rfl (by rw [show (ints Y).toArray.size = 19 by simp [ints, hY]]; exact T_wc98) (by simpa using hi19 hY) (all_oneCell_toArray ints_one) ?_
                simp only [Act.put, List.setIfInBounds_toArray, List.set_cons_zero, List.set_cons_succ, List.toList_toArray]
                have R_ws103 := World.rangeAt_setCells_apart R_wc98 g 0 (ints Y) (.inl (by omega))
                have C0_ws103 := cell_far2 (g2 := g) (o2 := 0) (vs := ints Y) C0_wc98 (by omega)
                have C1_ws103 := cell_far2 (g2 := g) (o2 := 0) (vs := ints Y) C1_wc98 (by omega)
                have C2_ws103 := cell_far2 (g2 := g) (o2 := 0) (vs := ints Y) C2_wc98 (by omega)
                have YG_ws103 := World.rangeAt_setCells_apart YG_wc98 g 0 (ints Y) (.inl (by omega))
                have B_ws103 := below_cells (ints Y) wc98 g 0 B_wc98 (by omega)
                have Y_ws103 := World.rangeAt_setCells_same wc98 g 0 (ints Y) (by rw [show (ints Y).length = 19 by simp [ints, hY]]; exact T_wc98)
                have T_ws103 := World.there_setCells T_wc98 g 0 (ints Y)
                have hgV := World.block_lt_of_cell? _ _ (cell18 Y_ws103 (j := 0) (by omega))
                refine hK.out _ _ ⟨R_ws103, C0_ws103, C1_ws103, C2_ws103⟩ (fun hHeld => ?_)
                clear hK K
                try simp only [Act.put, List.setIfInBounds_toArray, List.set_cons_zero, List.set_cons_succ]
                refine' wpAnyH_take (i := 10) (oi := _) (v := _) ?e_105 ?a_105 ?b_105 ?c_105 ?q_105 ?y_105 hHeld ?r_105
                case e_105 => (simp only [List.getElem?_toArray, List.getElem?_cons_zero, List.getElem?_cons_succ]; exact rfl)
                case a_105 => kernel_rfl
                case b_105 => kernel_rfl
                case c_105 => kernel_rfl
                case q_105 => exact fun _ _ _ h => h
                case y_105 => exact Or.inl ⟨by rfl, by (intro w hSw; (try dsimp only at hSw); go_simp; first | done | with_reducible rfl)⟩
                try simp only [Act.put, List.setIfInBounds_toArray, List.set_cons_zero, List.set_cons_succ]
                refine wpAnyH_done (by kernel_rfl) ?_ _
                go_wp2_with fail
                go_meet
                exact ⟨g, rfl, rfl, Y_ws103, YG_ws103, B_ws103⟩
      case more_64 =>
        refine' AllReadyH.cons (o := _) ?e_106 ?st_106 AllReadyH.nil
        case e_106 => (simp only [List.getElem?_toArray, List.getElem?_cons_zero, List.getElem?_cons_succ]; exact rfl)
        case st_106 =>
          intro K hK
          go_simp
          have R_wa107 := World.rangeAt_alloc R_wd (.cells zBA 41)
          have C0_wa107 := cell_later (below_one (w := wd) (.cells zBA 41)) C0_wd
          have C1_wa107 := cell_later (below_one (w := wd) (.cells zBA 41)) C1_wd
          have C2_wa107 := cell_later (below_one (w := wd) (.cells zBA 41)) C2_wd
          have YG_wa107 := World.rangeAt_alloc YG_wd (.cells zBA 41)
          have B_wa107 := Below.alc B_wd (.cells zBA 41)
          have T_wa107 := there_new wd zBA 41 (n := 19) (by decide)
          have hg1 : w.heap.size + 1 ≤ wd.heap.size := by have := B_wd.size; have := World.block_lt_of_cell? _ _ (cell18 R_wd (j := 0) (by omega)); have := World.block_lt_of_cell? _ _ C0_wd; simp at *; omega
          have hg2 : ∀ x o u, wd.cell? ⟨x, o, none⟩ = some u → x < wd.heap.size := fun x o u h => World.block_lt_of_cell? _ _ h
          have hn_C0 := hg2 _ _ _ C0_wd
          have hn_C1 := hg2 _ _ _ C1_wd
          have hn_C2 := hg2 _ _ _ C2_wd
          have hn_R := hg2 _ _ _ (cell18 R_wd (j := 0) (by omega))
          have hn_YG := hg2 _ _ _ (cell18 YG_wd (j := 0) (by omega))
          unfold zBA at *
          generalize wd.heap.size = g at *
          generalize World.alloc _ _ = wa107 at *
          clear R_wd C0_wd C1_wd C2_wd YG_wd B_wd hg2
          refine hK.out _ _ ⟨R_wa107, C0_wa107, C1_wa107, C2_wa107⟩ (fun hHeld => ?_)
          clear hK K
          try simp only [Act.put, List.setIfInBounds_toArray, List.set_cons_zero, List.set_cons_succ]
          refine wpAnyH_ready (rs := [1]) (by kernel_rfl) (by simp) ?_
          refine' AllReadyH.cons (o := _) ?e_108 ?st_108 AllReadyH.nil
          case e_108 => (simp only [List.getElem?_toArray, List.getElem?_cons_zero, List.getElem?_cons_succ]; exact rfl)
          case st_108 =>
            intro K hK
            go_simp
            refine (HT.out _).mono ?_
            rintro e wc109 ⟨rfl, hx110⟩
            have R_wc109 := range_below R_wa107 hx110
            have C0_wc109 := cell_later hx110 C0_wa107
            have C1_wc109 := cell_later hx110 C1_wa107
            have C2_wc109 := cell_later hx110 C2_wa107
            have YG_wc109 := range_below YG_wa107 hx110
            have B_wc109 := Below.chain B_wa107 hx110
            have T_wc109 := there_below T_wa107 hx110
            clear R_wa107 C0_wa107 C1_wa107 C2_wa107 YG_wa107 B_wa107 T_wa107 hx110
            go_wp2_with fail
            refine hK.out _ _ ⟨R_wc109, C0_wc109, C1_wc109, C2_wc109⟩ (fun hHeld => ?_)
            clear hK K
            try simp only [Act.put, List.setIfInBounds_toArray, List.set_cons_zero, List.set_cons_succ]
            refine wpAnyH_ready (rs := [3]) (by kernel_rfl) (by simp) ?_
            refine' AllReadyH.cons (o := _) ?e_111 ?st_111 AllReadyH.nil
            case e_111 => (simp only [List.getElem?_toArray, List.getElem?_cons_zero, List.getElem?_cons_succ]; exact rfl)
            case st_111 =>
              intro K hK
              go_simp
              refine (HJ.out _).mono ?_
              rintro e wc112 ⟨rfl, hx113⟩
              have R_wc112 := range_below R_wc109 hx113
              have C0_wc112 := cell_later hx113 C0_wc109
              have C1_wc112 := cell_later hx113 C1_wc109
              have C2_wc112 := cell_later hx113 C2_wc109
              have YG_wc112 := range_below YG_wc109 hx113
              have B_wc112 := Below.chain B_wc109 hx113
              have T_wc112 := there_below T_wc109 hx113
              clear R_wc109 C0_wc109 C1_wc109 C2_wc109 YG_wc109 B_wc109 T_wc109 hx113
              go_wp2_with fail
              refine hK.out _ _ ⟨R_wc112, C0_wc112, C1_wc112, C2_wc112⟩ (fun hHeld => ?_)
              clear hK K
              try simp only [Act.put, List.setIfInBounds_toArray, List.set_cons_zero, List.set_cons_succ]
              refine wpAnyH_ready (rs := [4]) (by kernel_rfl) (by simp) ?_
              refine' AllReadyH.cons (o := _) ?e_114 ?st_114 AllReadyH.nil
              case e_114 => (simp only [List.getElem?_toArray, List.getElem?_cons_zero, List.getElem?_cons_succ]; exact rfl)
              case st_114 =>
                intro K hK
                go_simp
                refine (HI.out _).mono ?_
                rintro e wc115 ⟨rfl, hx116⟩
                have R_wc115 := range_below R_wc112 hx116
                have C0_wc115 := cell_later hx116 C0_wc112
                have C1_wc115 := cell_later hx116 C1_wc112
                have C2_wc115 := cell_later hx116 C2_wc112
                have YG_wc115 := range_below YG_wc112 hx116
                have B_wc115 := Below.chain B_wc112 hx116
                have T_wc115 := there_below T_wc112 hx116
                clear R_wc112 C0_wc112 C1_wc112 C2_wc112 YG_wc112 B_wc112 T_wc112 hx116
                go_wp2_with fail
                refine hK.out _ _ ⟨R_wc115, C0_wc115, C1_wc115, C2_wc115⟩ (fun hHeld => ?_)
                clear hK K
                try simp only [Act.put, List.setIfInBounds_toArray, List.set_cons_zero, List.set_cons_succ]
                refine' wpAnyH_take (i := 5) (oi := _) (v := _) ?e_117 ?a_117 ?b_117 ?c_117 ?q_117 ?y_117 hHeld ?r_117
                case e_117 => (simp only [List.getElem?_toArray, List.getElem?_cons_zero, List.getElem?_cons_succ]; exact rfl)
                case a_117 => kernel_rfl
                case b_117 => kernel_rfl
                case c_117 => kernel_rfl
                case q_117 => exact fun _ _ _ h => h
                case y_117 => exact Or.inl ⟨by rfl, by (intro w hSw; (try dsimp only at hSw); go_simp; first | done | with_reducible rfl)⟩
                try simp only [Act.put, List.setIfInBounds_toArray, List.set_cons_zero, List.set_cons_succ]
                refine' wpAnyH_take (i := 6) (oi := _) (v := _) ?e_118 ?a_118 ?b_118 ?c_118 ?q_118 ?y_118 hHeld ?r_118
                case e_118 => (simp only [List.getElem?_toArray, List.getElem?_cons_zero, List.getElem?_cons_succ]; exact rfl)
                case a_118 => kernel_rfl
                case b_118 => kernel_rfl
                case c_118 => kernel_rfl
                case q_118 => exact fun _ _ _ h => h
                case y_118 => exact Or.inl ⟨by rfl, by (intro w hSw; (try dsimp only at hSw); go_simp; first | done | with_reducible rfl)⟩
                try simp only [Act.put, List.setIfInBounds_toArray, List.set_cons_zero, List.set_cons_succ]
                refine' wpAnyH_take (i := 7) (oi := _) (v := _) ?e_119 ?a_119 ?b_119 ?c_119 ?q_119 ?y_119 hHeld ?r_119
                case e_119 => (simp only [List.getElem?_toArray, List.getElem?_cons_zero, List.getElem?_cons_succ]; exact rfl)
                case a_119 => kernel_rfl
                case b_119 => kernel_rfl
                case c_119 => kernel_rfl
                case q_119 => exact fun _ _ _ h => h
                case y_119 => exact Or.inl ⟨by rfl, by (intro w hSw; (try dsimp only at hSw); go_simp; first | done | with_reducible rfl)⟩
                try simp only [Act.put, List.setIfInBounds_toArray, List.set_cons_zero, List.set_cons_succ]
                refine wpAnyH_ready (rs := [9]) (by kernel_rfl) (by simp) ?_
                refine' AllReadyH.cons (o := _) ?e_121 ?st_121 AllReadyH.nil
                case e_121 => (simp only [List.getElem?_toArray, List.getElem?_cons_zero, List.getElem?_cons_succ]; exact rfl)
                intro K hK
                rw [if_pos (by rfl)]
                refine wp_store_mid _ _ _ rfl _ _ (ints Y).toArray rfl rfl (by rw [show (ints Y).toArray.size = 19 by simp [ints, hY]]; exact T_wc115) (by simpa using hi19 hY) (all_oneCell_toArray ints_one) ?_
                simp only [Act.put, List.setIfInBounds_toArray, List.set_cons_zero, List.set_cons_succ, List.toList_toArray]
                have R_ws120 := World.rangeAt_setCells_apart R_wc115 g 0 (ints Y) (.inl (by omega))
                have C0_ws120 := cell_far2 (g2 := g) (o2 := 0) (vs := ints Y) C0_wc115 (by omega)
                have C1_ws120 := cell_far2 (g2 := g) (o2 := 0) (vs := ints Y) C1_wc115 (by omega)
                have C2_ws120 := cell_far2 (g2 := g) (o2 := 0) (vs := ints Y) C2_wc115 (by omega)
                have YG_ws120 := World.rangeAt_setCells_apart YG_wc115 g 0 (ints Y) (.inl (by omega))
                have B_ws120 := below_cells (ints Y) wc115 g 0 B_wc115 (by omega)
                have Y_ws120 := World.rangeAt_setCells_same wc115 g 0 (ints Y) (by rw [show (ints Y).length = 19 by simp [ints, hY]]; exact T_wc115)
                have T_ws120 := World.there_setCells T_wc115 g 0 (ints Y)
                have hgV := World.block_lt_of_cell? _ _ (cell18 Y_ws120 (j := 0) (by omega))
                refine hK.out _ _ ⟨R_ws120, C0_ws120, C1_ws120, C2_ws120⟩ (fun hHeld => ?_)
                clear hK K
                try simp only [Act.put, List.setIfInBounds_toArray, List.set_cons_zero, List.set_cons_succ]
                refine' wpAnyH_take (i := 10) (oi := _) (v := _) ?e_122 ?a_122 ?b_122 ?c_122 ?q_122 ?y_122 hHeld ?r_122
                case e_122 => (simp only [List.getElem?_toArray, List.getElem?_cons_zero, List.getElem?_cons_succ]; exact rfl)
                case a_122 => kernel_rfl
                case b_122 => kernel_rfl
                case c_122 => kernel_rfl
                case q_122 => exact fun _ _ _ h => h
                case y_122 => exact Or.inl ⟨by rfl, by (intro w hSw; (try dsimp only at hSw); go_simp; first | done | with_reducible rfl)⟩
                try simp only [Act.put, List.setIfInBounds_toArray, List.set_cons_zero, List.set_cons_succ]
                refine wpAnyH_done (by kernel_rfl) ?_ _
                go_wp2_with fail
                go_meet
                exact ⟨g, rfl, rfl, Y_ws120, YG_ws120, B_ws120⟩
    case rest =>
      obtain ⟨g1, rfl, rfl, Y1, Y0, hbw⟩ := hcut
      have hqq : (ok != ok) = false := by simp
      go_wp2_with (first | (refine wpList_loadB rfl _ rfl _ rfl _ Y1 hY ?_) | (refine wpList_loadB rfl _ rfl _ rfl _ Y0 hY ?_))
      refine (eqBench_c Y _ hY).mono ?_
      rintro e w6 ⟨rfl, hb10⟩
      have hb11 := Below.chain hbw hb10
      go_wp2
      go_ret
      exact ⟨rfl, hb11⟩
end Go.Proofs.Ytfflbbgipbnckaa
