/- Walks on logs: the checker's AppendRecord. -/
import Derived.Test.YtfflbbgipbnckaaDoorLogA
import Derived.Deep.RegionHeld3
namespace Go.Proofs.YtfflbbgipbnckaaDoor
open Go.RowKit
set_option linter.unusedVariables false
set_option linter.unusedSimpArgs false
set_option maxRecDepth 100000
set_option maxHeartbeats 4000000 in
theorem AppendRecordS_c (d p : ByteArray) (n : Int) (c r : ByteArray) (w : World) (hd : d.size ≤ 1048576) (hp : p.size ≤ 1048576) (hc : c.size ≤ 1048576) (hr : r.size ≤ 1048576) : Calls Tryd.prog 26 #[logV d p n, recV c r] w (AppOut d p n c r w) := by
  have HV := Lib.hid (fun w => l12Valid_c d p n w hd hp)
  have HRV := Lib.hid (l12Record_c c r)
  have hbA := below_one (w := w) (.cells #[.string d, .string p, .int .i64 n] 31)
  have hbB := Below.alc hbA (.cells #[.string c, .string r] 27)
  have hb0 := Lib.hid (Below.alc hbB (.cells #[.string ⟨#[]⟩, .string ⟨#[]⟩, .int .i64 0] 31))
  have A0 := Lib.hid (((Bk.new w 31 #[.string d, .string p, .int .i64 n]).alloc (.cells #[.string c, .string r] 27)).alloc (.cells #[.string ⟨#[]⟩, .string ⟨#[]⟩, .int .i64 0] 31))
  have R0 := Bk.alloc (Bk.new (w.alloc (.cells #[.string d, .string p, .int .i64 n] 31)) 27 #[.string c, .string r]) (.cells #[.string ⟨#[]⟩, .string ⟨#[]⟩, .int .i64 0] 31)
  have Z0 := Bk.new ((w.alloc (.cells #[.string d, .string p, .int .i64 n] 31)).alloc (.cells #[.string c, .string r] 27)) 31 #[.string ⟨#[]⟩, .string ⟨#[]⟩, .int .i64 0]
  simp only [World.size_alloc] at R0 Z0
  have HR0 := Lib.hid R0
  have HZ0 := Lib.hid Z0
  clear hbA hbB R0 Z0
  unfold logV recV at *
  go_enter Tryd.func26, Tryd.ntmps26
  go_wp2_with fail
  refine (HV.out _).mono ?_
  rintro e w2 ⟨ok, rfl, hiff, hb2⟩
  have A2 := Lib.hid (A0.out.below hb2)
  have R2 := Lib.hid (HR0.out.below hb2)
  have Z2 := Lib.hid (HZ0.out.below hb2)
  have HBX := Lib.hid (Below.chain hb0.out hb2)
  have HI := Lib.hid hiff
  clear hb2 A0 HR0 HZ0 hb0 hiff HV
  have a0 : w2.cell? ⟨w.heap.size, 0, none⟩ = some (.string d) := A2.out.cell 0
  have a1 : w2.cell? ⟨w.heap.size, 1, none⟩ = some (.string p) := A2.out.cell 1
  have a2 : w2.cell? ⟨w.heap.size, 2, none⟩ = some (.int .i64 n) := A2.out.cell 2
  have r0 : w2.cell? ⟨w.heap.size + 1, 0, none⟩ = some (.string c) := R2.out.cell 0
  have r1 : w2.cell? ⟨w.heap.size + 1, 1, none⟩ = some (.string r) := R2.out.cell 1
  have z0 : w2.cell? ⟨w.heap.size + 1 + 1, 0, none⟩ = some (.string ⟨#[]⟩) := Z2.out.cell 0
  have z1 : w2.cell? ⟨w.heap.size + 1 + 1, 1, none⟩ = some (.string ⟨#[]⟩) := Z2.out.cell 1
  have z2 : w2.cell? ⟨w.heap.size + 1 + 1, 2, none⟩ = some (.int .i64 0) := Z2.out.cell 2
  have f0 : w2.frozen? ⟨w.heap.size + 1 + 1, 0, none⟩ = false := Z2.out.frozen 0
  have f1 : w2.frozen? ⟨w.heap.size + 1 + 1, 1, none⟩ = false := Z2.out.frozen 1
  have f2 : w2.frozen? ⟨w.heap.size + 1 + 1, 2, none⟩ = false := Z2.out.frozen 2
  have FIN : Hid (∀ X w', appV ok (recB c r) d p n c r = X → Below w.heap.size w w' → AppOut d p n c r w (.returned (.tuple #[X.1, .int .i64 X.2])) w') := fun X w' hX hb => by
    subst hX; exact ⟨ok, rfl, HI.out, hb⟩
  cases ok with
  | false =>
    have F := Lib.hid (fun w' => FIN.out _ w' (appV_no rfl))
    unfold logV at F
    clear FIN
    go_wp2
    exact bodyPost_ret (v := .tuple #[.agg #[.string d, .string p, .int .i64 n], .int .i64 1]) (by simp [results, Tryd.results26, go_sem, z0, z1, z2]) rfl (F.out _ (by have hb := HBX.out; exact ((hb.setCell (p := ⟨w.heap.size + 1 + 1, 0, none⟩) (by show w.heap.size ≤ w.heap.size + 1 + 1; omega) _).setCell (p := ⟨w.heap.size + 1 + 1, 1, none⟩) (by show w.heap.size ≤ w.heap.size + 1 + 1; omega) _).setCell (p := ⟨w.heap.size + 1 + 1, 2, none⟩) (by show w.heap.size ≤ w.heap.size + 1 + 1; omega) _))
  | true =>
    go_wp2_with fail
    refine (HRV.out _ (by omega) (by omega)).mono ?_
    rintro e w3 ⟨rfl, hb2⟩
    have A3 := Lib.hid (A2.out.below hb2)
    have R3 := Lib.hid (R2.out.below hb2)
    have Z3 := Lib.hid (Z2.out.below hb2)
    have HBX3 := Lib.hid (Below.chain HBX.out hb2)
    clear hb2 A2 R2 Z2 a0 a1 a2 r0 r1 z0 z1 z2 f0 f1 f2 HBX
    have a0 : w3.cell? ⟨w.heap.size, 0, none⟩ = some (.string d) := A3.out.cell 0
    have a1 : w3.cell? ⟨w.heap.size, 1, none⟩ = some (.string p) := A3.out.cell 1
    have a2 : w3.cell? ⟨w.heap.size, 2, none⟩ = some (.int .i64 n) := A3.out.cell 2
    have r0 : w3.cell? ⟨w.heap.size + 1, 0, none⟩ = some (.string c) := R3.out.cell 0
    have r1 : w3.cell? ⟨w.heap.size + 1, 1, none⟩ = some (.string r) := R3.out.cell 1
    have z0 : w3.cell? ⟨w.heap.size + 1 + 1, 0, none⟩ = some (.string ⟨#[]⟩) := Z3.out.cell 0
    have z1 : w3.cell? ⟨w.heap.size + 1 + 1, 1, none⟩ = some (.string ⟨#[]⟩) := Z3.out.cell 1
    have z2 : w3.cell? ⟨w.heap.size + 1 + 1, 2, none⟩ = some (.int .i64 0) := Z3.out.cell 2
    have f0 : w3.frozen? ⟨w.heap.size + 1 + 1, 0, none⟩ = false := Z3.out.frozen 0
    have f1 : w3.frozen? ⟨w.heap.size + 1 + 1, 1, none⟩ = false := Z3.out.frozen 1
    have f2 : w3.frozen? ⟨w.heap.size + 1 + 1, 2, none⟩ = false := Z3.out.frozen 2
    have HBX := HBX3
    clear HBX3
    rcases hrc : recB c r with _ | _
    · rw [hrc] at FIN
      have F := Lib.hid (fun w' => FIN.out _ w' (appV_no rfl))
      unfold logV at F
      clear FIN hrc
      go_wp2
      exact bodyPost_ret (v := .tuple #[.agg #[.string d, .string p, .int .i64 n], .int .i64 1]) (by simp [results, Tryd.results26, go_sem, z0, z1, z2]) rfl (F.out _ (by have hb := HBX.out; exact ((hb.setCell (p := ⟨w.heap.size + 1 + 1, 0, none⟩) (by show w.heap.size ≤ w.heap.size + 1 + 1; omega) _).setCell (p := ⟨w.heap.size + 1 + 1, 1, none⟩) (by show w.heap.size ≤ w.heap.size + 1 + 1; omega) _).setCell (p := ⟨w.heap.size + 1 + 1, 2, none⟩) (by show w.heap.size ≤ w.heap.size + 1 + 1; omega) _))
    · have HRC := Lib.hid hrc
      rw [hrc] at FIN
      clear hrc
      by_cases h60 : n = 60
      · have t60 : (n == 60) = true := by rw [h60]; rfl
        have F := Lib.hid (fun w' => FIN.out _ w' (appV_full h60))
        unfold logV at F
        clear FIN h60
        go_wp2
        exact bodyPost_ret (v := .tuple #[.agg #[.string d, .string p, .int .i64 n], .int .i64 2]) (by simp [results, Tryd.results26, go_sem, z0, z1, z2]) rfl (F.out _ (by have hb := HBX.out; exact ((hb.setCell (p := ⟨w.heap.size + 1 + 1, 0, none⟩) (by show w.heap.size ≤ w.heap.size + 1 + 1; omega) _).setCell (p := ⟨w.heap.size + 1 + 1, 1, none⟩) (by show w.heap.size ≤ w.heap.size + 1 + 1; omega) _).setCell (p := ⟨w.heap.size + 1 + 1, 2, none⟩) (by show w.heap.size ≤ w.heap.size + 1 + 1; omega) _))
      · have t60 : (n == 60) = false := by simp; exact h60
        have F := Lib.hid (fun w' => FIN.out _ w' (appV_yes h60))
        unfold logV at F
        obtain ⟨es, hes⟩ := HI.out.1 trivial
        obtain ⟨hn0, hn1, hin, hsz⟩ := app_line hes h60 HRC.out
        have HLN : Hid (∀ w, Calls Tryd.prog 39 #[.int .i64 n, .agg #[.string c, .string r]] w fun e w' => e = .returned (.string (bs (lineS n c.data.toList r.data.toList))) ∧ Below w.heap.size w w') := fun w => by
          have h := l12Line_c n.toNat (by omega) c r w hc hr
          rw [show ((n.toNat : Nat) : Int) = n by omega] at h
          exact h
        clear FIN h60 hes hin
        generalize bs (lineS n c.data.toList r.data.toList) = X at *
        have hXs : ¬ (9223372036854775807 < p.size + X.size) := by omega
        have hw1 : IntKind.i64.wrap (n + 1) = n + 1 := IntWalk.i64_in _ (by omega)
        go_wp2_with fail
        -- REGION
        refine wp_region_held_drew (S := fun w' : World => w'.cell? ⟨w.heap.size, 2, none⟩ = some (.int .i64 n) ∧ w'.cell? ⟨w.heap.size + 1, 0, none⟩ = some (.string c) ∧ w'.cell? ⟨w.heap.size + 1, 1, none⟩ = some (.string r)) (by kernel_rfl) ⟨a2, r0, r1⟩ (fun hHeld => ?_)
        refine' wpAnyH_take (i := 0) (oi := _) (v := _) ?e_1 ?a_1 ?b_1 ?c_1 ?q_1 ?y_1 hHeld ?r_1
        case e_1 => (simp only [List.getElem?_toArray, List.getElem?_cons_zero, List.getElem?_cons_succ]; exact rfl)
        case a_1 => kernel_rfl
        case b_1 => kernel_rfl
        case c_1 => kernel_rfl
        case q_1 => exact fun _ _ _ h => h
        case y_1 => exact Or.inl ⟨by rfl, by (intro w hSw; (try dsimp only at hSw); go_simp; first | done | with_reducible rfl)⟩
        try simp only [Act.put, List.setIfInBounds_toArray, List.set_cons_zero, List.set_cons_succ]
        refine' wpAnyH_take (i := 2) (oi := _) (v := _) ?e_2 ?a_2 ?b_2 ?c_2 ?q_2 ?y_2 hHeld ?r_2
        case e_2 => (simp only [List.getElem?_toArray, List.getElem?_cons_zero, List.getElem?_cons_succ]; exact rfl)
        case a_2 => kernel_rfl
        case b_2 => kernel_rfl
        case c_2 => kernel_rfl
        case q_2 => exact fun _ _ _ h => h
        case y_2 => exact Or.inl ⟨by rfl, by (intro w hSw; (try dsimp only at hSw); go_simp; first | done | with_reducible rfl)⟩
        try simp only [Act.put, List.setIfInBounds_toArray, List.set_cons_zero, List.set_cons_succ]
        refine' wpAnyH_take (i := 3) (oi := _) (v := _) ?e_3 ?a_3 ?b_3 ?c_3 ?q_3 ?y_3 hHeld ?r_3
        case e_3 => (simp only [List.getElem?_toArray, List.getElem?_cons_zero, List.getElem?_cons_succ]; exact rfl)
        case a_3 => kernel_rfl
        case b_3 => kernel_rfl
        case c_3 => kernel_rfl
        case q_3 => exact fun _ _ _ h => h
        case y_3 => exact Or.inl ⟨by rfl, by (intro w hSw; (obtain ⟨hs1, hs2, hs3⟩ := hSw); go_simp; first | done | with_reducible rfl)⟩
        try simp only [Act.put, List.setIfInBounds_toArray, List.set_cons_zero, List.set_cons_succ]
        refine' wpAnyH_take (i := 4) (oi := _) (v := _) ?e_4 ?a_4 ?b_4 ?c_4 ?q_4 ?y_4 hHeld ?r_4
        case e_4 => (simp only [List.getElem?_toArray, List.getElem?_cons_zero, List.getElem?_cons_succ]; exact rfl)
        case a_4 => kernel_rfl
        case b_4 => kernel_rfl
        case c_4 => kernel_rfl
        case q_4 => exact fun _ _ _ h => h
        case y_4 => exact Or.inl ⟨by rfl, by (intro w hSw; (obtain ⟨hs1, hs2, hs3⟩ := hSw); go_simp; first | done | with_reducible rfl)⟩
        try simp only [Act.put, List.setIfInBounds_toArray, List.set_cons_zero, List.set_cons_succ]
        refine wpAnyH_ready (rs := [1, 5]) (by kernel_rfl) (by simp) ?_
        refine' AllReadyH.cons (o := _) ?e_5 ?st_5 ?more_5
        case e_5 => (simp only [List.getElem?_toArray, List.getElem?_cons_zero, List.getElem?_cons_succ]; exact rfl)
        case st_5 =>
          intro K hK
          go_simp
          refine hK.out _ _ ⟨a2, r0, r1⟩ (fun hHeld => ?_)
          clear hK K
          try simp only [Act.put, List.setIfInBounds_toArray, List.set_cons_zero, List.set_cons_succ]
          refine wpAnyH_ready (rs := [5]) (by kernel_rfl) (by simp) ?_
          refine' AllReadyH.cons (o := _) ?e_6 ?st_6 AllReadyH.nil
          case e_6 => (simp only [List.getElem?_toArray, List.getElem?_cons_zero, List.getElem?_cons_succ]; exact rfl)
          case st_6 =>
            intro K hK
            go_simp
            refine (HLN.out _).mono ?_
            rintro e wb ⟨rfl, hbb⟩
            have a0b := cell_later hbb a0
            have a1b := cell_later hbb a1
            have a2b := cell_later hbb a2
            have r0b := cell_later hbb r0
            have r1b := cell_later hbb r1
            have A4 := Lib.hid (Bk.below (w := w3.drew) A3.out hbb)
            have Z4 := Lib.hid (Bk.below (w := w3.drew) Z3.out hbb)
            have HBB := Lib.hid (Below.chain HBX.out.drew hbb)
            have fa1b : wb.frozen? ⟨w.heap.size, 1, none⟩ = false := A4.out.frozen 1
            have fa2b : wb.frozen? ⟨w.heap.size, 2, none⟩ = false := A4.out.frozen 2
            have z0b : wb.cell? ⟨w.heap.size + 1 + 1, 0, none⟩ = some (.string ⟨#[]⟩) := Z4.out.cell 0
            have z1b : wb.cell? ⟨w.heap.size + 1 + 1, 1, none⟩ = some (.string ⟨#[]⟩) := Z4.out.cell 1
            have z2b : wb.cell? ⟨w.heap.size + 1 + 1, 2, none⟩ = some (.int .i64 0) := Z4.out.cell 2
            have f0b : wb.frozen? ⟨w.heap.size + 1 + 1, 0, none⟩ = false := Z4.out.frozen 0
            have f1b : wb.frozen? ⟨w.heap.size + 1 + 1, 1, none⟩ = false := Z4.out.frozen 1
            have f2b : wb.frozen? ⟨w.heap.size + 1 + 1, 2, none⟩ = false := Z4.out.frozen 2
            clear hbb a0 a1 a2 r0 r1 z0 z1 z2 f0 f1 f2 A3 Z3 HBX
            refine hK.out _ _ ⟨a2b, r0b, r1b⟩ (fun hHeld => ?_)
            clear hK K
            try simp only [Act.put, List.setIfInBounds_toArray, List.set_cons_zero, List.set_cons_succ]
            refine' wpAnyH_take (i := 6) (oi := _) (v := _) ?e_7 ?a_7 ?b_7 ?c_7 ?q_7 ?y_7 hHeld ?r_7
            case e_7 => (simp only [List.getElem?_toArray, List.getElem?_cons_zero, List.getElem?_cons_succ]; exact rfl)
            case a_7 => kernel_rfl
            case b_7 => kernel_rfl
            case c_7 => kernel_rfl
            case q_7 => exact fun _ _ _ h => h
            case y_7 => exact Or.inl ⟨by rfl, by (intro w hSw; (try dsimp only at hSw); go_simp; first | done | with_reducible rfl)⟩
            try simp only [Act.put, List.setIfInBounds_toArray, List.set_cons_zero, List.set_cons_succ]
            refine' wpAnyH_take (i := 7) (oi := _) (v := _) ?e_8 ?a_8 ?b_8 ?c_8 ?q_8 ?y_8 hHeld ?r_8
            case e_8 => (simp only [List.getElem?_toArray, List.getElem?_cons_zero, List.getElem?_cons_succ]; exact rfl)
            case a_8 => kernel_rfl
            case b_8 => kernel_rfl
            case c_8 => kernel_rfl
            case q_8 => exact fun _ _ _ h => h
            case y_8 => exact Or.inl ⟨by rfl, by (intro w hSw; (try dsimp only at hSw); go_simp; first | done | with_reducible rfl)⟩
            try simp only [Act.put, List.setIfInBounds_toArray, List.set_cons_zero, List.set_cons_succ]
            refine wpAnyH_ready (rs := [8]) (by kernel_rfl) (by simp) ?_
            refine' AllReadyH.cons (o := _) ?e_9 ?st_9 AllReadyH.nil
            case e_9 => (simp only [List.getElem?_toArray, List.getElem?_cons_zero, List.getElem?_cons_succ]; exact rfl)
            case st_9 =>
              intro K hK
              go_simp
              refine hK.out _ _ ⟨(World.cell?_setCell_other _ _ _ _ (by simp)).trans a2b, (World.cell?_setCell_other _ _ _ _ (by simp)).trans r0b, (World.cell?_setCell_other _ _ _ _ (by simp)).trans r1b⟩ (fun hHeld => ?_)
              clear hK K hHeld
              try simp only [Act.put, List.setIfInBounds_toArray, List.set_cons_zero, List.set_cons_succ]
              refine wpAnyH_done (by kernel_rfl) ?_ _
              go_wp2
              exact bodyPost_ret (v := .tuple #[.agg #[.string d, .string (p ++ X), .int .i64 (n + 1)], .int .i64 0]) (by simp [results, Tryd.results26, go_sem, a0b, a1b, a2b, z0b, z1b, z2b]) rfl (F.out _ (by have hb := HBB.out; exact ((((hb.setCell (p := ⟨w.heap.size, 1, none⟩) (Nat.le_refl _) _).setCell (p := ⟨w.heap.size, 2, none⟩) (Nat.le_refl _) _).setCell (p := ⟨w.heap.size + 1 + 1, 0, none⟩) (by show w.heap.size ≤ w.heap.size + 1 + 1; omega) _).setCell (p := ⟨w.heap.size + 1 + 1, 1, none⟩) (by show w.heap.size ≤ w.heap.size + 1 + 1; omega) _).setCell (p := ⟨w.heap.size + 1 + 1, 2, none⟩) (by show w.heap.size ≤ w.heap.size + 1 + 1; omega) _))
        case more_5 =>
          refine' AllReadyH.cons (o := _) ?e_10 ?st_10 AllReadyH.nil
          case e_10 => (simp only [List.getElem?_toArray, List.getElem?_cons_zero, List.getElem?_cons_succ]; exact rfl)
          case st_10 =>
            intro K hK
            go_simp
            refine (HLN.out _).mono ?_
            rintro e wb ⟨rfl, hbb⟩
            have a0b := cell_later hbb a0
            have a1b := cell_later hbb a1
            have a2b := cell_later hbb a2
            have r0b := cell_later hbb r0
            have r1b := cell_later hbb r1
            have A4 := Lib.hid (Bk.below (w := w3.drew) A3.out hbb)
            have Z4 := Lib.hid (Bk.below (w := w3.drew) Z3.out hbb)
            have HBB := Lib.hid (Below.chain HBX.out.drew hbb)
            have fa1b : wb.frozen? ⟨w.heap.size, 1, none⟩ = false := A4.out.frozen 1
            have fa2b : wb.frozen? ⟨w.heap.size, 2, none⟩ = false := A4.out.frozen 2
            have z0b : wb.cell? ⟨w.heap.size + 1 + 1, 0, none⟩ = some (.string ⟨#[]⟩) := Z4.out.cell 0
            have z1b : wb.cell? ⟨w.heap.size + 1 + 1, 1, none⟩ = some (.string ⟨#[]⟩) := Z4.out.cell 1
            have z2b : wb.cell? ⟨w.heap.size + 1 + 1, 2, none⟩ = some (.int .i64 0) := Z4.out.cell 2
            have f0b : wb.frozen? ⟨w.heap.size + 1 + 1, 0, none⟩ = false := Z4.out.frozen 0
            have f1b : wb.frozen? ⟨w.heap.size + 1 + 1, 1, none⟩ = false := Z4.out.frozen 1
            have f2b : wb.frozen? ⟨w.heap.size + 1 + 1, 2, none⟩ = false := Z4.out.frozen 2
            clear hbb a0 a1 a2 r0 r1 z0 z1 z2 f0 f1 f2 A3 Z3 HBX
            refine hK.out _ _ ⟨a2b, r0b, r1b⟩ (fun hHeld => ?_)
            clear hK K
            try simp only [Act.put, List.setIfInBounds_toArray, List.set_cons_zero, List.set_cons_succ]
            refine wpAnyH_ready (rs := [1]) (by kernel_rfl) (by simp) ?_
            refine' AllReadyH.cons (o := _) ?e_11 ?st_11 AllReadyH.nil
            case e_11 => (simp only [List.getElem?_toArray, List.getElem?_cons_zero, List.getElem?_cons_succ]; exact rfl)
            case st_11 =>
              intro K hK
              go_simp
              refine hK.out _ _ ⟨a2b, r0b, r1b⟩ (fun hHeld => ?_)
              clear hK K
              try simp only [Act.put, List.setIfInBounds_toArray, List.set_cons_zero, List.set_cons_succ]
              refine' wpAnyH_take (i := 6) (oi := _) (v := _) ?e_12 ?a_12 ?b_12 ?c_12 ?q_12 ?y_12 hHeld ?r_12
              case e_12 => (simp only [List.getElem?_toArray, List.getElem?_cons_zero, List.getElem?_cons_succ]; exact rfl)
              case a_12 => kernel_rfl
              case b_12 => kernel_rfl
              case c_12 => kernel_rfl
              case q_12 => exact fun _ _ _ h => h
              case y_12 => exact Or.inl ⟨by rfl, by (intro w hSw; (try dsimp only at hSw); go_simp; first | done | with_reducible rfl)⟩
              try simp only [Act.put, List.setIfInBounds_toArray, List.set_cons_zero, List.set_cons_succ]
              refine' wpAnyH_take (i := 7) (oi := _) (v := _) ?e_13 ?a_13 ?b_13 ?c_13 ?q_13 ?y_13 hHeld ?r_13
              case e_13 => (simp only [List.getElem?_toArray, List.getElem?_cons_zero, List.getElem?_cons_succ]; exact rfl)
              case a_13 => kernel_rfl
              case b_13 => kernel_rfl
              case c_13 => kernel_rfl
              case q_13 => exact fun _ _ _ h => h
              case y_13 => exact Or.inl ⟨by rfl, by (intro w hSw; (try dsimp only at hSw); go_simp; first | done | with_reducible rfl)⟩
              try simp only [Act.put, List.setIfInBounds_toArray, List.set_cons_zero, List.set_cons_succ]
              refine wpAnyH_ready (rs := [8]) (by kernel_rfl) (by simp) ?_
              refine' AllReadyH.cons (o := _) ?e_14 ?st_14 AllReadyH.nil
              case e_14 => (simp only [List.getElem?_toArray, List.getElem?_cons_zero, List.getElem?_cons_succ]; exact rfl)
              case st_14 =>
                intro K hK
                go_simp
                refine hK.out _ _ ⟨(World.cell?_setCell_other _ _ _ _ (by simp)).trans a2b, (World.cell?_setCell_other _ _ _ _ (by simp)).trans r0b, (World.cell?_setCell_other _ _ _ _ (by simp)).trans r1b⟩ (fun hHeld => ?_)
                clear hK K hHeld
                try simp only [Act.put, List.setIfInBounds_toArray, List.set_cons_zero, List.set_cons_succ]
                refine wpAnyH_done (by kernel_rfl) ?_ _
                go_wp2
                exact bodyPost_ret (v := .tuple #[.agg #[.string d, .string (p ++ X), .int .i64 (n + 1)], .int .i64 0]) (by simp [results, Tryd.results26, go_sem, a0b, a1b, a2b, z0b, z1b, z2b]) rfl (F.out _ (by have hb := HBB.out; exact ((((hb.setCell (p := ⟨w.heap.size, 1, none⟩) (Nat.le_refl _) _).setCell (p := ⟨w.heap.size, 2, none⟩) (Nat.le_refl _) _).setCell (p := ⟨w.heap.size + 1 + 1, 0, none⟩) (by show w.heap.size ≤ w.heap.size + 1 + 1; omega) _).setCell (p := ⟨w.heap.size + 1 + 1, 1, none⟩) (by show w.heap.size ≤ w.heap.size + 1 + 1; omega) _).setCell (p := ⟨w.heap.size + 1 + 1, 2, none⟩) (by show w.heap.size ≤ w.heap.size + 1 + 1; omega) _))
        -- END
end Go.Proofs.YtfflbbgipbnckaaDoor
