import Derived.Test.YtohgjfdbnkjefaaGreatDoorK24
import Derived.Deep.RegionHeld3
open Go.World (rangeAt_setCells_same rangeAt_alloc there_setCells)
open Go.Lib (hid)
namespace Go.Proofs.YtohgjfdbnkjefaaGreatDoor
open Go.RowKit
set_option linter.unusedVariables false
set_option linter.unusedSimpArgs false
set_option maxRecDepth 100000
set_option maxHeartbeats 4000000 in
theorem AppendRecordS_c (d p : ByteArray) (n : Int) (c r : ByteArray) (w : World) (hd : d.size ≤ 1048576) (hp : p.size ≤ 1048576) (hc : c.size ≤ 1048576) (hr : r.size ≤ 1048576) : Calls Tryz.prog 73 #[logV d p n, recV c r] w (AppOut d p n c r w) := by
 have HV := hid (fun w => l12Valid_c d p n w hd hp)
 have HRV := hid (l12Record_c c r)
 have hbA := below_one (w := w) (.cells #[.string d, .string p, .int .i64 n] 29)
 have hbB := Below.alc hbA (.cells #[.string c, .string r] 76)
 have hb0 := hid (Below.alc hbB (.cells #[.string ⟨#[]⟩, .string ⟨#[]⟩, .int .i64 0] 29))
 have A0 := hid (((Bk.new w 29 #[.string d, .string p, .int .i64 n]).alloc (.cells #[.string c, .string r] 76)).alloc (.cells #[.string ⟨#[]⟩, .string ⟨#[]⟩, .int .i64 0] 29))
 have R0 := Bk.alloc (Bk.new (w.alloc (.cells #[.string d, .string p, .int .i64 n] 29)) 76 #[.string c, .string r]) (.cells #[.string ⟨#[]⟩, .string ⟨#[]⟩, .int .i64 0] 29)
 have Z0 := Bk.new ((w.alloc (.cells #[.string d, .string p, .int .i64 n] 29)).alloc (.cells #[.string c, .string r] 76)) 29 #[.string ⟨#[]⟩, .string ⟨#[]⟩, .int .i64 0]
 simp only [World.size_alloc] at R0 Z0
 have HR0 := hid R0
 have HZ0 := hid Z0
 clear hbA hbB R0 Z0
 unfold logV recV at *
 go_enter Tryz.func73, Tryz.ntmps73
 go_wp2_with fail
 refine (HV.out _).mono ?_
 rintro e w2 ⟨ok, rfl, hiff, hb2⟩
 have A2 := hid (A0.out.below hb2)
 have R2 := hid (HR0.out.below hb2)
 have Z2 := hid (HZ0.out.below hb2)
 have HBX := hid (Below.chain hb0.out hb2)
 have HI := hid hiff
 clear hb2 A0 HR0 HZ0 hb0 hiff HV
 have a0 : w2.cell? ⟨w.heap.size, 0, none⟩ = some (.string d) := A2.out.cell 0
 have a1 : w2.cell? ⟨w.heap.size, 1, none⟩ = some (.string p) := A2.out.cell 1
 have a2 : w2.cell? ⟨w.heap.size, 2, none⟩ = some (.int .i64 n) := A2.out.cell 2
 have r0 : w2.cell? ⟨w.heap.size + 1, 0, none⟩ = some (.string c) := R2.out.cell 0
 have r1 : w2.cell? ⟨w.heap.size + 1, 1, none⟩ = some (.string r) := R2.out.cell 1
 have z0 : w2.cell? ⟨w.heap.size + 1 + 1, 0, none⟩ = some (.string ⟨#[]⟩) := Z2.out.cell 0
 have z1 : w2.cell? ⟨w.heap.size + 1 + 1, 1, none⟩ = some (.string ⟨#[]⟩) := Z2.out.cell 1
 have z2 : w2.cell? ⟨w.heap.size + 1 + 1, 2, none⟩ = some (.int .i64 0) := Z2.out.cell 2
 have f0 : w2.frozen? ⟨w.heap.size + 1 + 1, 0, none⟩ = false := Z2.out.frozen 0
 have f1 : w2.frozen? ⟨w.heap.size + 1 + 1, 1, none⟩ = false := Z2.out.frozen 1
 have f2 : w2.frozen? ⟨w.heap.size + 1 + 1, 2, none⟩ = false := Z2.out.frozen 2
 have FIN : Hid (∀ X w', appV ok (recB c r) d p n c r = X → Below w.heap.size w w' → AppOut d p n c r w (.returned (.tuple #[X.1, .int .i64 X.2])) w') := fun X w' hX hb => by
  subst hX; exact ⟨ok, rfl, HI.out, hb⟩
 cases ok with
 | false =>
  have F := hid (fun w' => FIN.out _ w' (appV_no rfl))
  unfold logV at F
  clear FIN
  go_wp2
  exact bodyPost_ret (v := .tuple #[.agg #[.string d, .string p, .int .i64 n], .int .i64 1]) (by simp [results, Tryz.results73, go_sem, z0, z1, z2]) rfl (F.out _ (by have hb := HBX.out; exact ((hb.setCell (p := ⟨w.heap.size + 1 + 1, 0, none⟩) (by show w.heap.size ≤ w.heap.size + 1 + 1; omega) _).setCell (p := ⟨w.heap.size + 1 + 1, 1, none⟩) (by show w.heap.size ≤ w.heap.size + 1 + 1; omega) _).setCell (p := ⟨w.heap.size + 1 + 1, 2, none⟩) (by show w.heap.size ≤ w.heap.size + 1 + 1; omega) _))
 | true =>
  go_wp2_with fail
  refine (HRV.out _ (by omega) (by omega)).mono ?_
  rintro e w3 ⟨rfl, hb2⟩
  have A3 := hid (A2.out.below hb2)
  have R3 := hid (R2.out.below hb2)
  have Z3 := hid (Z2.out.below hb2)
  have HBX3 := hid (Below.chain HBX.out hb2)
  clear hb2 A2 R2 Z2 a0 a1 a2 r0 r1 z0 z1 z2 f0 f1 f2 HBX
  have a0 : w3.cell? ⟨w.heap.size, 0, none⟩ = some (.string d) := A3.out.cell 0
  have a1 : w3.cell? ⟨w.heap.size, 1, none⟩ = some (.string p) := A3.out.cell 1
  have a2 : w3.cell? ⟨w.heap.size, 2, none⟩ = some (.int .i64 n) := A3.out.cell 2
  have r0 : w3.cell? ⟨w.heap.size + 1, 0, none⟩ = some (.string c) := R3.out.cell 0
  have r1 : w3.cell? ⟨w.heap.size + 1, 1, none⟩ = some (.string r) := R3.out.cell 1
  have z0 : w3.cell? ⟨w.heap.size + 1 + 1, 0, none⟩ = some (.string ⟨#[]⟩) := Z3.out.cell 0
  have z1 : w3.cell? ⟨w.heap.size + 1 + 1, 1, none⟩ = some (.string ⟨#[]⟩) := Z3.out.cell 1
  have z2 : w3.cell? ⟨w.heap.size + 1 + 1, 2, none⟩ = some (.int .i64 0) := Z3.out.cell 2
  have f0 : w3.frozen? ⟨w.heap.size + 1 + 1, 0, none⟩ = false := Z3.out.frozen 0
  have f1 : w3.frozen? ⟨w.heap.size + 1 + 1, 1, none⟩ = false := Z3.out.frozen 1
  have f2 : w3.frozen? ⟨w.heap.size + 1 + 1, 2, none⟩ = false := Z3.out.frozen 2
  have HBX := HBX3
  clear HBX3
  rcases hrc : recB c r with _ | _
  · rw [hrc] at FIN
    have F := hid (fun w' => FIN.out _ w' (appV_no rfl))
    unfold logV at F
    clear FIN hrc
    go_wp2
    exact bodyPost_ret (v := .tuple #[.agg #[.string d, .string p, .int .i64 n], .int .i64 1]) (by simp [results, Tryz.results73, go_sem, z0, z1, z2]) rfl (F.out _ (by have hb := HBX.out; exact ((hb.setCell (p := ⟨w.heap.size + 1 + 1, 0, none⟩) (by show w.heap.size ≤ w.heap.size + 1 + 1; omega) _).setCell (p := ⟨w.heap.size + 1 + 1, 1, none⟩) (by show w.heap.size ≤ w.heap.size + 1 + 1; omega) _).setCell (p := ⟨w.heap.size + 1 + 1, 2, none⟩) (by show w.heap.size ≤ w.heap.size + 1 + 1; omega) _))
  · have HRC := hid hrc
    rw [hrc] at FIN
    clear hrc
    by_cases h60 : n = 60
    · have t60 : (n == 60) = true := by rw [h60]; rfl
      have F := hid (fun w' => FIN.out _ w' (appV_full h60))
      unfold logV at F
      clear FIN h60
      go_wp2
      exact bodyPost_ret (v := .tuple #[.agg #[.string d, .string p, .int .i64 n], .int .i64 2]) (by simp [results, Tryz.results73, go_sem, z0, z1, z2]) rfl (F.out _ (by have hb := HBX.out; exact ((hb.setCell (p := ⟨w.heap.size + 1 + 1, 0, none⟩) (by show w.heap.size ≤ w.heap.size + 1 + 1; omega) _).setCell (p := ⟨w.heap.size + 1 + 1, 1, none⟩) (by show w.heap.size ≤ w.heap.size + 1 + 1; omega) _).setCell (p := ⟨w.heap.size + 1 + 1, 2, none⟩) (by show w.heap.size ≤ w.heap.size + 1 + 1; omega) _))
    · have t60 : (n == 60) = false := by simp; exact h60
      have F := hid (fun w' => FIN.out _ w' (appV_yes h60))
      unfold logV at F
      obtain ⟨es, hes⟩ := HI.out.1 trivial
      obtain ⟨hn0, hn1, hin, hsz⟩ := app_line hes h60 HRC.out
      have HLN : Hid (∀ w, Calls Tryz.prog 131 #[.int .i64 n, .agg #[.string c, .string r]] w fun e w' => e = .returned (.string (bs (lineS n c.data.toList r.data.toList))) ∧ Below w.heap.size w w') := fun w => by
       have h := l12Line_c n.toNat (by omega) c r w hc hr
       rw [show ((n.toNat : Nat) : Int) = n by omega] at h
       exact h
      clear FIN h60 hes hin
      generalize bs (lineS n c.data.toList r.data.toList) = X at *
      have hXs : ¬ (9223372036854775807 < p.size + X.size) := by omega
      have hw1 : IntKind.i64.wrap (n + 1) = n + 1 := IntWalk.i64_in _ (by omega)
      go_wp2_with fail
      -- REGION
      refine wp_region_held_drew (S := fun w' : World => w'.cell? ⟨w.heap.size, 2, none⟩ = some (.int .i64 n) ∧ w'.cell? ⟨w.heap.size + 1, 0, none⟩ = some (.string c) ∧ w'.cell? ⟨w.heap.size + 1, 1, none⟩ = some (.string r)) (by kernel_rfl) ⟨a2, r0, r1⟩ (fun hHeld => ?_)
      refine' tkY 0 hHeld ?r_1
      try simp only [Act.put, xqA, xqB, xqC]
      refine' tkY 2 hHeld ?r_2
      try simp only [Act.put, xqA, xqB, xqC]
      refine' tkX 3 hHeld ?y_3 ?r_3
      case y_3 => exact Or.inl ⟨by rfl, by (intro w hSw; (obtain ⟨hs1, hs2, hs3⟩ := hSw); go_simp; first | done | with_reducible rfl)⟩
      try simp only [Act.put, xqA, xqB, xqC]
      refine' tkX 4 hHeld ?y_4 ?r_4
      case y_4 => exact Or.inl ⟨by rfl, by (intro w hSw; (obtain ⟨hs1, hs2, hs3⟩ := hSw); go_simp; first | done | with_reducible rfl)⟩
      try simp only [Act.put, xqA, xqB, xqC]
      refine wpAnyH_ready (rs := [1, 5]) (by kernel_rfl) (by simp) ?_
      refine' AllReadyH.cons (o := _) ?e_5 ?st_5 ?more_5
      case e_5 => (simp only [xeA, xeB, xeC]; exact rfl)
      case st_5 =>
       intro K hK
       go_simp
       refine hK.out _ _ ⟨a2, r0, r1⟩ (fun hHeld => ?_)
       clear hK K
       try simp only [Act.put, xqA, xqB, xqC]
       refine wpAnyH_ready (rs := [5]) (by kernel_rfl) (by simp) ?_
       refine' AllReadyH.cons (o := _) ?e_6 ?st_6 AllReadyH.nil
       case e_6 => (simp only [xeA, xeB, xeC]; exact rfl)
       case st_6 =>
        intro K hK
        go_simp
        refine (HLN.out _).mono ?_
        rintro e wb ⟨rfl, hbb⟩
        have a0b := cell_later hbb a0
        have a1b := cell_later hbb a1
        have a2b := cell_later hbb a2
        have r0b := cell_later hbb r0
        have r1b := cell_later hbb r1
        have A4 := hid (Bk.below (w := w3.drew) A3.out hbb)
        have Z4 := hid (Bk.below (w := w3.drew) Z3.out hbb)
        have HBB := hid (Below.chain HBX.out.drew hbb)
        have fa1b : wb.frozen? ⟨w.heap.size, 1, none⟩ = false := A4.out.frozen 1
        have fa2b : wb.frozen? ⟨w.heap.size, 2, none⟩ = false := A4.out.frozen 2
        have z0b : wb.cell? ⟨w.heap.size + 1 + 1, 0, none⟩ = some (.string ⟨#[]⟩) := Z4.out.cell 0
        have z1b : wb.cell? ⟨w.heap.size + 1 + 1, 1, none⟩ = some (.string ⟨#[]⟩) := Z4.out.cell 1
        have z2b : wb.cell? ⟨w.heap.size + 1 + 1, 2, none⟩ = some (.int .i64 0) := Z4.out.cell 2
        have f0b : wb.frozen? ⟨w.heap.size + 1 + 1, 0, none⟩ = false := Z4.out.frozen 0
        have f1b : wb.frozen? ⟨w.heap.size + 1 + 1, 1, none⟩ = false := Z4.out.frozen 1
        have f2b : wb.frozen? ⟨w.heap.size + 1 + 1, 2, none⟩ = false := Z4.out.frozen 2
        clear hbb a0 a1 a2 r0 r1 z0 z1 z2 f0 f1 f2 A3 Z3 HBX
        refine hK.out _ _ ⟨a2b, r0b, r1b⟩ (fun hHeld => ?_)
        clear hK K
        try simp only [Act.put, xqA, xqB, xqC]
        refine' tkY 6 hHeld ?r_7
        try simp only [Act.put, xqA, xqB, xqC]
        refine' tkY 7 hHeld ?r_8
        try simp only [Act.put, xqA, xqB, xqC]
        refine wpAnyH_ready (rs := [8]) (by kernel_rfl) (by simp) ?_
        refine' AllReadyH.cons (o := _) ?e_9 ?st_9 AllReadyH.nil
        case e_9 => (simp only [xeA, xeB, xeC]; exact rfl)
        case st_9 =>
         intro K hK
         go_simp
         refine hK.out _ _ ⟨(World.cell?_setCell_other _ _ _ _ (by simp)).trans a2b, (World.cell?_setCell_other _ _ _ _ (by simp)).trans r0b, (World.cell?_setCell_other _ _ _ _ (by simp)).trans r1b⟩ (fun hHeld => ?_)
         clear hK K hHeld
         try simp only [Act.put, xqA, xqB, xqC]
         refine wpAnyH_done (by kernel_rfl) ?_ _
         go_wp2
         exact bodyPost_ret (v := .tuple #[.agg #[.string d, .string (p ++ X), .int .i64 (n + 1)], .int .i64 0]) (by simp [results, Tryz.results73, go_sem, a0b, a1b, a2b, z0b, z1b, z2b]) rfl (F.out _ (by have hb := HBB.out; exact ((((hb.setCell (p := ⟨w.heap.size, 1, none⟩) (Nat.le_refl _) _).setCell (p := ⟨w.heap.size, 2, none⟩) (Nat.le_refl _) _).setCell (p := ⟨w.heap.size + 1 + 1, 0, none⟩) (by show w.heap.size ≤ w.heap.size + 1 + 1; omega) _).setCell (p := ⟨w.heap.size + 1 + 1, 1, none⟩) (by show w.heap.size ≤ w.heap.size + 1 + 1; omega) _).setCell (p := ⟨w.heap.size + 1 + 1, 2, none⟩) (by show w.heap.size ≤ w.heap.size + 1 + 1; omega) _))
      case more_5 =>
       refine' AllReadyH.cons (o := _) ?e_10 ?st_10 AllReadyH.nil
       case e_10 => (simp only [xeA, xeB, xeC]; exact rfl)
       case st_10 =>
        intro K hK
        go_simp
        refine (HLN.out _).mono ?_
        rintro e wb ⟨rfl, hbb⟩
        have a0b := cell_later hbb a0
        have a1b := cell_later hbb a1
        have a2b := cell_later hbb a2
        have r0b := cell_later hbb r0
        have r1b := cell_later hbb r1
        have A4 := hid (Bk.below (w := w3.drew) A3.out hbb)
        have Z4 := hid (Bk.below (w := w3.drew) Z3.out hbb)
        have HBB := hid (Below.chain HBX.out.drew hbb)
        have fa1b : wb.frozen? ⟨w.heap.size, 1, none⟩ = false := A4.out.frozen 1
        have fa2b : wb.frozen? ⟨w.heap.size, 2, none⟩ = false := A4.out.frozen 2
        have z0b : wb.cell? ⟨w.heap.size + 1 + 1, 0, none⟩ = some (.string ⟨#[]⟩) := Z4.out.cell 0
        have z1b : wb.cell? ⟨w.heap.size + 1 + 1, 1, none⟩ = some (.string ⟨#[]⟩) := Z4.out.cell 1
        have z2b : wb.cell? ⟨w.heap.size + 1 + 1, 2, none⟩ = some (.int .i64 0) := Z4.out.cell 2
        have f0b : wb.frozen? ⟨w.heap.size + 1 + 1, 0, none⟩ = false := Z4.out.frozen 0
        have f1b : wb.frozen? ⟨w.heap.size + 1 + 1, 1, none⟩ = false := Z4.out.frozen 1
        have f2b : wb.frozen? ⟨w.heap.size + 1 + 1, 2, none⟩ = false := Z4.out.frozen 2
        clear hbb a0 a1 a2 r0 r1 z0 z1 z2 f0 f1 f2 A3 Z3 HBX
        refine hK.out _ _ ⟨a2b, r0b, r1b⟩ (fun hHeld => ?_)
        clear hK K
        try simp only [Act.put, xqA, xqB, xqC]
        refine wpAnyH_ready (rs := [1]) (by kernel_rfl) (by simp) ?_
        refine' AllReadyH.cons (o := _) ?e_11 ?st_11 AllReadyH.nil
        case e_11 => (simp only [xeA, xeB, xeC]; exact rfl)
        case st_11 =>
         intro K hK
         go_simp
         refine hK.out _ _ ⟨a2b, r0b, r1b⟩ (fun hHeld => ?_)
         clear hK K
         try simp only [Act.put, xqA, xqB, xqC]
         refine' tkY 6 hHeld ?r_12
         try simp only [Act.put, xqA, xqB, xqC]
         refine' tkY 7 hHeld ?r_13
         try simp only [Act.put, xqA, xqB, xqC]
         refine wpAnyH_ready (rs := [8]) (by kernel_rfl) (by simp) ?_
         refine' AllReadyH.cons (o := _) ?e_14 ?st_14 AllReadyH.nil
         case e_14 => (simp only [xeA, xeB, xeC]; exact rfl)
         case st_14 =>
          intro K hK
          go_simp
          refine hK.out _ _ ⟨(World.cell?_setCell_other _ _ _ _ (by simp)).trans a2b, (World.cell?_setCell_other _ _ _ _ (by simp)).trans r0b, (World.cell?_setCell_other _ _ _ _ (by simp)).trans r1b⟩ (fun hHeld => ?_)
          clear hK K hHeld
          try simp only [Act.put, xqA, xqB, xqC]
          refine wpAnyH_done (by kernel_rfl) ?_ _
          go_wp2
          exact bodyPost_ret (v := .tuple #[.agg #[.string d, .string (p ++ X), .int .i64 (n + 1)], .int .i64 0]) (by simp [results, Tryz.results73, go_sem, a0b, a1b, a2b, z0b, z1b, z2b]) rfl (F.out _ (by have hb := HBB.out; exact ((((hb.setCell (p := ⟨w.heap.size, 1, none⟩) (Nat.le_refl _) _).setCell (p := ⟨w.heap.size, 2, none⟩) (Nat.le_refl _) _).setCell (p := ⟨w.heap.size + 1 + 1, 0, none⟩) (by show w.heap.size ≤ w.heap.size + 1 + 1; omega) _).setCell (p := ⟨w.heap.size + 1 + 1, 1, none⟩) (by show w.heap.size ≤ w.heap.size + 1 + 1; omega) _).setCell (p := ⟨w.heap.size + 1 + 1, 2, none⟩) (by show w.heap.size ≤ w.heap.size + 1 + 1; omega) _))
      -- END
theorem cmdB_len {line : ByteArray} (h : cmdB line = true) : line.size ≤ 160 := by
 unfold cmdB at h
 simp only [Bool.and_eq_true] at h
 have := inB_true h.1
 omega
theorem recB_nil (line : ByteArray) : recB line ⟨#[]⟩ = cmdB line := by
 unfold recB
 rw [show (decide (((⟨#[]⟩ : ByteArray).size : Int) ≤ 250) && printB ⟨#[]⟩) = true from by decide, Bool.and_true]
theorem build_cons2_x (x0 x1 x2 x3 x4 x5 x6 x7 x8 x9 x10 x11 x12 x13 x14 x15 x16 x17 x18 : Int) (d p : ByteArray) (n : Int) :
 (((List.foldl (fun (cs : Array Value) (x : Value × Nat) => cs.setIfInBounds x.snd x.fst) zCA (ints [x0, x1, x2, x3, x4, x5, x6, x7, x8, x9, x10, x11, x12, x13, x14, x15, x16, x17, x18]).zipIdx).setIfInBounds 19 (.string d)).setIfInBounds 20 (.string p)).setIfInBounds 21 (.int .i64 n) = (csC [x0, x1, x2, x3, x4, x5, x6, x7, x8, x9, x10, x11, x12, x13, x14, x15, x16, x17, x18] d p n).toArray := by kernel_rfl
theorem build_cons2 {b : List Int} (hb : b.length = 19) (d p : ByteArray) (n : Int) :
 (((List.foldl (fun (cs : Array Value) (x : Value × Nat) => cs.setIfInBounds x.snd x.fst) zCA (ints b).zipIdx).setIfInBounds 19 (.string d)).setIfInBounds 20 (.string p)).setIfInBounds 21 (.int .i64 n) = (csC b d p n).toArray := by
 match b, hb with
 | [x0, x1, x2, x3, x4, x5, x6, x7, x8, x9, x10, x11, x12, x13, x14, x15, x16, x17, x18], _ => exact build_cons2_x x0 x1 x2 x3 x4 x5 x6 x7 x8 x9 x10 x11 x12 x13 x14 x15 x16 x17 x18 d p n
theorem build_small {b : List Int} (hb : b.length = 19) : ((List.foldl (fun (cs : Array Value) (x : Value × Nat) => cs.setIfInBounds x.snd x.fst) zCA (ints b).zipIdx).size < 22) = False := by
 rw [build_cons hb, List.size_toArray, csC_len hb]; simp
theorem exOut_mk {c : Cst} {line : ByteArray} {w w' : World} {X : Cst} {T : Bs} (ok : Bool) (h1 : ok = true ↔ c.ok) (h2 : stepV ok c line = (X, T)) (h3 : Below w.heap.size w w') : ExOut c line w (.returned (.tuple #[X.val, .string (bs T)])) w' :=
 ⟨ok, by rw [h2], h1, h3⟩
set_option maxHeartbeats 20000000 in
theorem ExecuteCommandS_c (c : Cst) (line : ByteArray) (w : World) (hf : c.fit) (hl : line.size ≤ 1048576) :
 Calls Tryz.prog 29 #[c.val, .string line] w (ExOut c line w) := by
 obtain ⟨b, d, p, n⟩ := c
 obtain ⟨hb, hd, hp⟩ := hf
 have hb : b.length = 19 := hb
 have hd : d.size ≤ 1048576 := hd
 have hp : p.size ≤ 1048576 := hp
 have hv : Cst.val ⟨b, d, p, n⟩ = .agg (csC b d p n).toArray := rfl
 rw [hv]
 have r0 := rangeAt_alloc (range_new w (csC b d p n) 31) (.cells zCA 31)
 have t0 := there_new (w.alloc (.cells (csC b d p n).toArray 31)) zCA 31 (n := 22) (by decide)
 have hb0 : Below w.heap.size w ((w.alloc (.cells (csC b d p n).toArray 31)).alloc (.cells zCA 31)) := qBl
 simp only [World.size_alloc] at t0
 have hsz : w.heap.size + 1 < ((w.alloc (.cells (csC b d p n).toArray 31)).alloc (.cells zCA 31)).heap.size := by simp
 have HV := hid (fun W => IsValidConsoleS_c b d p n W hb hd hp)
 unfold ConsOut consV at HV
 have HK : Hid (∀ ok : Bool, (ok = true ↔ (goodB b = true ∧ ∃ es, ValidL d.data.toList p.data.toList n es)) → (ok = true ↔ Cst.ok ⟨b, d, p, n⟩)) := fun ok h => h
 unfold zCA at *
 clear hv
 go_enter Tryz.func29, Tryz.ntmps29
 go_wp2_with (refine wpList_loadC rfl _ rfl _ rfl b d p n r0 hb ?_)
 refine (HV.out _).mono ?_
 rintro e w1 ⟨ok, rfl, hok, hb1⟩
 have HOK := hid (HK.out ok hok)
 have HOK2 := hid hok
 have r1 := range_below r0 hb1
 have t1 := there_below t0 hb1
 have HB1 := hid (Below.chain hb0 hb1)
 have z1 := Nat.lt_of_lt_of_le hsz hb1.size
 clear r0 t0 hb0 hb1 hsz hok HV HK
 cases ok with
 | false =>
  as_aux_lemma =>
   have HF := hid (fun w' => exOut_mk (w := w) (w' := w') (line := line) false HOK.out stepV_no)
   have K5 := loadVarC (rangeAt_setCells_same _ (w.heap.size + 1) 0 (csC b d p n) (by rw [csC_len hb]; exact t1)) hb
   have K6 := below_cells (csC b d p n) _ (w.heap.size + 1) 0 HB1.out (by omega)
   go_wp2_with (first | (refine wpList_loadC rfl _ rfl _ rfl b d p n r1 hb ?_) | (refine wpList_storeC rfl _ _ rfl _ b d p n rfl rfl t1 hb ?_))
   exact bodyPost_ret (v := .tuple #[consV b d p n, .string (bs tNo)]) (res_cell2 Tryz.results29 rfl K5) rfl (HF.out _ K6)
 | true =>
  have HOKT : Hid (Cst.ok ⟨b, d, p, n⟩) := HOK.out.1 rfl
  clear HOK HOK2
  cases hc : cmdB line with
  | false =>
   as_aux_lemma =>
    have HF := hid (fun w' => exOut_mk (w := w) (w' := w') true ⟨fun _ => HOKT.out, fun _ => rfl⟩ (stepV_bad hc))
    have HC := hid hc
    clear hc
    go_wp2_with fail
    refine (l12Record_c line ⟨#[]⟩ _ (by omega) (by show 0 ≤ _; omega)).mono ?_
    rintro e w2 ⟨rfl, hb2⟩
    rw [recB_nil, HC.out]
    have r2 := range_below r1 hb2
    have t2 := there_below t1 hb2
    have HB2 := hid (Below.chain HB1.out hb2)
    clear r1 t1 hb2
    have K5 := loadVarC (rangeAt_setCells_same _ (w.heap.size + 1) 0 (csC b d p n) (by rw [csC_len hb]; exact t2)) hb
    have K6 := below_cells (csC b d p n) _ (w.heap.size + 1) 0 HB2.out (by omega)
    go_wp2_with (first | (refine wpList_loadC rfl _ rfl _ rfl b d p n r2 hb ?_) | (refine wpList_storeC rfl _ _ rfl _ b d p n rfl rfl t2 hb ?_))
    exact bodyPost_ret (v := .tuple #[consV b d p n, .string (bs tBad)]) (res_cell2 Tryz.results29 rfl K5) rfl (HF.out _ K6)
  | true =>
   have HC := hid hc
   have hl160 := cmdB_len hc
   clear hc
   go_wp2_with fail
   refine (l12Record_c line ⟨#[]⟩ _ (by omega) (by show 0 ≤ _; omega)).mono ?_
   rintro e w2 ⟨rfl, hb2⟩
   rw [recB_nil, HC.out]
   have r2 := range_below r1 hb2
   have t2 := there_below t1 hb2
   have HB2 := hid (Below.chain HB1.out hb2)
   have z2 := Nat.lt_of_lt_of_le z1 hb2.size
   clear hb2
   clear r1 t1 HB1 z1
   have l2 := csC_log r2 hb
   have hc21 : w2.cell? ⟨w.heap.size, 21, none⟩ = some (.int .i64 n) := l2 2 _ rfl
   by_cases hn : n = 60
   · as_aux_lemma =>
      have HF := hid (fun w' => exOut_mk (w := w) (w' := w') true ⟨fun _ => HOKT.out, fun _ => rfl⟩ (stepV_full HC.out (show (Cst.mk b d p n).n = 60 from hn)))
      have hne : (n == 60) = true := by rw [hn]; rfl
      clear hn
      have K5 := loadVarC (rangeAt_setCells_same _ (w.heap.size + 1) 0 (csC b d p n) (by rw [csC_len hb]; exact t2)) hb
      have K6 := below_cells (csC b d p n) _ (w.heap.size + 1) 0 HB2.out (by omega)
      go_wp2_with (first | (refine wpList_loadC rfl _ rfl _ rfl b d p n r2 hb ?_) | (refine wpList_storeC rfl _ _ rfl _ b d p n rfl rfl t2 hb ?_))
      exact bodyPost_ret (v := .tuple #[consV b d p n, .string (bs tFull)]) (res_cell2 Tryz.results29 rfl K5) rfl (HF.out _ K6)
   · as_aux_lemma =>
      have hne : (n == 60) = false := by simp [hn]
      obtain ⟨hg, es, hes⟩ := HOKT.out
      have hg : goodB b = true := hg
      have hes : ValidL d.data.toList p.data.toList n es := hes
      have hsm := sayM_rp hb hg line.data.toList
      have hXl := (execM_ok hb hg line.data.toList).1.1
      have HREC := hid (recB_of HC.out hsm)
      have HS : Hid (stepV true ⟨b, d, p, n⟩ line = (doneC ⟨b, d, p, n⟩ line, sayO (execM b line.data.toList).2)) := stepV_done HC.out hn
      have HDC : Hid (doneC ⟨b, d, p, n⟩ line = ⟨(execM b line.data.toList).1, d, p ++ bs (lineS n line.data.toList (sayO (execM b line.data.toList).2)), n + 1⟩) := rfl
      have HX := hid (fun W => l12Exec_c b line W hb hg hl160)
      unfold ExeS at HX
      obtain ⟨X, hX⟩ : ∃ X, (execM b line.data.toList).1 = X := ⟨_, rfl⟩
      obtain ⟨T, hTT⟩ : ∃ T, sayO (execM b line.data.toList).2 = T := ⟨_, rfl⟩
      rw [hX] at hXl HDC HX
      rw [hTT] at hsm HREC HS HDC HX
      have HAP : Hid (∀ W, Calls Tryz.prog 73 #[logV d p n, recV line (bs T)] W fun e w' => e = .returned (.tuple #[logV d (p ++ bs (lineS n line.data.toList T)) (n + 1), .int .i64 0]) ∧ Below W.heap.size W w') := fun W =>
       (AppendRecordS_c d p n line (bs T) W hd hp hl (by rw [bs_size]; have := hsm.len; omega)).mono fun e w' ⟨ok2, he, hi, hbb⟩ => by
        have : ok2 = true := hi.2 ⟨es, hes⟩
        subst this
        rw [HREC.out, appV_yes hn, bs_list] at he
        exact ⟨he, hbb⟩
      obtain ⟨P, hP⟩ : ∃ P, p ++ bs (lineS n line.data.toList T) = P := ⟨_, rfl⟩
      rw [hP] at HAP HDC
      have HF := hid (fun w' => exOut_mk (w := w) (w' := w') true ⟨fun _ => HOKT.out, fun _ => rfl⟩ (by rw [HS.out, HDC.out]))
      have hbu := build_cons2 hXl d P (n + 1)
      have hX19 : (ints X).length = 19 := by simp [ints, hXl]
      have r2b := csC_bench r2 hb
      unfold logV recV at HAP
      unfold aggI at HX
      have hbs := build_small hXl
      unfold zCA at hbu hbs
      clear hX hTT hP HS HDC HREC hsm HOKT hes hg HC hn
      go_upto_region 7 with fail
      go_wp2_with (refine wpList_loadB rfl _ rfl _ rfl b r2b hb ?_)
      refine (HX.out _).mono ?_
      rintro e w3 ⟨rfl, hb3⟩
      have z3 := Nat.lt_of_lt_of_le z2 hb3.size
      have t3 := there_new w3 zBA 26 (n := 19) (by decide)
      have u3 := there_setCells (World.there_alloc (there_below t2 hb3) zB) w3.heap.size 0 (ints X)
      have r3 := World.rangeAt_setCells_apart (rangeAt_alloc (range_below r2 hb3) zB) w3.heap.size 0 (ints X) (.inl (by have := z3; omega))
      have c3 := rangeAt_setCells_same (w3.alloc zB) w3.heap.size 0 (ints X) (by rw [hX19]; exact t3)
      have HB3 := hid (below_cells (ints X) (w3.alloc zB) w3.heap.size 0 (Below.alc (Below.chain HB2.out hb3) zB) (by omega))
      clear r2 t2 hb3 HX r2b HB2 l2 hc21
      unfold zB zBA at *
      go_upto_region 8 with (refine wpList_storeB rfl _ _ rfl _ X rfl rfl t3 hXl ?_)
      clear t3
      generalize w3.heap.size = g6 at *
      generalize World.setCells _ _ _ _ = w4 at *
      have l4 := csC_log r3 hb
      have hl4a : w4.cell? ⟨w.heap.size, 19, none⟩ = some (.string d) := l4 0 _ rfl
      have hl4b : w4.cell? ⟨w.heap.size, 20, none⟩ = some (.string p) := l4 1 _ rfl
      have hl4c : w4.cell? ⟨w.heap.size, 21, none⟩ = some (.int .i64 n) := l4 2 _ rfl
      go_wp2_with (refine wpList_loadL rfl _ rfl _ _ rfl d p n l4 ?_)
      refine (HAP.out _).mono ?_
      rintro e w5 ⟨rfl, hb5⟩
      have c5 := rangeAt_alloc (range_below c3 hb5) (.cells #[.string d, .string P, .int .i64 (n + 1)] 29)
      have u5 := World.there_alloc (there_below u3 hb5) (.cells #[.string d, .string P, .int .i64 (n + 1)] 29)
      have HB5 := hid (Below.alc (Below.chain HB3.out hb5) (.cells #[.string d, .string P, .int .i64 (n + 1)] 29))
      have K5 := loadVarC (rangeAt_setCells_same _ (w.heap.size + 1) 0 (csC X d P (n + 1)) (by rw [csC_len hXl]; exact u5)) hXl
      have K6 := below_cells (csC X d P (n + 1)) _ (w.heap.size + 1) 0 HB5.out (by omega)
      clear hl4a hl4b hl4c l4 hb5 HAP
      go_wp2_with (first | (refine wpList_loadB rfl _ rfl _ rfl X c5 hXl ?_) | (refine wpList_storeC rfl _ _ rfl _ X d P (n + 1) rfl rfl u5 hXl ?_))
      exact bodyPost_ret (v := .tuple #[consV X d P (n + 1), .string (bs T)]) (res_cell2 Tryz.results29 rfl K5) rfl (HF.out _ K6)
set_option maxHeartbeats 20000000 in
theorem ExecuteCommand_c (c : Cst) (line : ByteArray) (w : World) (hf : c.fit) (hl : line.size ≤ 1048576) (ht : TabC w) :
 Calls Tryz.prog 13 #[c.val, .string line] w (ExOut c line w) := by
 obtain ⟨b, d, p, n⟩ := c
 obtain ⟨hb, hd, hp⟩ := hf
 have hb : b.length = 19 := hb
 have hd : d.size ≤ 1048576 := hd
 have hp : p.size ≤ 1048576 := hp
 have HT := hid ht
 clear ht
 have hv : Cst.val ⟨b, d, p, n⟩ = .agg (csC b d p n).toArray := rfl
 rw [hv]
 have r0 := rangeAt_alloc (range_new w (csC b d p n) 31) (.cells zCA 31)
 have t0 := there_new (w.alloc (.cells (csC b d p n).toArray 31)) zCA 31 (n := 22) (by decide)
 have hb0 : Below w.heap.size w ((w.alloc (.cells (csC b d p n).toArray 31)).alloc (.cells zCA 31)) := qBl
 simp only [World.size_alloc] at t0
 have hsz : w.heap.size + 1 < ((w.alloc (.cells (csC b d p n).toArray 31)).alloc (.cells zCA 31)).heap.size := by simp
 have HV := hid (fun W h => IsValidConsole_c b d p n W hb hd hp h)
 unfold ConsOut consV at HV
 have HK : Hid (∀ ok : Bool, (ok = true ↔ (goodB b = true ∧ ∃ es, ValidL d.data.toList p.data.toList n es)) → (ok = true ↔ Cst.ok ⟨b, d, p, n⟩)) := fun ok h => h
 unfold zCA at *
 clear hv
 go_enter Tryz.func13, Tryz.ntmps13
 go_wp2_with (refine wpList_loadC rfl _ rfl _ rfl b d p n r0 hb ?_)
 refine (HV.out _ (HT.out.on hb0).pow).mono ?_
 rintro e w1 ⟨ok, rfl, hok, hb1⟩
 have HOK := hid (HK.out ok hok)
 have HOK2 := hid hok
 have r1 := range_below r0 hb1
 have t1 := there_below t0 hb1
 have HB1 := hid (Below.chain hb0 hb1)
 have z1 := Nat.lt_of_lt_of_le hsz hb1.size
 clear r0 t0 hb0 hb1 hsz hok HV HK
 cases ok with
 | false =>
  as_aux_lemma =>
   have HF := hid (fun w' => exOut_mk (w := w) (w' := w') (line := line) false HOK.out stepV_no)
   have K5 := loadVarC (rangeAt_setCells_same _ (w.heap.size + 1) 0 (csC b d p n) (by rw [csC_len hb]; exact t1)) hb
   have K6 := below_cells (csC b d p n) _ (w.heap.size + 1) 0 HB1.out (by omega)
   go_wp2_with (first | (refine wpList_loadC rfl _ rfl _ rfl b d p n r1 hb ?_) | (refine wpList_storeC rfl _ _ rfl _ b d p n rfl rfl t1 hb ?_))
   exact bodyPost_ret (v := .tuple #[consV b d p n, .string (bs tNo)]) (res_cell2 Tryz.results13 rfl K5) rfl (HF.out _ K6)
 | true =>
  have HOKT : Hid (Cst.ok ⟨b, d, p, n⟩) := HOK.out.1 rfl
  clear HOK HOK2
  cases hc : cmdB line with
  | false =>
   as_aux_lemma =>
    have HF := hid (fun w' => exOut_mk (w := w) (w' := w') true ⟨fun _ => HOKT.out, fun _ => rfl⟩ (stepV_bad hc))
    have HC := hid hc
    clear hc
    go_wp2_with fail
    refine (isCommand_c line _ (by omega)).mono ?_
    rintro e _ ⟨rfl, rfl⟩
    rw [HC.out]
    have K5 := loadVarC (rangeAt_setCells_same _ (w.heap.size + 1) 0 (csC b d p n) (by rw [csC_len hb]; exact t1)) hb
    have K6 := below_cells (csC b d p n) _ (w.heap.size + 1) 0 HB1.out (by omega)
    go_wp2_with (first | (refine wpList_loadC rfl _ rfl _ rfl b d p n r1 hb ?_) | (refine wpList_storeC rfl _ _ rfl _ b d p n rfl rfl t1 hb ?_))
    exact bodyPost_ret (v := .tuple #[consV b d p n, .string (bs tBad)]) (res_cell2 Tryz.results13 rfl K5) rfl (HF.out _ K6)
  | true =>
   have HC := hid hc
   have hl160 := cmdB_len hc
   clear hc
   go_wp2_with fail
   refine (isCommand_c line _ (by omega)).mono ?_
   rintro e _ ⟨rfl, rfl⟩
   rw [HC.out]
   have r2 := r1
   have t2 := t1
   have HB2 := HB1
   have z2 := z1
   generalize w1 = w2 at *
   clear r1 t1 HB1 z1
   have l2 := csC_log r2 hb
   have hc21 : w2.cell? ⟨w.heap.size, 21, none⟩ = some (.int .i64 n) := l2 2 _ rfl
   by_cases hn : n = 60
   · as_aux_lemma =>
      have HF := hid (fun w' => exOut_mk (w := w) (w' := w') true ⟨fun _ => HOKT.out, fun _ => rfl⟩ (stepV_full HC.out (show (Cst.mk b d p n).n = 60 from hn)))
      have hne : (n == 60) = true := by rw [hn]; rfl
      clear hn
      have K5 := loadVarC (rangeAt_setCells_same _ (w.heap.size + 1) 0 (csC b d p n) (by rw [csC_len hb]; exact t2)) hb
      have K6 := below_cells (csC b d p n) _ (w.heap.size + 1) 0 HB2.out (by omega)
      go_wp2_with (first | (refine wpList_loadC rfl _ rfl _ rfl b d p n r2 hb ?_) | (refine wpList_storeC rfl _ _ rfl _ b d p n rfl rfl t2 hb ?_))
      exact bodyPost_ret (v := .tuple #[consV b d p n, .string (bs tFull)]) (res_cell2 Tryz.results13 rfl K5) rfl (HF.out _ K6)
   · as_aux_lemma =>
      have hne : (n == 60) = false := by simp [hn]
      obtain ⟨hg, es, hes⟩ := HOKT.out
      have hg : goodB b = true := hg
      have hes : ValidL d.data.toList p.data.toList n es := hes
      have hsm := sayM_rp hb hg line.data.toList
      have hXl := (execM_ok hb hg line.data.toList).1.1
      have HREC := hid (recB_of HC.out hsm)
      have HS : Hid (stepV true ⟨b, d, p, n⟩ line = (doneC ⟨b, d, p, n⟩ line, sayO (execM b line.data.toList).2)) := stepV_done HC.out hn
      have HDC : Hid (doneC ⟨b, d, p, n⟩ line = ⟨(execM b line.data.toList).1, d, p ++ bs (lineS n line.data.toList (sayO (execM b line.data.toList).2)), n + 1⟩) := rfl
      have HX := hid (fun W h => execute_c b line W hb hg hl160 h)
      unfold ExeI at HX
      have HSY : Hid (∀ t : ByteArray, (∀ s, (execM b line.data.toList).2 = some s → t = bs s) → (execM b line.data.toList).2.isSome = true → t = bs (sayO (execM b line.data.toList).2)) := fun t h1 h2 => by
       cases ho : (execM b line.data.toList).2 with
       | none => rw [ho] at h2; cases h2
       | some s => exact h1 s ho
      have HSN : Hid ((execM b line.data.toList).2.isSome = false → (execM b line.data.toList).1 = b ∧ sayO (execM b line.data.toList).2 = [63]) := fun h => by
       have h2 := (execM_ok hb hg line.data.toList).2.2
       cases ho : (execM b line.data.toList).2 with
       | none => rw [ho] at h2; exact ⟨h2 rfl, rfl⟩
       | some s => rw [ho] at h; cases h
      obtain ⟨X, hX⟩ : ∃ X, (execM b line.data.toList).1 = X := ⟨_, rfl⟩
      obtain ⟨T, hTT⟩ : ∃ T, sayO (execM b line.data.toList).2 = T := ⟨_, rfl⟩
      obtain ⟨so, hso⟩ : ∃ so, (execM b line.data.toList).2.isSome = so := ⟨_, rfl⟩
      rw [hX] at hXl HDC HX HSN
      rw [hTT] at hsm HREC HS HDC HSY HSN
      rw [hso] at HX HSY HSN
      have HAP : Hid (∀ W, TabC W → Calls Tryz.prog 55 #[logV d p n, recV line (bs T)] W fun e w' => e = .returned (.tuple #[logV d (p ++ bs (lineS n line.data.toList T)) (n + 1), .int .i64 0]) ∧ Below W.heap.size W w') := fun W h =>
       (AppendRecord_c d p n line (bs T) W hd hp hl (by rw [bs_size]; have := hsm.len; omega) h.pow).mono fun e w' ⟨ok2, he, hi, hbb⟩ => by
        have : ok2 = true := hi.2 ⟨es, hes⟩
        subst this
        rw [HREC.out, appV_yes hn, bs_list] at he
        exact ⟨he, hbb⟩
      obtain ⟨P, hP⟩ : ∃ P, p ++ bs (lineS n line.data.toList T) = P := ⟨_, rfl⟩
      rw [hP] at HAP HDC
      have HF := hid (fun w' => exOut_mk (w := w) (w' := w') true ⟨fun _ => HOKT.out, fun _ => rfl⟩ (by rw [HS.out, HDC.out]))
      have hbu := build_cons2 hXl d P (n + 1)
      have hX19 : (ints X).length = 19 := by simp [ints, hXl]
      have r2b := csC_bench r2 hb
      unfold logV recV at HAP
      unfold aggI at HX
      have hbs := build_small hXl
      unfold zCA at hbu hbs
      clear hX hTT hP HS HDC HREC hsm HOKT hes hg HC hn hso
      go_upto_region 7 with fail
      go_wp2_with (refine wpList_loadB rfl _ rfl _ rfl b r2b hb ?_)
      refine (HX.out _ (HT.out.on HB2.out)).mono ?_
      rintro e w3 ⟨t, rfl, hts, hb3⟩
      have HTS := hid (HSY.out t hts)
      have z3 := Nat.lt_of_lt_of_le z2 hb3.size
      cases so with
      | true =>
       as_aux_lemma =>
        have hte := HTS.out rfl
        subst hte
        have t3 := there_new w3 zBA 26 (n := 19) (by decide)
        have u3 := there_setCells (World.there_alloc (there_below t2 hb3) zB) w3.heap.size 0 (ints X)
        have r3 := World.rangeAt_setCells_apart (rangeAt_alloc (range_below r2 hb3) zB) w3.heap.size 0 (ints X) (.inl (by have := z3; omega))
        have c3 := rangeAt_setCells_same (w3.alloc zB) w3.heap.size 0 (ints X) (by rw [hX19]; exact t3)
        have HB3 := hid (below_cells (ints X) (w3.alloc zB) w3.heap.size 0 (Below.alc (Below.chain HB2.out hb3) zB) (by omega))
        clear r2 t2 hb3 HX r2b HB2 l2 hc21 hts HTS HSY HSN
        unfold zB zBA at *
        go_upto_region 10 with (refine wpList_storeB rfl _ _ rfl _ X rfl rfl t3 hXl ?_)
        clear t3
        generalize w3.heap.size = g6 at *
        generalize World.setCells _ _ _ _ = w4 at *
        have l4 := csC_log r3 hb
        have hl4a : w4.cell? ⟨w.heap.size, 19, none⟩ = some (.string d) := l4 0 _ rfl
        have hl4b : w4.cell? ⟨w.heap.size, 20, none⟩ = some (.string p) := l4 1 _ rfl
        have hl4c : w4.cell? ⟨w.heap.size, 21, none⟩ = some (.int .i64 n) := l4 2 _ rfl
        go_wp2_with (refine wpList_loadL rfl _ rfl _ _ rfl d p n l4 ?_)
        refine (HAP.out _ (HT.out.on (by have hb := HB3.out; (repeat (first | exact Below.refl _ _ | exact (Below.refl _ _).drew | assumption | exact below_one _ | refine Below.chain ?_ (by assumption) | refine Below.drew ?_ | refine Below.alc ?_ _ | refine below_drewN ?_ | (refine Below.setCell ?_ ?_ _) | exact Nat.le_refl _ | (simp; done) | (simp; omega)))))).mono ?_
        rintro e w5 ⟨rfl, hb5⟩
        have c5 := rangeAt_alloc (range_below c3 hb5) (.cells #[.string d, .string P, .int .i64 (n + 1)] 29)
        have u5 := World.there_alloc (there_below u3 hb5) (.cells #[.string d, .string P, .int .i64 (n + 1)] 29)
        have HB5 := hid (Below.alc (Below.chain HB3.out hb5) (.cells #[.string d, .string P, .int .i64 (n + 1)] 29))
        have K5 := loadVarC (rangeAt_setCells_same _ (w.heap.size + 1) 0 (csC X d P (n + 1)) (by rw [csC_len hXl]; exact u5)) hXl
        have K6 := below_cells (csC X d P (n + 1)) _ (w.heap.size + 1) 0 HB5.out (by omega)
        clear hl4a hl4b hl4c l4 hb5 HAP
        go_wp2_with (first | (refine wpList_loadB rfl _ rfl _ rfl X c5 hXl ?_) | (refine wpList_storeC rfl _ _ rfl _ X d P (n + 1) rfl rfl u5 hXl ?_))
        exact bodyPost_ret (v := .tuple #[consV X d P (n + 1), .string (bs T)]) (res_cell2 Tryz.results13 rfl K5) rfl (HF.out _ K6)
      | false =>
       as_aux_lemma =>
        obtain ⟨hXb, hTq⟩ := HSN.out rfl
        subst hXb hTq
        have t3 := there_new w3 zBA 26 (n := 19) (by decide)
        have u3 := there_setCells (World.there_alloc (there_below t2 hb3) zB) w3.heap.size 0 (ints X)
        have r3 := World.rangeAt_setCells_apart (rangeAt_alloc (range_below r2 hb3) zB) w3.heap.size 0 (ints X) (.inl (by have := z3; omega))
        have c3 := rangeAt_setCells_same (w3.alloc zB) w3.heap.size 0 (ints X) (by rw [hX19]; exact t3)
        have HB3 := hid (below_cells (ints X) (w3.alloc zB) w3.heap.size 0 (Below.alc (Below.chain HB2.out hb3) zB) (by omega))
        have u4 := there_setCells u3 w3.heap.size 0 (ints X)
        have r4 := World.rangeAt_setCells_apart r3 w3.heap.size 0 (ints X) (.inl (by have := z3; omega))
        have r3b := csC_bench r3 hb
        have t4 := there_setCells t3 w3.heap.size 0 (ints X)
        have c4 := rangeAt_setCells_same ((w3.alloc zB).setCells w3.heap.size 0 (ints X)) w3.heap.size 0 (ints X) (by rw [hX19]; exact t4)
        have HB4 := hid (below_cells (ints X) ((w3.alloc zB).setCells w3.heap.size 0 (ints X)) w3.heap.size 0 HB3.out (by omega))
        clear r2 t2 hb3 HX r2b HB2 l2 hc21 hts HTS HSY HSN u3 c3 HB3 r3
        unfold zB zBA at *
        go_upto_region 10 with (first | (refine wpList_storeB rfl _ _ rfl _ X rfl rfl t3 hXl ?_) | (refine wpList_loadB rfl _ rfl _ rfl X r3b hXl ?_) | (refine wpList_storeB rfl _ _ rfl _ X rfl rfl t4 hXl ?_))
        clear t3 t4 r3b
        generalize w3.heap.size = g6 at *
        generalize World.setCells _ _ _ _ = w4 at *
        have l4 := csC_log r4 hb
        have hl4a : w4.cell? ⟨w.heap.size, 19, none⟩ = some (.string d) := l4 0 _ rfl
        have hl4b : w4.cell? ⟨w.heap.size, 20, none⟩ = some (.string p) := l4 1 _ rfl
        have hl4c : w4.cell? ⟨w.heap.size, 21, none⟩ = some (.int .i64 n) := l4 2 _ rfl
        go_wp2_with (refine wpList_loadL rfl _ rfl _ _ rfl d p n l4 ?_)
        refine (HAP.out _ (HT.out.on (by have hb := HB4.out; (repeat (first | exact Below.refl _ _ | exact (Below.refl _ _).drew | assumption | exact below_one _ | refine Below.chain ?_ (by assumption) | refine Below.drew ?_ | refine Below.alc ?_ _ | refine below_drewN ?_ | (refine Below.setCell ?_ ?_ _) | exact Nat.le_refl _ | (simp; done) | (simp; omega)))))).mono ?_
        rintro e w5 ⟨rfl, hb5⟩
        have c5 := rangeAt_alloc (range_below c4 hb5) (.cells #[.string d, .string P, .int .i64 (n + 1)] 29)
        have u5 := World.there_alloc (there_below u4 hb5) (.cells #[.string d, .string P, .int .i64 (n + 1)] 29)
        have HB5 := hid (Below.alc (Below.chain HB4.out hb5) (.cells #[.string d, .string P, .int .i64 (n + 1)] 29))
        have K5 := loadVarC (rangeAt_setCells_same _ (w.heap.size + 1) 0 (csC X d P (n + 1)) (by rw [csC_len hXl]; exact u5)) hXl
        have K6 := below_cells (csC X d P (n + 1)) _ (w.heap.size + 1) 0 HB5.out (by omega)
        clear hl4a hl4b hl4c l4 hb5 HAP
        go_wp2_with (first | (refine wpList_loadB rfl _ rfl _ rfl X c5 hXl ?_) | (refine wpList_storeC rfl _ _ rfl _ X d P (n + 1) rfl rfl u5 hXl ?_))
        exact bodyPost_ret (v := .tuple #[consV X d P (n + 1), .string (bs [63])]) (res_cell2 Tryz.results13 rfl K5) rfl (HF.out _ K6)
def newC (b : List Int) : Cst := ⟨b, ⟨#[]⟩, ⟨#[]⟩, 0⟩
theorem newC_ok {b : List Int} (hg : goodB b = true) : (newC b).ok := ⟨hg, [], ⟨(show (0 : Nat) ≤ 30000 by omega), (fun e he => by cases he), (show (0 : Nat) ≤ 60 by omega), rfl, .inl rfl, rfl⟩⟩
theorem newC_rep {b : List Int} : Replays (newC b) (newC b) := ⟨[], ⟨(show (0 : Nat) ≤ 30000 by omega), (fun e he => by cases he), (show (0 : Nat) ≤ 60 by omega), rfl, .inl rfl, rfl⟩, rfl⟩
theorem box_far {w wa : World} {g t : Nat} {cs : Array Value} (h : Bk w g t cs) (hb : Below w.heap.size w wa) (zs : Array Value) (u : Nat) (vs : List Value) : Bk ((wa.alloc (.cells zs u)).setCells wa.heap.size 0 vs) g t cs :=
 ((h.below hb).alloc _).far vs 0 (by have := h.lt; have := hb.size; omega)
theorem below_box {w w1 wa : World} (h : Below w.heap.size w w1) (hb : Below w1.heap.size w1 wa) (zs : Array Value) (u : Nat) (vs : List Value) : Below w.heap.size w ((wa.alloc (.cells zs u)).setCells wa.heap.size 0 vs) :=
 below_cells vs _ _ 0 (Below.alc (Below.chain h hb) _) (Below.chain h hb).size
theorem Bk.putC {w : World} {g t : Nat} {b b2 : List Int} {d p d2 p2 : ByteArray} {n n2 : Int} (h : Bk w g t (csC b d p n).toArray) (hb : b.length = 19) (hb2 : b2.length = 19) : Bk (w.setCells g 0 (csC b2 d2 p2 n2)) g t (csC b2 d2 p2 n2).toArray := by
 have h2 := h.puts (csC b2 d2 p2 n2) 0
 have e := putA_list (csC b2 d2 p2 n2) (csC b d p n) [] (by rw [csC_len hb, csC_len hb2])
 simp only [List.nil_append, List.length_nil] at e
 rw [e] at h2
 exact h2
end Go.Proofs.YtohgjfdbnkjefaaGreatDoor
