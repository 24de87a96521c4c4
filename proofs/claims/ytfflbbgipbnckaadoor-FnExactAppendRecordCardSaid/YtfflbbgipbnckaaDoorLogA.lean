/- Walks on logs: AppendRecord, both texts. -/
import Derived.Test.YtfflbbgipbnckaaDoorLogM
import Derived.Deep.RegionHeld3
namespace Go.Proofs.YtfflbbgipbnckaaDoor
open Go.RowKit
set_option linter.unusedVariables false
set_option linter.unusedSimpArgs false
set_option maxRecDepth 100000
/-- what AppendRecord answers: by whether the log and the record are valid -/
def appV (okL okR : Bool) (d p : ByteArray) (n : Int) (c r : ByteArray) : Value × Int :=
  if okL && okR then (if n = 60 then (logV d p n, 2) else (logV d (p ++ bs (lineS n c.data.toList r.data.toList)) (n + 1), 0)) else (logV d p n, 1)
def AppOut (d p : ByteArray) (n : Int) (c r : ByteArray) (w : World) (e : Ending) (w' : World) : Prop :=
  ∃ ok, e = .returned (.tuple #[(appV ok (recB c r) d p n c r).1, .int .i64 (appV ok (recB c r) d p n c r).2]) ∧ (ok = true ↔ ∃ es, ValidL d.data.toList p.data.toList n es) ∧ Below w.heap.size w w'
theorem appV_no {ok okR : Bool} {d p : ByteArray} {n : Int} {c r : ByteArray} (h : (ok && okR) = false) : appV ok okR d p n c r = (logV d p n, 1) := by unfold appV; rw [h]; rfl
theorem appV_full {d p : ByteArray} {n : Int} {c r : ByteArray} (h : n = 60) : appV true true d p n c r = (logV d p n, 2) := by unfold appV; simp only [Bool.and_self, if_true]; rw [if_pos h]
theorem appV_yes {d p : ByteArray} {n : Int} {c r : ByteArray} (h : n ≠ 60) : appV true true d p n c r = (logV d (p ++ bs (lineS n c.data.toList r.data.toList)) (n + 1), 0) := by unfold appV; simp only [Bool.and_self, if_true]; rw [if_neg h]
theorem app_line {d p : ByteArray} {n : Int} {c r : ByteArray} {es : List (Bs × Bs)} (h : ValidL d.data.toList p.data.toList n es) (hn : n ≠ 60) (hr : recB c r = true) : 0 ≤ n ∧ n ≤ 59 ∧ inB n 0 59 = true ∧ (bs (lineS n c.data.toList r.data.toList)).size ≤ 454 := by
  have h1 := h.cnt
  have h2 := h.le
  have h3 : n ≤ 59 := by omega
  refine ⟨by omega, h3, inB_mk (by omega) h3, ?_⟩
  rw [bs_size, h1]
  have := lnS_len (k := es.length) (recB_iff.1 hr) (by omega)
  rw [lnS_def] at this; exact this
set_option maxHeartbeats 2000000 in
theorem AppendRecord_c (d p : ByteArray) (n : Int) (c r : ByteArray) (w : World) (hd : d.size ≤ 1048576) (hp : p.size ≤ 1048576) (hc : c.size ≤ 1048576) (hr : r.size ≤ 1048576) (ht : Tab w) : Calls Tryd.prog 27 #[logV d p n, recV c r] w (AppOut d p n c r w) := by
  have HV := Lib.hid (fun w => IsValidLog_c d p n w hd hp)
  have HRV := Lib.hid (IsValidRecord_c c r)
  have HEN := Lib.hid (fun w => EncodeRecord_c n c r w hc hr)
  have hbA := below_one (w := w) (.cells #[.string d, .string p, .int .i64 n] 31)
  have hbB := Below.alc hbA (.cells #[.string c, .string r] 27)
  have hb0 := Lib.hid (Below.alc hbB (.cells #[.string ⟨#[]⟩, .string ⟨#[]⟩, .int .i64 0] 31))
  have A0 := Lib.hid (((Bk.new w 31 #[.string d, .string p, .int .i64 n]).alloc (.cells #[.string c, .string r] 27)).alloc (.cells #[.string ⟨#[]⟩, .string ⟨#[]⟩, .int .i64 0] 31))
  have R0 := Bk.alloc (Bk.new (w.alloc (.cells #[.string d, .string p, .int .i64 n] 31)) 27 #[.string c, .string r]) (.cells #[.string ⟨#[]⟩, .string ⟨#[]⟩, .int .i64 0] 31)
  have Z0 := Bk.new ((w.alloc (.cells #[.string d, .string p, .int .i64 n] 31)).alloc (.cells #[.string c, .string r] 27)) 31 #[.string ⟨#[]⟩, .string ⟨#[]⟩, .int .i64 0]
  simp only [World.size_alloc] at R0 Z0
  have HR0 := Lib.hid R0
  have HZ0 := Lib.hid Z0
  have HT := Lib.hid ht
  clear ht hbA hbB R0 Z0
  unfold logV recV at *
  go_enter Tryd.func27, Tryd.ntmps27
  go_wp2_with fail
  refine (HV.out _ (HT.out.on hb0.out)).mono ?_
  rintro e w2 ⟨ok, rfl, hiff, hb2⟩
  have A2 := Lib.hid (A0.out.below hb2)
  have R2 := Lib.hid (HR0.out.below hb2)
  have Z2 := Lib.hid (HZ0.out.below hb2)
  have HBX := Lib.hid (Below.chain hb0.out hb2)
  have HI := Lib.hid hiff
  clear hb2 A0 HR0 HZ0 hb0 hiff HV
  have a0 : w2.cell? ⟨w.heap.size, 0, none⟩ = some (.string d) := A2.out.cell 0
  have a1 : w2.cell? ⟨w.heap.size, 1, none⟩ = some (.string p) := A2.out.cell 1
  have a2 : w2.cell? ⟨w.heap.size, 2, none⟩ = some (.int .i64 n) := A2.out.cell 2
  have r0 : w2.cell? ⟨w.heap.size + 1, 0, none⟩ = some (.string c) := R2.out.cell 0
  have r1 : w2.cell? ⟨w.heap.size + 1, 1, none⟩ = some (.string r) := R2.out.cell 1
  have z0 : w2.cell? ⟨w.heap.size + 1 + 1, 0, none⟩ = some (.string ⟨#[]⟩) := Z2.out.cell 0
  have z1 : w2.cell? ⟨w.heap.size + 1 + 1, 1, none⟩ = some (.string ⟨#[]⟩) := Z2.out.cell 1
  have z2 : w2.cell? ⟨w.heap.size + 1 + 1, 2, none⟩ = some (.int .i64 0) := Z2.out.cell 2
  have f0 : w2.frozen? ⟨w.heap.size + 1 + 1, 0, none⟩ = false := Z2.out.frozen 0
  have f1 : w2.frozen? ⟨w.heap.size + 1 + 1, 1, none⟩ = false := Z2.out.frozen 1
  have f2 : w2.frozen? ⟨w.heap.size + 1 + 1, 2, none⟩ = false := Z2.out.frozen 2
  have FIN : Hid (∀ X w', appV ok (recB c r) d p n c r = X → Below w.heap.size w w' → AppOut d p n c r w (.returned (.tuple #[X.1, .int .i64 X.2])) w') := fun X w' hX hb => by
    subst hX; exact ⟨ok, rfl, HI.out, hb⟩
  cases ok with
  | false =>
    have F := Lib.hid (fun w' => FIN.out _ w' (appV_no rfl))
    unfold logV at F
    clear FIN
    go_wp2
    exact bodyPost_ret (v := .tuple #[.agg #[.string d, .string p, .int .i64 n], .int .i64 1]) (by simp [results, Tryd.results27, go_sem, z0, z1, z2]) rfl (F.out _ (by have hb := HBX.out; exact ((hb.setCell (p := ⟨w.heap.size + 1 + 1, 0, none⟩) (by show w.heap.size ≤ w.heap.size + 1 + 1; omega) _).setCell (p := ⟨w.heap.size + 1 + 1, 1, none⟩) (by show w.heap.size ≤ w.heap.size + 1 + 1; omega) _).setCell (p := ⟨w.heap.size + 1 + 1, 2, none⟩) (by show w.heap.size ≤ w.heap.size + 1 + 1; omega) _))
  | true =>
    go_wp2_with fail
    refine (HRV.out _ (by omega) (by omega)).mono ?_
    rintro e w3 ⟨rfl, hb2⟩
    have A3 := Lib.hid (A2.out.below hb2)
    have R3 := Lib.hid (R2.out.below hb2)
    have Z3 := Lib.hid (Z2.out.below hb2)
    have HBX3 := Lib.hid (Below.chain HBX.out hb2)
    clear hb2 A2 R2 Z2 a0 a1 a2 r0 r1 z0 z1 z2 f0 f1 f2 HBX
    have a0 : w3.cell? ⟨w.heap.size, 0, none⟩ = some (.string d) := A3.out.cell 0
    have a1 : w3.cell? ⟨w.heap.size, 1, none⟩ = some (.string p) := A3.out.cell 1
    have a2 : w3.cell? ⟨w.heap.size, 2, none⟩ = some (.int .i64 n) := A3.out.cell 2
    have r0 : w3.cell? ⟨w.heap.size + 1, 0, none⟩ = some (.string c) := R3.out.cell 0
    have r1 : w3.cell? ⟨w.heap.size + 1, 1, none⟩ = some (.string r) := R3.out.cell 1
    have z0 : w3.cell? ⟨w.heap.size + 1 + 1, 0, none⟩ = some (.string ⟨#[]⟩) := Z3.out.cell 0
    have z1 : w3.cell? ⟨w.heap.size + 1 + 1, 1, none⟩ = some (.string ⟨#[]⟩) := Z3.out.cell 1
    have z2 : w3.cell? ⟨w.heap.size + 1 + 1, 2, none⟩ = some (.int .i64 0) := Z3.out.cell 2
    have f0 : w3.frozen? ⟨w.heap.size + 1 + 1, 0, none⟩ = false := Z3.out.frozen 0
    have f1 : w3.frozen? ⟨w.heap.size + 1 + 1, 1, none⟩ = false := Z3.out.frozen 1
    have f2 : w3.frozen? ⟨w.heap.size + 1 + 1, 2, none⟩ = false := Z3.out.frozen 2
    have HBX := HBX3
    clear HBX3
    rcases hrc : recB c r with _ | _
    · rw [hrc] at FIN
      have F := Lib.hid (fun w' => FIN.out _ w' (appV_no rfl))
      unfold logV at F
      clear FIN hrc
      go_wp2
      exact bodyPost_ret (v := .tuple #[.agg #[.string d, .string p, .int .i64 n], .int .i64 1]) (by simp [results, Tryd.results27, go_sem, z0, z1, z2]) rfl (F.out _ (by have hb := HBX.out; exact ((hb.setCell (p := ⟨w.heap.size + 1 + 1, 0, none⟩) (by show w.heap.size ≤ w.heap.size + 1 + 1; omega) _).setCell (p := ⟨w.heap.size + 1 + 1, 1, none⟩) (by show w.heap.size ≤ w.heap.size + 1 + 1; omega) _).setCell (p := ⟨w.heap.size + 1 + 1, 2, none⟩) (by show w.heap.size ≤ w.heap.size + 1 + 1; omega) _))
    · have HRC := Lib.hid hrc
      rw [hrc] at FIN
      clear hrc
      by_cases h60 : n = 60
      · have t60 : (n == 60) = true := by rw [h60]; rfl
        have F := Lib.hid (fun w' => FIN.out _ w' (appV_full h60))
        unfold logV at F
        clear FIN h60
        go_wp2
        exact bodyPost_ret (v := .tuple #[.agg #[.string d, .string p, .int .i64 n], .int .i64 2]) (by simp [results, Tryd.results27, go_sem, z0, z1, z2]) rfl (F.out _ (by have hb := HBX.out; exact ((hb.setCell (p := ⟨w.heap.size + 1 + 1, 0, none⟩) (by show w.heap.size ≤ w.heap.size + 1 + 1; omega) _).setCell (p := ⟨w.heap.size + 1 + 1, 1, none⟩) (by show w.heap.size ≤ w.heap.size + 1 + 1; omega) _).setCell (p := ⟨w.heap.size + 1 + 1, 2, none⟩) (by show w.heap.size ≤ w.heap.size + 1 + 1; omega) _))
      · have t60 : (n == 60) = false := by simp; exact h60
        have F := Lib.hid (fun w' => FIN.out _ w' (appV_yes h60))
        unfold logV at F
        obtain ⟨es, hes⟩ := HI.out.1 trivial
        obtain ⟨hn0, hn1, hin, hsz⟩ := app_line hes h60 HRC.out
        have HY := Lib.hid (encR_y hin HRC.out)
        clear FIN h60 hes hin
        go_wp2_with fail
        refine (HEN.out _ (HT.out.on HBX.out)).mono ?_
        rintro e w4 ⟨rfl, hb2⟩
        rw [HY.out]
        generalize bs (lineS n c.data.toList r.data.toList) = X at *
        have a0' := cell_later hb2 a0
        have a1' := cell_later hb2 a1
        have a2' := cell_later hb2 a2
        have Z4 := Lib.hid (Z3.out.below hb2)
        have HBX4 := Lib.hid (Below.chain HBX.out hb2)
        clear hb2 a0 a1 a2 r0 r1 z0 z1 z2 f0 f1 f2 HBX Z3 A3 R3
        have HBX := HBX4
        clear HBX4
        have z0 : w4.cell? ⟨w.heap.size + 1 + 1, 0, none⟩ = some (.string ⟨#[]⟩) := Z4.out.cell 0
        have z1 : w4.cell? ⟨w.heap.size + 1 + 1, 1, none⟩ = some (.string ⟨#[]⟩) := Z4.out.cell 1
        have z2 : w4.cell? ⟨w.heap.size + 1 + 1, 2, none⟩ = some (.int .i64 0) := Z4.out.cell 2
        have f0 : w4.frozen? ⟨w.heap.size + 1 + 1, 0, none⟩ = false := Z4.out.frozen 0
        have f1 : w4.frozen? ⟨w.heap.size + 1 + 1, 1, none⟩ = false := Z4.out.frozen 1
        have f2 : w4.frozen? ⟨w.heap.size + 1 + 1, 2, none⟩ = false := Z4.out.frozen 2
        go_wp2
        exact bodyPost_ret (v := .tuple #[.agg #[.string d, .string (p ++ X), .int .i64 (n + 1)], .int .i64 0]) (by simp [results, Tryd.results27, go_sem, z0, z1, z2]) rfl (F.out _ (by have hb := HBX.out; exact ((hb.setCell (p := ⟨w.heap.size + 1 + 1, 0, none⟩) (by show w.heap.size ≤ w.heap.size + 1 + 1; omega) _).setCell (p := ⟨w.heap.size + 1 + 1, 1, none⟩) (by show w.heap.size ≤ w.heap.size + 1 + 1; omega) _).setCell (p := ⟨w.heap.size + 1 + 1, 2, none⟩) (by show w.heap.size ≤ w.heap.size + 1 + 1; omega) _))
end Go.Proofs.YtfflbbgipbnckaaDoor
