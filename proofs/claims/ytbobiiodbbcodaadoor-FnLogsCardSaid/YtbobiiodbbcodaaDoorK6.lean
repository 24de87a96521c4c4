/- Texts of this claim, gathered: LogA, Crash, Lgp, HelpR, Vrec, Lgq, Lgr, All, Faults, Draw. -/
import Derived.Test.YtbobiiodbbcodaaDoorK5
import Derived.Deep.RegionHeld3
import Derived.Lib.ConvBytes
import Derived.Lib.SmallJoins
import Derived.Laws.IdiomStrings
import Derived.Laws.StructEq
namespace Go.Proofs.YtbobiiodbbcodaaDoor
open Go.RowKit
set_option linter.unusedVariables false
set_option linter.unusedSimpArgs false
set_option maxRecDepth 100000
/-- what AppendRecord answers: by whether the log and the record are valid -/
def appV (okL okR : Bool) (d p : ByteArray) (n : Int) (c r : ByteArray) : Value × Int :=
  if okL && okR then (if n = 60 then (logV d p n, 2) else (logV d (p ++ bs (lineS n c.data.toList r.data.toList)) (n + 1), 0)) else (logV d p n, 1)
def AppOut (d p : ByteArray) (n : Int) (c r : ByteArray) (w : World) (e : Ending) (w' : World) : Prop :=
  ∃ ok, e = .returned (.tuple #[(appV ok (recB c r) d p n c r).1, .int .i64 (appV ok (recB c r) d p n c r).2]) ∧ (ok = true ↔ ∃ es, ValidL d.data.toList p.data.toList n es) ∧ Below w.heap.size w w'
theorem appV_no {ok okR : Bool} {d p : ByteArray} {n : Int} {c r : ByteArray} (h : (ok && okR) = false) : appV ok okR d p n c r = (logV d p n, 1) := by unfold appV; rw [h]; rfl
theorem appV_full {d p : ByteArray} {n : Int} {c r : ByteArray} (h : n = 60) : appV true true d p n c r = (logV d p n, 2) := by unfold appV; simp only [Bool.and_self, if_true]; rw [if_pos h]
theorem appV_yes {d p : ByteArray} {n : Int} {c r : ByteArray} (h : n ≠ 60) : appV true true d p n c r = (logV d (p ++ bs (lineS n c.data.toList r.data.toList)) (n + 1), 0) := by unfold appV; simp only [Bool.and_self, if_true]; rw [if_neg h]
theorem app_line {d p : ByteArray} {n : Int} {c r : ByteArray} {es : List (Bs × Bs)} (h : ValidL d.data.toList p.data.toList n es) (hn : n ≠ 60) (hr : recB c r = true) : 0 ≤ n ∧ n ≤ 59 ∧ inB n 0 59 = true ∧ (bs (lineS n c.data.toList r.data.toList)).size ≤ 454 := by
  have h1 := h.cnt
  have h2 := h.le
  have h3 : n ≤ 59 := by omega
  refine ⟨by omega, h3, inB_mk (by omega) h3, ?_⟩
  rw [bs_size, h1]
  have := lnS_len (k := es.length) (recB_iff.1 hr) (by omega)
  rw [lnS_def] at this; exact this
set_option maxHeartbeats 2000000 in
theorem AppendRecord_c (d p : ByteArray) (n : Int) (c r : ByteArray) (w : World) (hd : d.size ≤ 1048576) (hp : p.size ≤ 1048576) (hc : c.size ≤ 1048576) (hr : r.size ≤ 1048576) (ht : Tab w) : Calls Tryd.prog 13 #[logV d p n, recV c r] w (AppOut d p n c r w) := by
  have HV := Lib.hid (fun w => IsValidLog_c d p n w hd hp)
  have HRV := Lib.hid (IsValidRecord_c c r)
  have HEN := Lib.hid (fun w => EncodeRecord_c n c r w hc hr)
  have hbA := below_one (w := w) (.cells #[.string d, .string p, .int .i64 n] 33)
  have hbB := Below.alc hbA (.cells #[.string c, .string r] 25)
  have hb0 := Lib.hid (Below.alc hbB (.cells #[.string ⟨#[]⟩, .string ⟨#[]⟩, .int .i64 0] 33))
  have A0 := Lib.hid (((Bk.new w 33 #[.string d, .string p, .int .i64 n]).alloc (.cells #[.string c, .string r] 25)).alloc (.cells #[.string ⟨#[]⟩, .string ⟨#[]⟩, .int .i64 0] 33))
  have R0 := Bk.alloc (Bk.new (w.alloc (.cells #[.string d, .string p, .int .i64 n] 33)) 25 #[.string c, .string r]) (.cells #[.string ⟨#[]⟩, .string ⟨#[]⟩, .int .i64 0] 33)
  have Z0 := Bk.new ((w.alloc (.cells #[.string d, .string p, .int .i64 n] 33)).alloc (.cells #[.string c, .string r] 25)) 33 #[.string ⟨#[]⟩, .string ⟨#[]⟩, .int .i64 0]
  simp only [World.size_alloc] at R0 Z0
  have HR0 := Lib.hid R0
  have HZ0 := Lib.hid Z0
  have HT := Lib.hid ht
  clear ht hbA hbB R0 Z0
  unfold logV recV at *
  go_enter Tryd.func13, Tryd.ntmps13
  go_wp2_with fail
  refine (HV.out _ (HT.out.on hb0.out)).mono ?_
  rintro e w2 ⟨ok, rfl, hiff, hb2⟩
  have A2 := Lib.hid (A0.out.below hb2)
  have R2 := Lib.hid (HR0.out.below hb2)
  have Z2 := Lib.hid (HZ0.out.below hb2)
  have HBX := Lib.hid (Below.chain hb0.out hb2)
  have HI := Lib.hid hiff
  clear hb2 A0 HR0 HZ0 hb0 hiff HV
  have a0 : w2.cell? ⟨w.heap.size, 0, none⟩ = some (.string d) := A2.out.cell 0
  have a1 : w2.cell? ⟨w.heap.size, 1, none⟩ = some (.string p) := A2.out.cell 1
  have a2 : w2.cell? ⟨w.heap.size, 2, none⟩ = some (.int .i64 n) := A2.out.cell 2
  have r0 : w2.cell? ⟨w.heap.size + 1, 0, none⟩ = some (.string c) := R2.out.cell 0
  have r1 : w2.cell? ⟨w.heap.size + 1, 1, none⟩ = some (.string r) := R2.out.cell 1
  have z0 : w2.cell? ⟨w.heap.size + 1 + 1, 0, none⟩ = some (.string ⟨#[]⟩) := Z2.out.cell 0
  have z1 : w2.cell? ⟨w.heap.size + 1 + 1, 1, none⟩ = some (.string ⟨#[]⟩) := Z2.out.cell 1
  have z2 : w2.cell? ⟨w.heap.size + 1 + 1, 2, none⟩ = some (.int .i64 0) := Z2.out.cell 2
  have f0 : w2.frozen? ⟨w.heap.size + 1 + 1, 0, none⟩ = false := Z2.out.frozen 0
  have f1 : w2.frozen? ⟨w.heap.size + 1 + 1, 1, none⟩ = false := Z2.out.frozen 1
  have f2 : w2.frozen? ⟨w.heap.size + 1 + 1, 2, none⟩ = false := Z2.out.frozen 2
  have FIN : Hid (∀ X w', appV ok (recB c r) d p n c r = X → Below w.heap.size w w' → AppOut d p n c r w (.returned (.tuple #[X.1, .int .i64 X.2])) w') := fun X w' hX hb => by
    subst hX; exact ⟨ok, rfl, HI.out, hb⟩
  cases ok with
  | false =>
    have F := Lib.hid (fun w' => FIN.out _ w' (appV_no rfl))
    unfold logV at F
    clear FIN
    go_wp2
    exact bodyPost_ret (v := .tuple #[.agg #[.string d, .string p, .int .i64 n], .int .i64 1]) (by simp [results, Tryd.results13, go_sem, z0, z1, z2]) rfl (F.out _ (by have hb := HBX.out; exact ((hb.setCell (p := ⟨w.heap.size + 1 + 1, 0, none⟩) (by show w.heap.size ≤ w.heap.size + 1 + 1; omega) _).setCell (p := ⟨w.heap.size + 1 + 1, 1, none⟩) (by show w.heap.size ≤ w.heap.size + 1 + 1; omega) _).setCell (p := ⟨w.heap.size + 1 + 1, 2, none⟩) (by show w.heap.size ≤ w.heap.size + 1 + 1; omega) _))
  | true =>
    go_wp2_with fail
    refine (HRV.out _ (by omega) (by omega)).mono ?_
    rintro e w3 ⟨rfl, hb2⟩
    have A3 := Lib.hid (A2.out.below hb2)
    have R3 := Lib.hid (R2.out.below hb2)
    have Z3 := Lib.hid (Z2.out.below hb2)
    have HBX3 := Lib.hid (Below.chain HBX.out hb2)
    clear hb2 A2 R2 Z2 a0 a1 a2 r0 r1 z0 z1 z2 f0 f1 f2 HBX
    have a0 : w3.cell? ⟨w.heap.size, 0, none⟩ = some (.string d) := A3.out.cell 0
    have a1 : w3.cell? ⟨w.heap.size, 1, none⟩ = some (.string p) := A3.out.cell 1
    have a2 : w3.cell? ⟨w.heap.size, 2, none⟩ = some (.int .i64 n) := A3.out.cell 2
    have r0 : w3.cell? ⟨w.heap.size + 1, 0, none⟩ = some (.string c) := R3.out.cell 0
    have r1 : w3.cell? ⟨w.heap.size + 1, 1, none⟩ = some (.string r) := R3.out.cell 1
    have z0 : w3.cell? ⟨w.heap.size + 1 + 1, 0, none⟩ = some (.string ⟨#[]⟩) := Z3.out.cell 0
    have z1 : w3.cell? ⟨w.heap.size + 1 + 1, 1, none⟩ = some (.string ⟨#[]⟩) := Z3.out.cell 1
    have z2 : w3.cell? ⟨w.heap.size + 1 + 1, 2, none⟩ = some (.int .i64 0) := Z3.out.cell 2
    have f0 : w3.frozen? ⟨w.heap.size + 1 + 1, 0, none⟩ = false := Z3.out.frozen 0
    have f1 : w3.frozen? ⟨w.heap.size + 1 + 1, 1, none⟩ = false := Z3.out.frozen 1
    have f2 : w3.frozen? ⟨w.heap.size + 1 + 1, 2, none⟩ = false := Z3.out.frozen 2
    have HBX := HBX3
    clear HBX3
    rcases hrc : recB c r with _ | _
    · rw [hrc] at FIN
      have F := Lib.hid (fun w' => FIN.out _ w' (appV_no rfl))
      unfold logV at F
      clear FIN hrc
      go_wp2
      exact bodyPost_ret (v := .tuple #[.agg #[.string d, .string p, .int .i64 n], .int .i64 1]) (by simp [results, Tryd.results13, go_sem, z0, z1, z2]) rfl (F.out _ (by have hb := HBX.out; exact ((hb.setCell (p := ⟨w.heap.size + 1 + 1, 0, none⟩) (by show w.heap.size ≤ w.heap.size + 1 + 1; omega) _).setCell (p := ⟨w.heap.size + 1 + 1, 1, none⟩) (by show w.heap.size ≤ w.heap.size + 1 + 1; omega) _).setCell (p := ⟨w.heap.size + 1 + 1, 2, none⟩) (by show w.heap.size ≤ w.heap.size + 1 + 1; omega) _))
    · have HRC := Lib.hid hrc
      rw [hrc] at FIN
      clear hrc
      by_cases h60 : n = 60
      · have t60 : (n == 60) = true := by rw [h60]; rfl
        have F := Lib.hid (fun w' => FIN.out _ w' (appV_full h60))
        unfold logV at F
        clear FIN h60
        go_wp2
        exact bodyPost_ret (v := .tuple #[.agg #[.string d, .string p, .int .i64 n], .int .i64 2]) (by simp [results, Tryd.results13, go_sem, z0, z1, z2]) rfl (F.out _ (by have hb := HBX.out; exact ((hb.setCell (p := ⟨w.heap.size + 1 + 1, 0, none⟩) (by show w.heap.size ≤ w.heap.size + 1 + 1; omega) _).setCell (p := ⟨w.heap.size + 1 + 1, 1, none⟩) (by show w.heap.size ≤ w.heap.size + 1 + 1; omega) _).setCell (p := ⟨w.heap.size + 1 + 1, 2, none⟩) (by show w.heap.size ≤ w.heap.size + 1 + 1; omega) _))
      · have t60 : (n == 60) = false := by simp; exact h60
        have F := Lib.hid (fun w' => FIN.out _ w' (appV_yes h60))
        unfold logV at F
        obtain ⟨es, hes⟩ := HI.out.1 trivial
        obtain ⟨hn0, hn1, hin, hsz⟩ := app_line hes h60 HRC.out
        have HY := Lib.hid (encR_y hin HRC.out)
        clear FIN h60 hes hin
        go_wp2_with fail
        refine (HEN.out _ (HT.out.on HBX.out)).mono ?_
        rintro e w4 ⟨rfl, hb2⟩
        rw [HY.out]
        generalize bs (lineS n c.data.toList r.data.toList) = X at *
        have a0' := cell_later hb2 a0
        have a1' := cell_later hb2 a1
        have a2' := cell_later hb2 a2
        have Z4 := Lib.hid (Z3.out.below hb2)
        have HBX4 := Lib.hid (Below.chain HBX.out hb2)
        clear hb2 a0 a1 a2 r0 r1 z0 z1 z2 f0 f1 f2 HBX Z3 A3 R3
        have HBX := HBX4
        clear HBX4
        have z0 : w4.cell? ⟨w.heap.size + 1 + 1, 0, none⟩ = some (.string ⟨#[]⟩) := Z4.out.cell 0
        have z1 : w4.cell? ⟨w.heap.size + 1 + 1, 1, none⟩ = some (.string ⟨#[]⟩) := Z4.out.cell 1
        have z2 : w4.cell? ⟨w.heap.size + 1 + 1, 2, none⟩ = some (.int .i64 0) := Z4.out.cell 2
        have f0 : w4.frozen? ⟨w.heap.size + 1 + 1, 0, none⟩ = false := Z4.out.frozen 0
        have f1 : w4.frozen? ⟨w.heap.size + 1 + 1, 1, none⟩ = false := Z4.out.frozen 1
        have f2 : w4.frozen? ⟨w.heap.size + 1 + 1, 2, none⟩ = false := Z4.out.frozen 2
        go_wp2
        exact bodyPost_ret (v := .tuple #[.agg #[.string d, .string (p ++ X), .int .i64 (n + 1)], .int .i64 0]) (by simp [results, Tryd.results13, go_sem, z0, z1, z2]) rfl (F.out _ (by have hb := HBX.out; exact ((hb.setCell (p := ⟨w.heap.size + 1 + 1, 0, none⟩) (by show w.heap.size ≤ w.heap.size + 1 + 1; omega) _).setCell (p := ⟨w.heap.size + 1 + 1, 1, none⟩) (by show w.heap.size ≤ w.heap.size + 1 + 1; omega) _).setCell (p := ⟨w.heap.size + 1 + 1, 2, none⟩) (by show w.heap.size ≤ w.heap.size + 1 + 1; omega) _))
end Go.Proofs.YtbobiiodbbcodaaDoor
namespace Go.Proofs.YtbobiiodbbcodaaDoor
open Go.RowKit
set_option linter.unusedVariables false
set_option linter.unusedSimpArgs false
set_option maxRecDepth 100000
/-- the last byte turned -/
def tornB (l : Bs) : Bs := l.set (l.length - 1) (255 - l.getD (l.length - 1) 0)
theorem tornB_len (l : Bs) : (tornB l).length = l.length := by simp [tornB]
theorem tornB_append (a b : Bs) (h : b ≠ []) : tornB (a ++ b) = a ++ tornB b := by
  have hb : 0 < b.length := List.length_pos_iff.2 h
  unfold tornB
  rw [List.length_append, show a.length + b.length - 1 = a.length + (b.length - 1) by omega, List.set_append_right _ _ (by omega)]
  congr 2
  · omega
  · congr 1
    simp [List.getD, List.getElem?_append_right]
theorem tornB_at {l : Bs} {j : Nat} (hj : j < l.length) (h : j ≠ l.length - 1) : (tornB l).getD j 0 = l.getD j 0 := by
  unfold tornB
  simp only [List.getD]
  rw [List.getElem?_set_ne (by omega)]
theorem tornB_last {l : Bs} (hl : 0 < l.length) : (tornB l).getD (l.length - 1) 0 = 255 - l.getD (l.length - 1) 0 := by
  unfold tornB
  simp only [List.getD]
  rw [List.getElem?_set_self (by omega)]
  rfl
theorem u8_neg (c : UInt8) : (((255 - c : UInt8)).toNat : Int) = 255 - (c.toNat : Int) := by
  have h := c.toNat_lt
  have : (255 - c : UInt8).toNat = 255 - c.toNat := by
    rw [UInt8.toNat_sub_of_le]
    · rfl
    · rw [UInt8.le_iff_toNat_le]; show c.toNat ≤ 255; omega
  rw [this]; omega
/-- what is known of a row of bytes that a conversion has made -/
def ByRow (w : World) (g : Nat) (l : Bs) : Prop := ∀ j, j < l.length → w.cell? ⟨g, j, none⟩ = some (.int .u8 ((l.getD j 0).toNat : Int))
theorem ByRow.back {P : Program} {w : World} {g : Nat} {l : Bs} (h : ByRow w g l) (src dst e : TypeId) (cap : Nat) (hs : P.underlying src = some (.slice e)) (he : P.underlying e = some (.int .u8)) (hd : P.underlying dst = some .string) :
    (convert src dst (.slice (some ⟨g, 0, none⟩) l.length cap)).run P w = .ok (.string (bs l)) w :=
  run_convert_bytes_back w src dst e ⟨g, 0, none⟩ cap l hs he hd (fun j hj => by
    rw [show Addr.add ⟨g, 0, none⟩ j = ⟨g, j, none⟩ by rw [Addr.add_lit]; simp]
    rw [h j hj]
    simp [List.getD, List.getElem?_eq_getElem hj])
theorem byRow_new (w : World) (e : TypeId) (s : ByteArray) : ByRow (Lib.bytesWorld w e s) w.heap.size s.data.toList := fun j hj => Lib.bytesWorld_cell w e s j (by simpa using hj)
theorem bytes_frozen (w : World) (e : TypeId) (s : ByteArray) (j : Nat) (hj : j < s.size) : (Lib.bytesWorld w e s).frozen? ⟨w.heap.size, j, none⟩ = false := by
  unfold World.frozen?
  simp [Lib.bytesWorld_at_new, Lib.bytesCells]
  omega
theorem ByRow.torn {w : World} {g : Nat} {l : Bs} (h : ByRow w g l) (m : Nat) (hm : l.length = m + 1) : ByRow (w.setCell ⟨g, m, none⟩ (.int .u8 (255 - ((l.getD m 0).toNat : Int)))) g (tornB l) := by
  intro j hj
  rw [tornB_len] at hj
  by_cases hjm : j = m
  · subst hjm
    have hx := h j (by omega)
    rw [World.cell?_setCell_same _ _ _ hx]
    have := tornB_last (l := l) (by omega)
    rw [show l.length - 1 = j by omega] at this
    rw [this, u8_neg]
  · rw [World.cell?_setCell_other _ _ _ _ (by intro hh; injection hh with h1 h2; omega)]
    rw [h j hj, tornB_at hj (by omega)]
/-- the bytes behind a crash -/
def crashB (p : Bs) (k : Nat) (torn : Bool) : Bs := if torn && decide (0 < k) then tornB (p.take k) else p.take k
def crashT (d p : ByteArray) (k : Nat) (torn : Bool) : ByteArray := bs (d.data.toList ++ crashB p.data.toList k torn)
def CrashOut (d p : ByteArray) (n keep : Int) (torn : Bool) (w : World) (e : Ending) (w' : World) : Prop :=
  ∃ ok, e = .returned (.tuple #[.string (if ok then crashT d p keep.toNat torn else ⟨#[]⟩), .bool ok]) ∧ (ok = true ↔ (∃ es, ValidL d.data.toList p.data.toList n es) ∧ 0 ≤ keep ∧ keep ≤ p.size) ∧ Below w.heap.size w w'
theorem ext_list (p : ByteArray) (k : Nat) : (p.extract 0 k).data.toList = p.data.toList.take k := by simp
set_option maxHeartbeats 1000000 in
theorem CrashLogS_c (d p : ByteArray) (n keep : Int) (torn : Bool) (w : World) (hd : d.size ≤ 1048576) (hp : p.size ≤ 1048576) : Calls Tryd.prog 26 #[logV d p n, .int .i64 keep, .bool torn] w (CrashOut d p n keep torn w) := by
  have HR := Lib.hid (fun w => l12Valid_c d p n w hd hp)
  unfold logV at *
  have hb0 := Lib.hid (below_one (w := w) (.cells #[.string d, .string p, .int .i64 n] 33))
  have B0 := Lib.hid (Bk.new w 33 #[.string d, .string p, .int .i64 n])
  go_enter Tryd.func26, Tryd.ntmps26
  go_wp2_with fail
  refine (HR.out _).mono ?_
  rintro e w2 ⟨ok, rfl, hiff, hb2⟩
  have B2 := B0.out.below hb2
  have hB := Lib.hid (Below.chain hb0.out hb2)
  have q0 : w2.cell? ⟨w.heap.size, 0, none⟩ = some (.string d) := B2.cell 0
  have q1 : w2.cell? ⟨w.heap.size, 1, none⟩ = some (.string p) := B2.cell 1
  clear hb2 B2
  cases ok with
  | false =>
    have HF := Lib.hid hiff
    clear hiff
    go_wp2
    exact bodyPost_ret (v := .tuple #[.string ⟨#[]⟩, .bool false]) (by simp [results, Tryd.results26, go_sem]) rfl ⟨false, rfl, ⟨(fun h => by cases h), fun h => HF.out.2 h.1⟩, hB.out⟩
  | true =>
    have HF := Lib.hid (hiff.1 rfl)
    clear hiff
    by_cases hin : 0 ≤ keep ∧ keep ≤ p.size
    · obtain ⟨k, rfl⟩ := Int.eq_ofNat_of_zero_le hin.1
      have hk : k ≤ p.size := by omega
      clear hin
      have hqs : (p.extract 0 k).size = k := by simp; omega
      have hcv := Lib.run_convert_string_bytes (P := Tryd.prog) w2 9 22 5 (p.extract 0 k) Tryd.underlying9 Tryd.underlying22 Tryd.underlying5
      have hrow := byRow_new w2 5 (p.extract 0 k)
      have hfz := bytes_frozen w2 5 (p.extract 0 k)
      have hbw := Go.Joins.below_bytesWorld w.heap.size w2 5 (p.extract 0 k) hB.out.size
      have hb3 := Go.Joins.below_bytesWorld w2.heap.size w2 5 (p.extract 0 k) (Nat.le_refl _)
      have r0 := cell_later hb3 q0
      have r1 := cell_later hb3 q1
      have hszw : (Lib.bytesWorld w2 5 (p.extract 0 k)).heap.size = w2.heap.size + 1 := Lib.bytesWorld_size _ _ _
      rw [ext_list] at hrow
      rw [hqs] at hcv hfz
      obtain ⟨wb, hwb⟩ : ∃ wb, wb = Lib.bytesWorld w2 5 (p.extract 0 k) := ⟨_, rfl⟩
      rw [← hwb] at hcv hrow hfz hbw hb3 r0 r1 hszw
      have HROW := Lib.hid hrow
      have HFZ := Lib.hid hfz
      have HB := Lib.hid (Below.trans hB.out hbw)
      have HL : Hid ((p.data.toList.take k).length = k) := by show _ = _; simp; omega
      generalize grownCap w2 k 0 5 = cap at *
      clear hrow hfz hbw hb3 hwb hqs
      have hin : inB (k : Int) 0 (p.size : Int) = true := by simp [inB]; omega
      obtain ⟨t, ht⟩ : ∃ t, t = bs (crashB p.data.toList k torn) := ⟨_, rfl⟩
      have HT := Lib.hid ht
      have FIN : Hid (∀ w', Below w.heap.size w w' → CrashOut d p n (k : Int) torn w (.returned (.tuple #[.string (d ++ t), .bool true])) w') := fun w' hb => ⟨true, by rw [ht, if_pos rfl, crashT, ← bs_append, bs_of]; rfl, ⟨fun _ => ⟨HF.out, by omega, by omega⟩, fun _ => rfl⟩, hb⟩
      have hts : t.size = k := by rw [ht, bs_size]; unfold crashB; split <;> simp [tornB_len] <;> omega
      clear ht
      go_wp2_with fail
      refine (l1In_c _ _ _ _).mono ?_
      rintro e w3 ⟨rfl, rfl⟩
      rw [hin]
      clear hin
      by_cases hto : torn = true ∧ 0 < k
      · obtain ⟨rfl, hk0⟩ := hto
        obtain ⟨m, rfl⟩ : ∃ m, k = m + 1 := ⟨k - 1, by omega⟩
        have hE : t = bs (tornB (p.data.toList.take (m + 1))) := by rw [HT.out, crashB, if_pos (by rw [Bool.true_and]; exact decide_eq_true hk0)]
        have hc := HROW.out m (by have := HL.out; omega)
        have hbk := (HROW.out.torn m HL.out).back (P := Tryd.prog) 22 9 5 cap Tryd.underlying22 Tryd.underlying5 Tryd.underlying9
        rw [tornB_len, HL.out, ← hE] at hbk
        have hz := HFZ.out m (Nat.lt_succ_self m)
        have h255 : ((List.take (m + 1) p.data.toList).getD m 0).toNat < 256 := UInt8.toNat_lt _
        generalize ((List.take (m + 1) p.data.toList).getD m 0).toNat = c at *
        have hlt : w.heap.size < w2.heap.size := World.block_lt_of_cell? _ _ q0
        have s0 : (wb.setCell ⟨w2.heap.size, m, none⟩ (.int .u8 (255 - (c : Int)))).cell? ⟨w.heap.size, 0, none⟩ = some (.string d) := by
          rw [World.cell?_setCell_other _ _ _ _ (by intro hh; injection hh with h1 h2; omega)]; exact r0
        clear hE
        go_wp2
        exact bodyPost_ret (v := .tuple #[.string (d ++ t), .bool true]) (by simp [results, Tryd.results26, go_sem]) rfl (FIN.out _ (HB.out.setCell (p := ⟨w2.heap.size, m, none⟩) hB.out.size _))
      · have hE : t = bs (p.data.toList.take k) := by
          rw [HT.out, crashB]
          cases torn with
          | false => rfl
          | true => rw [if_neg (by simp at hto ⊢; omega)]
        have hbk := HROW.out.back (P := Tryd.prog) 22 9 5 cap Tryd.underlying22 Tryd.underlying5 Tryd.underlying9
        rw [HL.out, ← hE] at hbk
        clear hE
        cases torn with
        | false =>
          go_wp2
          exact bodyPost_ret (v := .tuple #[.string (d ++ t), .bool true]) (by simp [results, Tryd.results26, go_sem]) rfl (FIN.out _ HB.out)
        | true =>
          have hd0 : ¬ 0 < k := by simpa using hto
          clear hto
          go_wp2
          exact bodyPost_ret (v := .tuple #[.string (d ++ t), .bool true]) (by simp [results, Tryd.results26, go_sem]) rfl (FIN.out _ HB.out)
    · have hin' : inB keep 0 (p.size : Int) = false := by simp [inB]; omega
      have HI := Lib.hid hin
      clear hin
      go_wp2_with fail
      refine (l1In_c _ _ _ _).mono ?_
      rintro e w3 ⟨rfl, rfl⟩
      rw [hin']
      clear hin'
      go_wp2
      exact bodyPost_ret (v := .tuple #[.string ⟨#[]⟩, .bool false]) (by simp [results, Tryd.results26, go_sem]) rfl ⟨false, rfl, ⟨(fun h => by cases h), fun h => (HI.out h.2).elim⟩, hB.out⟩
set_option maxHeartbeats 1000000 in
theorem CrashLog_c (d p : ByteArray) (n keep : Int) (torn : Bool) (w : World) (hd : d.size ≤ 1048576) (hp : p.size ≤ 1048576) (ht : Tab w) : Calls Tryd.prog 25 #[logV d p n, .int .i64 keep, .bool torn] w (CrashOut d p n keep torn w) := by
  have HR := Lib.hid (fun w => IsValidLog_c d p n w hd hp)
  have HT := Lib.hid ht
  clear ht
  unfold logV at *
  have hb0 := Lib.hid (below_one (w := w) (.cells #[.string d, .string p, .int .i64 n] 33))
  have B0 := Lib.hid (Bk.new w 33 #[.string d, .string p, .int .i64 n])
  go_enter Tryd.func25, Tryd.ntmps25
  go_wp2_with fail
  refine (HR.out _ (HT.out.on hb0.out)).mono ?_
  rintro e w2 ⟨ok, rfl, hiff, hb2⟩
  have B2 := B0.out.below hb2
  have hB := Lib.hid (Below.chain hb0.out hb2)
  have q0 : w2.cell? ⟨w.heap.size, 0, none⟩ = some (.string d) := B2.cell 0
  have q1 : w2.cell? ⟨w.heap.size, 1, none⟩ = some (.string p) := B2.cell 1
  clear hb2 B2 HT
  cases ok with
  | false =>
    have HF := Lib.hid hiff
    clear hiff
    go_wp2
    exact bodyPost_ret (v := .tuple #[.string ⟨#[]⟩, .bool false]) (by simp [results, Tryd.results25, go_sem]) rfl ⟨false, rfl, ⟨(fun h => by cases h), fun h => HF.out.2 h.1⟩, hB.out⟩
  | true =>
    have HF := Lib.hid (hiff.1 rfl)
    clear hiff
    by_cases hin : 0 ≤ keep ∧ keep ≤ p.size
    · obtain ⟨k, rfl⟩ := Int.eq_ofNat_of_zero_le hin.1
      have hk : k ≤ p.size := by omega
      clear hin
      have hin : inB (k : Int) 0 (p.size : Int) = true := by simp [inB]; omega
      go_wp2_with fail
      refine (within_c _ _ _ _).mono ?_
      rintro e w3 ⟨rfl, rfl⟩
      rw [hin]
      clear hin
      go_upto_region 9 with fail
      have hs1 : ¬ 9223372036854775807 < d.size + min k p.size := by omega
      have hcv := fun W => Lib.run_convert_string_bytes (P := Tryd.prog) W 9 22 5 (d ++ p.extract 0 k) Tryd.underlying9 Tryd.underlying22 Tryd.underlying5
      rw [show (d ++ p.extract 0 k).size = d.size + k by simp; omega] at hcv
      go_region
      have hrow := byRow_new w2.drew 5 (d ++ p.extract 0 k)
      have hfz := bytes_frozen w2.drew 5 (d ++ p.extract 0 k)
      have hbw := Go.Joins.below_bytesWorld w.heap.size w2.drew 5 (d ++ p.extract 0 k) hB.out.size
      have hlt : w.heap.size < w2.heap.size := World.block_lt_of_cell? _ _ q0
      rw [show (d ++ p.extract 0 k).size = d.size + k by simp; omega] at hfz
      rw [show (d ++ p.extract 0 k).data.toList = d.data.toList ++ p.data.toList.take k by simp] at hrow
      generalize Lib.bytesWorld w2.drew 5 (d ++ p.extract 0 k) = wb at *
      generalize grownCap w2.drew (d.size + k) 0 5 = cap at *
      have HROW : Hid (ByRow wb w2.heap.size (d.data.toList ++ p.data.toList.take k)) := hrow
      have HFZ : Hid (∀ j, j < d.size + k → wb.frozen? ⟨w2.heap.size, j, none⟩ = false) := hfz
      have HB := Lib.hid (Below.trans hB.out.drew hbw)
      have HL : Hid ((d.data.toList ++ p.data.toList.take k).length = d.size + k) := by show _ = _; simp [ba_len]; omega
      clear hrow hfz hbw hcv hs1
      obtain ⟨t, ht⟩ : ∃ t, t = crashT d p k torn := ⟨_, rfl⟩
      have HT := Lib.hid ht
      have FIN : Hid (∀ w', Below w.heap.size w w' → CrashOut d p n (k : Int) torn w (.returned (.tuple #[.string t, .bool true])) w') := fun w' hb => ⟨true, by rw [ht, if_pos rfl]; rfl, ⟨fun _ => ⟨HF.out, by omega, by omega⟩, fun _ => rfl⟩, hb⟩
      clear ht
      by_cases hto : torn = true ∧ 0 < k
      · obtain ⟨rfl, hk0⟩ := hto
        have hE : t = bs (tornB (d.data.toList ++ p.data.toList.take k)) := by
          rw [HT.out, crashT, crashB, if_pos (by rw [Bool.true_and]; exact decide_eq_true hk0), tornB_append]
          intro h0
          have := congrArg List.length h0
          rw [List.length_take, ba_len] at this
          simp only [List.length_nil] at this; omega
        obtain ⟨m, hm⟩ : ∃ m, d.size + k = m + 1 := ⟨d.size + k - 1, by omega⟩
        rw [hm] at HFZ HL ⊢
        generalize d.data.toList ++ p.data.toList.take k = l at *
        have hc := HROW.out m (by have := HL.out; omega)
        have hbk := (HROW.out.torn m HL.out).back (P := Tryd.prog) 22 9 5 cap Tryd.underlying22 Tryd.underlying5 Tryd.underlying9
        rw [tornB_len, HL.out, ← hE] at hbk
        have hz := HFZ.out m (Nat.lt_succ_self m)
        have h255 : (l.getD m 0).toNat < 256 := UInt8.toNat_lt _
        generalize (l.getD m 0).toNat = c at *
        have hmb : m ≤ 2097152 := by omega
        clear hE hm
        go_wp2
        exact bodyPost_ret (v := .tuple #[.string t, .bool true]) (by simp [results, Tryd.results25, go_sem]) rfl (FIN.out _ (HB.out.setCell (p := ⟨w2.heap.size, m, none⟩) hB.out.size _))
      · have hE : t = bs (d.data.toList ++ p.data.toList.take k) := by
          rw [HT.out, crashT, crashB]
          cases torn with
          | false => rfl
          | true => rw [if_neg (by simp at hto ⊢; omega)]
        have hbk := HROW.out.back (P := Tryd.prog) 22 9 5 cap Tryd.underlying22 Tryd.underlying5 Tryd.underlying9
        rw [HL.out, ← hE] at hbk
        clear hE
        cases torn with
        | false =>
          generalize d.size + k = L at *
          go_wp2
          exact bodyPost_ret (v := .tuple #[.string t, .bool true]) (by simp [results, Tryd.results25, go_sem]) rfl (FIN.out _ HB.out)
        | true =>
          have hd0 : ¬ 0 < k := by simpa using hto
          clear hto
          generalize d.size + k = L at *
          go_wp2
          exact bodyPost_ret (v := .tuple #[.string t, .bool true]) (by simp [results, Tryd.results25, go_sem]) rfl (FIN.out _ HB.out)
    · have hin' : inB keep 0 (p.size : Int) = false := by simp [inB]; omega
      have HI := Lib.hid hin
      clear hin
      go_wp2_with fail
      refine (within_c _ _ _ _).mono ?_
      rintro e w3 ⟨rfl, rfl⟩
      rw [hin']
      clear hin'
      go_wp2
      exact bodyPost_ret (v := .tuple #[.string ⟨#[]⟩, .bool false]) (by simp [results, Tryd.results25, go_sem]) rfl ⟨false, rfl, ⟨(fun h => by cases h), fun h => (HI.out h.2).elim⟩, hB.out⟩
end Go.Proofs.YtbobiiodbbcodaaDoor
namespace Go.Proofs.YtbobiiodbbcodaaDoor
set_option linter.unusedVariables false
theorem ValidL.synced {d p : Bs} {n : Int} {es : List (Bs × Bs)} (h : ValidL d p n es) : ValidL (d ++ p) [] n es :=
  ⟨by rw [List.append_nil]; exact h.sz, h.ok, h.le, by rw [List.append_nil]; exact h.eq, by rw [h.eq]; exact linesS_end 0 es, h.cnt⟩
theorem ok_snoc {es : List (Bs × Bs)} {e : Bs × Bs} (h : ∀ x ∈ es, OkE x) (he : OkE e) : ∀ x ∈ es ++ [e], OkE x := fun x hx =>
  (List.mem_append.1 hx).elim (h x) (fun hx => by rw [List.mem_singleton.1 hx]; exact he)
theorem ValidL.snoc {d p : Bs} {n : Int} {es : List (Bs × Bs)} {e : Bs × Bs} (h : ValidL d p n es) (he : OkE e) (hn : n ≠ 60) : ValidL d (p ++ lineS n e.1 e.2) (n + 1) (es ++ [e]) := by
  have hc := h.cnt
  have hlt : es.length < 60 := by have := h.le; omega
  have hl : d ++ (p ++ lineS n e.1 e.2) = linesS 0 (es ++ [e]) := by
    rw [← List.append_assoc, h.eq, linesS_snoc, hc, ← lnS_def, Nat.zero_add]
  have hlen := linesS_len 0 (es ++ [e]) (ok_snoc h.ok he) (by rw [List.length_append]; simp; omega)
  rw [List.length_append] at hlen
  simp only [List.length_cons, List.length_nil] at hlen
  exact ⟨by rw [hl]; omega, ok_snoc h.ok he, by rw [List.length_append]; simp; omega, hl, h.fin, by rw [List.length_append]; simp; omega⟩
theorem lnS_ne {k : Nat} {e : Bs × Bs} : lnS k e ≠ [] := by unfold lnS; simp
/-- what is surely written at the beginning is read -/
theorem pre_of {k : Nat} {xs es : List (Bs × Bs)} {r rest : Bs} (hx : ∀ e ∈ xs, OkE e) (ho : ∀ e ∈ es, OkE e) (h : linesS k xs ++ r = linesS k es ++ rest)
    (hs : k + es.length = 60 ∨ ∀ e, ¬ Begins (k + es.length) rest e) (hl : k + xs.length ≤ 60) : ∃ t, es = xs ++ t := by
  induction xs generalizing k es with
  | nil => exact ⟨es, rfl⟩
  | cons x t ih =>
    cases es with
    | nil =>
      simp only [List.length_cons, List.length_nil, Nat.add_zero] at hl hs
      rcases hs with hs | hs
      · omega
      · exact absurd ⟨hx x (by simp), linesS (k + 1) t ++ r, by simpa [linesS] using h.symm⟩ (hs x)
    | cons e u =>
      simp only [linesS, List.append_assoc] at h
      obtain ⟨rfl, h2⟩ := lnS_inj (hx x (by simp)) (ho e (by simp)) h
      simp only [List.length_cons] at hl hs
      rw [show k + (u.length + 1) = k + 1 + u.length by omega] at hs
      obtain ⟨v, hv⟩ := ih (fun a ha => hx a (by simp [ha])) (fun a ha => ho a (by simp [ha])) h2 hs (by omega)
      exact ⟨v, by rw [hv]; rfl⟩
/-- what is read of a beginning was written -/
theorem pre_in {k : Nat} {xs es : List (Bs × Bs)} {r : Bs} (hx : ∀ e ∈ xs, OkE e) (ho : ∀ e ∈ es, OkE e) (h : linesS k xs ++ r = linesS k es) : ∃ t, es = xs ++ t := by
  induction xs generalizing k es with
  | nil => exact ⟨es, rfl⟩
  | cons x t ih =>
    cases es with
    | nil =>
      simp only [linesS, List.append_eq_nil_iff] at h
      exact absurd h.1.1 lnS_ne
    | cons e u =>
      simp only [linesS, List.append_assoc] at h
      obtain ⟨rfl, h2⟩ := lnS_inj (hx x (by simp)) (ho e (by simp)) h
      obtain ⟨v, hv⟩ := ih (fun a ha => hx a (by simp [ha])) (fun a ha => ho a (by simp [ha])) h2
      exact ⟨v, by rw [hv]; rfl⟩
theorem lnS_small {k : Nat} {e : Bs × Bs} (h : OkE e) : ∀ c ∈ lnS k e, c.toNat ≤ 126 := by
  intro c hc
  unfold lnS sealS bodyS at hc
  simp only [List.mem_append, List.mem_cons, List.not_mem_nil, or_false] at hc
  rcases hc with (((hc | hc | hc | hc | hc) | hc | hc) | hc)
  · have := itoa_digit (k := (k : Int)) (by omega) c hc; omega
  · subst hc; decide
  · exact (h.p1 c hc).2.1
  · subst hc; decide
  · exact (h.p2 c hc).2.1
  · subst hc; decide
  · have := itoa_digit (ckS_bd _).1 c hc; omega
  · subst hc; decide
theorem linesS_small {k : Nat} {es : List (Bs × Bs)} (h : ∀ e ∈ es, OkE e) : ∀ c ∈ linesS k es, c.toNat ≤ 126 := by
  induction es generalizing k with
  | nil => intro c hc; simp [linesS] at hc
  | cons e t ih =>
    intro c hc
    simp only [linesS, List.mem_append] at hc
    exact hc.elim (lnS_small (h e (by simp)) c) (ih (fun a ha => h a (by simp [ha])) c)
theorem tornB_snoc (q : Bs) (c : UInt8) : tornB (q ++ [c]) = q ++ [255 - c] := by
  rw [tornB_append q [c] (by simp)]; rfl
theorem linesS_pre {es es2 t : List (Bs × Bs)} (h : es2 = es ++ t) : (linesS 0 es).length ≤ (linesS 0 es2).length := by
  rw [h, linesS_append, List.length_append]; omega
theorem crash_law {d p : Bs} {n : Int} {es es2 : List (Bs × Bs)} {rest : Bs} {k : Nat} {torn : Bool} (hv : ValidL d p n es) (hk : k ≤ p.length) (ho : Opens (d ++ crashB p k torn) es2 rest) :
    d.length ≤ (linesS 0 es2).length ∧ (∃ t, es = es2 ++ t) ∧ (torn = false → k = p.length → es2 = es) := by
  refine ⟨?_, ?_, ?_⟩
  · obtain ⟨i, hi, hd⟩ := cut_lines hv.ok hv.eq hv.fin
    have he := ho.eq
    rw [hd] at he
    obtain ⟨t, ht⟩ := pre_of (fun e h => hv.ok e (List.mem_of_mem_take h)) ho.ok he (by have := ho.stop; rwa [Nat.zero_add]) (by rw [List.length_take]; have := hv.le; omega)
    rw [hd]; exact linesS_pre ht
  · have hT : p.take k ++ p.drop k = p := List.take_append_drop k p
    by_cases hto : (torn && decide (0 < k)) = true
    · have hk0 : 0 < k := by simp at hto; exact hto.2
      have he := ho.eq
      unfold crashB at he
      rw [if_pos hto] at he
      rcases List.eq_nil_or_concat (p.take k) with h0 | ⟨q, c, hq⟩
      · have := congrArg List.length h0
        rw [List.length_take, List.length_nil] at this
        omega
      · rw [List.concat_eq_append] at hq
        rw [hq, tornB_snoc, ← List.append_assoc] at he
        have hw : d ++ q ++ c :: p.drop k = linesS 0 es := by
          have h3 : p = q ++ [c] ++ p.drop k := by rw [← hq, hT]
          rw [← hv.eq]
          conv => rhs; rw [h3]
          simp
        have hcs := linesS_small (k := 0) hv.ok c (by rw [← hw]; simp)
        rcases List.eq_nil_or_concat rest with h0 | ⟨r2, b, hr⟩
        · rw [h0, List.append_nil] at he
          rcases linesS_end 0 es2 with h1 | ⟨t, h1⟩
          · rw [h1] at he; simp at he
          · rw [h1] at he
            have h2 := (List.append_inj' he rfl).2
            simp only [List.cons.injEq, and_true] at h2
            have h3 := congrArg (fun x : UInt8 => (x.toNat : Int)) h2
            simp only [u8_neg] at h3
            have h4 : ((10 : UInt8).toNat : Int) = 10 := rfl
            omega
        · rw [List.concat_eq_append] at hr
          rw [hr, ← List.append_assoc] at he
          have h2 := (List.append_inj' he rfl).1
          exact pre_in ho.ok hv.ok (r := r2 ++ c :: p.drop k) (by rw [← List.append_assoc, ← h2]; exact hw)
    · have he := ho.eq
      unfold crashB at he
      rw [if_neg hto] at he
      exact pre_in ho.ok hv.ok (r := rest ++ p.drop k) (by rw [← List.append_assoc, ← he, List.append_assoc, hT]; exact hv.eq)
  · intro ht hkl
    subst ht hkl
    unfold crashB at ho
    rw [Bool.false_and, if_neg (by simp), List.take_length, hv.eq] at ho
    exact (ho.uniq (Opens.whole hv.ok hv.le)).1
/-- what is recovered is a valid log -/
theorem Opens.valid {s : Bs} {es : List (Bs × Bs)} {rest : Bs} (h : Opens s es rest) (hs : s.length ≤ 30000) : ValidL (linesS 0 es) [] (es.length : Int) es :=
  ⟨by rw [List.append_nil]; have := congrArg List.length h.eq; rw [List.length_append] at this; omega, h.ok, h.le, by rw [List.append_nil], linesS_end 0 es, rfl⟩
theorem Opens.take {s : Bs} {es : List (Bs × Bs)} {rest : Bs} (h : Opens s es rest) : s.take (linesS 0 es).length = linesS 0 es := by
  conv => lhs; rw [h.eq]
  rw [List.take_left']; rfl
end Go.Proofs.YtbobiiodbbcodaaDoor
namespace Go.Proofs.YtbobiiodbbcodaaDoor
open Go.RowKit
set_option linter.unusedVariables false
set_option linter.unusedSimpArgs false
set_option maxRecDepth 100000
def mkS (k : Nat) : ByteArray := bs (109 :: Lib.decDigits k)
theorem bs_cons (c : UInt8) (l : List UInt8) : (⟨#[c]⟩ : ByteArray) ++ bs l = bs (c :: l) := ByteArray.ext (by simp [bs])
theorem flatR_len (es : List (Bs × Bs)) : (flatR es).length = es.length * 2 := by
  induction es with
  | nil => rfl
  | cons p t ih => simp only [flatR, List.flatMap_cons, List.length_append, List.length_cons] at ih ⊢; simp at ih ⊢; omega
theorem flatR_at {es : List (Bs × Bs)} {k : Nat} {e : Bs × Bs} (h : es[k]? = some e) : (flatR es)[k * 2]? = some (.string (bs e.1)) ∧ (flatR es)[k * 2 + 1]? = some (.string (bs e.2)) := by
  induction es generalizing k with
  | nil => simp at h
  | cons q t ih =>
    cases k with
    | zero => simp at h; subst h; simp [flatR]
    | succ k =>
      simp at h
      have := ih h
      constructor
      · rw [show (k + 1) * 2 = k * 2 + 2 by omega]; simpa [flatR] using this.1
      · rw [show (k + 1) * 2 + 1 = k * 2 + 1 + 2 by omega]; simpa [flatR] using this.2
theorem Sl.parts2 {w : World} {v : Value} {n : Nat} {xs : List Value} (h : Sl w 2 v n xs) : ∃ a c, v = .slice a n c ∧ n ≤ 9223372036854775807 ∧
    Hid (∀ k, k < n → ∃ b off, a = some ⟨b, off, none⟩ ∧ w.cell? ⟨b, off + k * 2, none⟩ = xs[k * 2]? ∧ w.cell? ⟨b, off + k * 2 + 1, none⟩ = xs[k * 2 + 1]?) := by
  obtain ⟨a, c, rfl, h1, h2, h3, h4⟩ := h
  refine ⟨a, c, rfl, by unfold maxLen at h2; omega, fun k hk => ?_⟩
  obtain ⟨b, off, rfl, hc⟩ := h4 (by omega)
  exact ⟨b, off, rfl, hc _ (by omega), by rw [Nat.add_assoc, hc _ (by omega)]⟩
/-- marks: texts, one after the other -/
def mkL (k0 m : Nat) : List Value := (List.range m).map fun j => Value.string (mkS (k0 + j))
theorem mkL_len (k0 m : Nat) : (mkL k0 m).length = m := by simp [mkL]
theorem mkL_succ (k0 m : Nat) : mkL k0 (m + 1) = mkL k0 m ++ [.string (mkS (k0 + m))] := by simp [mkL, List.range_succ]
theorem mkL_at {k0 m j : Nat} (h : j < m) : (mkL k0 m)[j]? = some (.string (mkS (k0 + j))) := by simp [mkL, h]
theorem mkL_set {k0 m : Nat} {xs : List Value} (h : m < xs.length) : (mkL k0 m ++ xs.drop m).set m (.string (mkS (k0 + m))) = mkL k0 (m + 1) ++ xs.drop (m + 1) := by
  rw [List.drop_eq_getElem_cons h, set_mid _ _ _ _ (mkL_len k0 m).symm, mkL_succ]; simp
theorem gr_some {w w' : World} {r : Option Nat} (h : w.grownBy w' none) : w.grownBy w' r := ⟨h.os, h.tape, h.output, h.size, fun k hk _ => h.block k hk (by simp)⟩
end Go.Proofs.YtbobiiodbbcodaaDoor
namespace Go.Proofs.YtbobiiodbbcodaaDoor
open Go.RowKit
set_option linter.unusedVariables false
set_option linter.unusedSimpArgs false
set_option maxRecDepth 100000
set_option maxHeartbeats 1000000 in
theorem vRecords_c (v1 v2 : Value) (es : List (Bs × Bs)) (w : World) (h1 : Sl w 2 v1 es.length (flatR es)) (h2 : Sl w 2 v2 es.length (flatR es)) :
    Calls Tryd.prog 23 #[v1, v2] w fun e w' => e = .returned (.bool true) ∧ Below w.heap.size w w' := by
  obtain ⟨a1, c1, rfl, hm1, H1⟩ := h1.parts2
  obtain ⟨a2, c2, rfl, _, H2⟩ := h2.parts2
  have hlb : ((es.length : Int) != (es.length : Int)) = false := by simp
  go_enter Tryd.func23, Tryd.ntmps23
  go_wp2
  go_loopw [5] (fun i wr => ∃ k : Nat, k ≤ es.length ∧ i = .int .i64 k ∧ Below w.heap.size w wr) (fun i _ => es.length - (intOf i).toNat)
  case atStart => exact ⟨0, by omega, rfl, Below.refl _ _⟩
  case round =>
    obtain ⟨k, hk, rfl, hb⟩ := hrel
    by_cases hlt : k < es.length
    · have hd : decide ((k : Int) < (es.length : Int)) = true := by simp; omega
      obtain ⟨e, he⟩ := elem_at hlt
      obtain ⟨b1, o1, rfl, f1, f1'⟩ := H1.out k hlt
      obtain ⟨b2, o2, rfl, f2, f2'⟩ := H2.out k hlt
      rw [(flatR_at he.out).1] at f1 f2
      rw [(flatR_at he.out).2] at f1' f2'
      have g1 := cell_later hb f1
      have g1' := cell_later hb f1'
      have g2 := cell_later hb f2
      have g2' := cell_later hb f2'
      clear h1 h2 f1 f1' f2 f2'
      generalize bs e.1 = X at *
      generalize bs e.2 = Y at *
      have eX := str_eq (rfl : X = X)
      have eY := str_eq (rfl : Y = Y)
      go_wp2
      go_region
      go_wp2
      go_roundw
      case rel => exact ⟨k + 1, by omega, by go_num, hb.drew⟩
      case measure => simp [intOf]; omega
    · go_wp2
      go_ret
      exact ⟨rfl, hb⟩
end Go.Proofs.YtbobiiodbbcodaaDoor
namespace Go.Proofs.YtbobiiodbbcodaaDoor
open Go.RowKit
set_option linter.unusedVariables false
set_option linter.unusedSimpArgs false
theorem Tab.below {w w' : World} (h : Tab w) (hb : Below w.heap.size w w') : Tab w' := h.on hb
/-- what RecoverLog answers is told by the text alone -/
theorem recov_det (s : ByteArray) : ∃ (D : ByteArray) (N A : Int) (f : Bool), ∀ w e w', RecovOut s w e w' → e = .returned (.tuple #[logV D ⟨#[]⟩ N, .int .i64 A, .bool f]) ∧ Below w.heap.size w w' := by
  by_cases hbig : 30000 < s.size
  · refine ⟨⟨#[]⟩, 0, 0, false, fun w e w' h => ⟨?_, h.2⟩⟩
    rcases h.1 with h | h
    · exact h.2
    · exact absurd hbig h.1
  · by_cases hex : ∃ es rest, Opens s.data.toList es rest
    · obtain ⟨es, rest, ho⟩ := hex
      refine ⟨s.extract 0 (linesS 0 es).length, (es.length : Int), (((linesS 0 es).length : Nat) : Int), true, fun w e w' h => ⟨?_, h.2⟩⟩
      rcases h.1 with h | h
      · exact absurd h.1 hbig
      · obtain ⟨_, es', rest', ho', he⟩ := h
        rw [he, (ho'.uniq ho).1]; rfl
    · refine ⟨⟨#[]⟩, 0, 0, false, fun w e w' h => ⟨?_, h.2⟩⟩
      rcases h.1 with h | h
      · exact h.2
      · obtain ⟨_, es', rest', ho', he⟩ := h
        exact absurd ⟨es', rest', ho'⟩ hex
theorem Sl.pre2 {w : World} {a : Option Addr} {c n : Nat} {es t : List (Bs × Bs)} (h : Sl w 2 (.slice a n c) n (flatR (es ++ t))) : Sl w 2 (.slice a es.length c) es.length (flatR es) := by
  obtain ⟨a', c', he, h1, h2, h3, h4⟩ := h
  simp only [Value.slice.injEq] at he
  obtain ⟨rfl, _, rfl⟩ := he
  have hf : flatR (es ++ t) = flatR es ++ flatR t := by simp [flatR]
  rw [flatR_len, List.length_append] at h3
  have hn : es.length ≤ n := by omega
  refine ⟨a, c, rfl, by omega, h2, flatR_len es, fun h0 => ?_⟩
  obtain ⟨b, off, e, hc⟩ := h4 (by omega)
  refine ⟨b, off, e, fun j hj => ?_⟩
  rw [hc j (by omega), hf, List.getElem?_append_left (by rw [flatR_len]; exact hj)]
/-- what is told of a crash: the law on crashes, plainly -/
structure CrashLaw (d p : ByteArray) (keep : Int) (torn : Bool) (t : ByteArray) (es es2 : List (Bs × Bs)) : Prop where
  sz : t.size ≤ 30000
  end1 : d.size ≤ (linesS 0 es2).length
  dur : (t.extract 0 (linesS 0 es2).length).size = (linesS 0 es2).length
  val : ValidL (t.extract 0 (linesS 0 es2).length).data.toList (⟨#[]⟩ : ByteArray).data.toList (es2.length : Int) es2
  pre : ∃ x, es = es2 ++ x
  all : torn = false → ¬ keep < (p.size : Int) → es2.length = es.length
theorem crash_size {d p : ByteArray} {k : Nat} {torn : Bool} (hk : k ≤ p.size) : (crashT d p k torn).size = d.size + k := by
  unfold crashT
  rw [bs_size, List.length_append, ba_len]
  unfold crashB
  split <;> simp [tornB_len, ba_len] <;> omega
theorem crash_told {d p : ByteArray} {n keep : Int} {torn : Bool} {es es2 : List (Bs × Bs)} {rest : Bs} (hv : ValidL d.data.toList p.data.toList n es) (h0 : 0 ≤ keep) (h1 : keep ≤ p.size)
    (ho : Opens (crashT d p keep.toNat torn).data.toList es2 rest) : CrashLaw d p keep torn (crashT d p keep.toNat torn) es es2 := by
  have hk : keep.toNat ≤ p.size := by omega
  have hsz := crash_size (d := d) (torn := torn) hk
  have hdp := hv.sz
  rw [List.length_append, ba_len, ba_len] at hdp
  have hL := recov_le ho
  have ho2 := ho
  have hlist : (crashT d p keep.toNat torn).data.toList = d.data.toList ++ crashB p.data.toList keep.toNat torn := by unfold crashT; rw [bs_list]
  rw [hlist] at ho2
  obtain ⟨c1, c2, c3⟩ := crash_law hv (by rw [ba_len]; exact hk) ho2
  rw [ba_len] at c1
  refine ⟨by omega, c1, by rw [ByteArray.size_extract]; omega, ?_, c2, fun ht hkp => ?_⟩
  · rw [ext_list, ho.take]
    exact ho.valid (by rw [ba_len]; omega)
  · rw [c3 ht (by rw [ba_len]; omega)]
theorem crash_open {s : ByteArray} {w w' : World} {e : Ending} (h : RecovOut s w e w') (hs : s.size ≤ 30000) :
    ∃ es rest, Opens s.data.toList es rest ∧ e = .returned (.tuple #[recovV s es, .int .i64 (((linesS 0 es).length : Nat) : Int), .bool true]) ∧ Below w.heap.size w w' := by
  rcases h.1 with h1 | h1
  · exact absurd h1.1 (by omega)
  · obtain ⟨_, es, rest, ho, he⟩ := h1
    exact ⟨es, rest, ho, he, h.2⟩
theorem lrec_yes {d p : ByteArray} {n : Int} {es : List (Bs × Bs)} {w w' : World} {e : Ending} (h : LRecOut d p n w e w') (hv : ValidL d.data.toList p.data.toList n es) :
    ∃ a c, e = .returned (.tuple #[.slice a es.length c, .bool true]) ∧ Sl w' 2 (.slice a es.length c) es.length (flatR es) ∧ es.length ≤ c ∧ c ≤ 9223372036854775807 ∧ Below w.heap.size w w' := by
  obtain ⟨v, es', ok, rfl, ho, h1, hb⟩ := h
  rcases h1 with ⟨rfl, hv'⟩ | ⟨_, _, h2⟩
  · obtain rfl := hv.uniq hv'
    have hs := Sl.of_own ho
    obtain ⟨a, c, rfl, x1, x2, _, _⟩ := id hs
    exact ⟨a, c, rfl, hs, x1, by unfold maxLen at x2; omega, hb⟩
  · exact absurd hv (h2 es)
theorem val_yes {d p : ByteArray} {n : Int} {es : List (Bs × Bs)} {w w' : World} {e : Ending} (h : ValOut d p n w e w') (hv : ValidL d.data.toList p.data.toList n es) :
    e = .returned (.bool true) ∧ Below w.heap.size w w' := by
  obtain ⟨ok, rfl, hi, hb⟩ := h
  rw [hi.2 ⟨es, hv⟩]
  exact ⟨rfl, hb⟩
end Go.Proofs.YtbobiiodbbcodaaDoor
namespace Go.Proofs.YtbobiiodbbcodaaDoor
open Go.RowKit
set_option linter.unusedVariables false
set_option linter.unusedSimpArgs false
theorem val_det (d p : ByteArray) (n : Int) : ∃ b : Bool, ∀ w e w', ValOut d p n w e w' → e = .returned (.bool b) ∧ Below w.heap.size w w' := by
  by_cases h : ∃ es, ValidL d.data.toList p.data.toList n es
  · refine ⟨true, fun w e w' ho => ?_⟩
    obtain ⟨ok, rfl, hi, hb⟩ := ho
    rw [hi.2 h]; exact ⟨rfl, hb⟩
  · refine ⟨false, fun w e w' ho => ?_⟩
    obtain ⟨ok, rfl, hi, hb⟩ := ho
    cases ok with
    | true => exact absurd (hi.1 rfl) h
    | false => exact ⟨rfl, hb⟩
structure AppD (d p : ByteArray) (n : Int) (c r d' p' : ByteArray) (n' st : Int) : Prop where
  sz : d'.size + p'.size ≤ d.size + p.size + 454
  no : st ≠ 0 → d' = d ∧ p' = p ∧ n' = n
  yes : st = 0 → ∃ es, ValidL d.data.toList p.data.toList n es ∧ ValidL d'.data.toList p'.data.toList n' (es ++ [(c.data.toList, r.data.toList)])
theorem app_det (d p : ByteArray) (n : Int) (c r : ByteArray) : ∃ (d' p' : ByteArray) (n' st : Int), AppD d p n c r d' p' n' st ∧
    ∀ w e w', AppOut d p n c r w e w' → e = .returned (.tuple #[logV d' p' n', .int .i64 st]) ∧ Below w.heap.size w w' := by
  have HNO : ∀ st : Int, st ≠ 0 → AppD d p n c r d p n st := fun st h => ⟨by omega, fun _ => ⟨rfl, rfl, rfl⟩, fun h2 => absurd h2 h⟩
  by_cases hv : ∃ es, ValidL d.data.toList p.data.toList n es
  · have key : ∀ w e w', AppOut d p n c r w e w' → e = .returned (.tuple #[(appV true (recB c r) d p n c r).1, .int .i64 (appV true (recB c r) d p n c r).2]) ∧ Below w.heap.size w w' := fun w e w' h => by
      obtain ⟨ok, rfl, hi, hb⟩ := h
      rw [hi.2 hv]; exact ⟨rfl, hb⟩
    rcases hr : recB c r with _ | _
    · refine ⟨d, p, n, 1, HNO 1 (by decide), fun w e w' h => ?_⟩
      have := key w e w' h
      rw [hr, appV_no rfl] at this; exact this
    · by_cases hn : n = 60
      · refine ⟨d, p, n, 2, HNO 2 (by decide), fun w e w' h => ?_⟩
        have := key w e w' h
        rw [hr, appV_full hn] at this; exact this
      · obtain ⟨es, hes⟩ := hv
        obtain ⟨_, _, _, hs⟩ := app_line hes hn hr
        refine ⟨d, p ++ bs (lineS n c.data.toList r.data.toList), n + 1, 0, ⟨by rw [app_size]; omega, fun h => absurd rfl h, fun _ => ⟨es, hes, ?_⟩⟩, fun w e w' h => ?_⟩
        · rw [app_list, bs_list]
          exact hes.snoc (e := (c.data.toList, r.data.toList)) (recB_iff.1 hr) hn
        · have := key w e w' h
          rw [hr, appV_yes hn] at this; exact this
  · refine ⟨d, p, n, 1, HNO 1 (by decide), fun w e w' h => ?_⟩
    obtain ⟨ok, rfl, hi, hb⟩ := h
    cases ok with
    | true => exact absurd (hi.1 rfl) hv
    | false => rw [appV_no rfl]; exact ⟨rfl, hb⟩
structure SyncD (d p : ByteArray) (n : Int) (d' p' : ByteArray) (n' : Int) (f : Bool) : Prop where
  sz : d'.size + p'.size ≤ d.size + p.size
  yes : f = true → ∃ es, ValidL d.data.toList p.data.toList n es ∧ ValidL d'.data.toList p'.data.toList n' es
theorem sync_det (d p : ByteArray) (n : Int) : ∃ (d' p' : ByteArray) (n' : Int) (f : Bool), SyncD d p n d' p' n' f ∧
    ∀ w e w', SyncOut d p n w e w' → e = .returned (.tuple #[logV d' p' n', .bool f]) ∧ Below w.heap.size w w' := by
  by_cases hv : ∃ es, ValidL d.data.toList p.data.toList n es
  · obtain ⟨es, hes⟩ := hv
    refine ⟨d ++ p, ⟨#[]⟩, n, true, ⟨by rw [app_size]; show d.size + p.size + 0 ≤ _; omega, fun _ => ⟨es, hes, by rw [app_list]; exact hes.synced⟩⟩, fun w e w' h => ?_⟩
    obtain ⟨ok, rfl, hi, hb⟩ := h
    rw [hi.2 ⟨es, hes⟩]; exact ⟨rfl, hb⟩
  · refine ⟨⟨#[]⟩, ⟨#[]⟩, 0, false, ⟨by show 0 + 0 ≤ _; omega, fun h => by cases h⟩, fun w e w' h => ?_⟩
    obtain ⟨ok, rfl, hi, hb⟩ := h
    cases ok with
    | true => exact absurd (hi.1 rfl) hv
    | false => exact ⟨rfl, hb⟩
theorem lrec_det (d p : ByteArray) (n : Int) : ∃ (es : List (Bs × Bs)) (ok : Bool), es.length ≤ 60 ∧ (∀ es', ValidL d.data.toList p.data.toList n es' → es' = es) ∧
    ∀ w e w', LRecOut d p n w e w' → ∃ a c, e = .returned (.tuple #[.slice a es.length c, .bool ok]) ∧ Sl w' 2 (.slice a es.length c) es.length (flatR es) ∧ es.length ≤ c ∧ c ≤ 9223372036854775807 ∧ Below w.heap.size w w' := by
  by_cases hv : ∃ es, ValidL d.data.toList p.data.toList n es
  · obtain ⟨es, hes⟩ := hv
    exact ⟨es, true, hes.le, fun es' h => h.uniq hes, fun w e w' h => lrec_yes h hes⟩
  · refine ⟨[], false, Nat.zero_le _, fun es' h => absurd ⟨es', h⟩ hv, fun w e w' h => ?_⟩
    obtain ⟨v, es', ok, rfl, ho, h1, hb⟩ := h
    rcases h1 with ⟨_, hv'⟩ | ⟨rfl, rfl, _⟩
    · exact absurd ⟨es', hv'⟩ hv
    · have hs := Sl.of_own ho
      obtain ⟨a, c, rfl, x1, x2, _, _⟩ := id hs
      exact ⟨a, c, rfl, hs, x1, by unfold maxLen at x2; omega, hb⟩
/-- the record behind all that were there -/
theorem Sl.last2 {w : World} {a : Option Addr} {c n : Nat} {es : List (Bs × Bs)} {x y : ByteArray} (h : Sl w 2 (.slice a n c) n (flatR (es ++ [(x.data.toList, y.data.toList)]))) :
    ∃ b off, a = some ⟨b, off, none⟩ ∧ w.cell? ⟨b, off + es.length * 2, none⟩ = some (.string x) ∧ w.cell? ⟨b, off + es.length * 2 + 1, none⟩ = some (.string y) := by
  obtain ⟨a', c', he, _, H⟩ := h.parts2
  simp only [Value.slice.injEq] at he
  obtain ⟨rfl, _, rfl⟩ := he
  have hl := h.len
  rw [flatR_len, List.length_append] at hl
  simp only [List.length_cons, List.length_nil] at hl
  obtain ⟨b, off, e, h1, h2⟩ := H.out es.length (by omega)
  have hk : (es ++ [(x.data.toList, y.data.toList)])[es.length]? = some (x.data.toList, y.data.toList) := by simp
  rw [(flatR_at hk).1] at h1
  rw [(flatR_at hk).2] at h2
  simp only [bs_of] at h1 h2
  exact ⟨b, off, e, h1, h2⟩
end Go.Proofs.YtbobiiodbbcodaaDoor
namespace Go.Proofs.YtbobiiodbbcodaaDoor
open Go.RowKit
set_option linter.unusedVariables false

/-- the first place at which p holds, or -1 -/
def firstAt {α : Type} (p : α → Bool) (xs : List α) : Int := match xs.findIdx? p with | some i => (i : Int) | none => -1
theorem firstAt_none {α : Type} {p : α → Bool} {xs : List α} {k : Nat} (hk : xs.length ≤ k) (h : ∀ j x, j < k → xs[j]? = some x → p x = false) : firstAt p xs = -1 := by
  have : xs.findIdx? p = none := by
    rw [List.findIdx?_eq_none_iff]; intro x hx
    obtain ⟨j, hj⟩ := List.mem_iff_getElem?.1 hx
    exact h j x (Nat.lt_of_lt_of_le (List.getElem?_eq_some_iff.1 hj).1 hk) hj
  simp [firstAt, this]
theorem firstAt_some {α : Type} {p : α → Bool} {xs : List α} {k : Nat} {x : α} (hx : xs[k]? = some x) (hp : p x = true) (h : ∀ j x, j < k → xs[j]? = some x → p x = false) : firstAt p xs = k := by
  have : xs.findIdx? p = some k := by
    rw [List.findIdx?_eq_some_iff_getElem]
    obtain ⟨hl, he⟩ := List.getElem?_eq_some_iff.1 hx
    refine ⟨hl, by rw [he]; exact hp, fun j hj => ?_⟩
    have := h j xs[j] hj (List.getElem?_eq_getElem (by omega))
    simp [this]
  simp [firstAt, this]

/-- fn is a function of the program with a body -/
def CallsIt (fn : Nat) : Prop := ∀ (bs : Array Value) (w : World), (callFunc fn bs).run Tryd.prog w = .ok (.enter fn bs) w
theorem firstAt_not_all {xs : List Int} {p : Int → Bool} : (decide (0 ≤ firstAt (fun x => !p x) xs)) = !(xs.all p) := by
  unfold firstAt
  cases h : xs.findIdx? (fun x => !p x) with
  | none => rw [List.findIdx?_eq_none_iff] at h; simp; exact fun x hx => by simpa using h x hx
  | some i =>
    rw [List.findIdx?_eq_some_iff_getElem] at h; obtain ⟨hl, h1, _⟩ := h
    simp; exact ⟨xs[i], List.getElem_mem hl, by simpa using h1⟩
end Go.Proofs.YtbobiiodbbcodaaDoor
namespace Go.Proofs.YtbobiiodbbcodaaDoor
open Go.RowKit
set_option linter.unusedVariables false
set_option maxRecDepth 100000
def tenI : List Int := [0, 1, 2, 3, 4, 5, 6, 7, 8, 9]
theorem tenI_fin : ∀ k : Fin 10, tenI[k.1]? = some (k.1 : Int) := by decide
theorem tenI_at {k : Nat} (h : k < 10) : tenI[k]? = some (k : Int) := tenI_fin ⟨k, h⟩
/-- those of the first n digits that show a cell under a fault -/
def digTo (d l c : Int) (n : Nat) : List Int := (tenI.take n).filter fun x => shC d l (dg x) == c
def digL (d l c : Int) : List Int := tenI.filter fun x => shC d l (dg x) == c
theorem digTo_all (d l c : Int) : digTo d l c 10 = digL d l c := rfl
theorem digTo_le (d l c : Int) (n : Nat) : (digTo d l c n).length ≤ 10 := Nat.le_trans (List.length_filter_le _ _) (by rw [List.length_take]; simp [tenI]; omega)
theorem digL_le (d l c : Int) : (digL d l c).length ≤ 10 := Nat.le_trans (List.length_filter_le _ _) (by simp [tenI])
theorem digTo_succ (d l c : Int) {n : Nat} (h : n < 10) : digTo d l c (n + 1) = digTo d l c n ++ if shC d l (dg n) == c then [(n : Int)] else [] := by
  unfold digTo
  rw [take_snoc (tenI_at h), List.filter_append]
  cases hq : (shC d l (dg n) == c) <;> simp [hq]
theorem ints_snoc (xs : List Int) (x : Int) : (xs ++ [x]).map (Value.int .i64) = xs.map (Value.int .i64) ++ [.int .i64 x] := by simp


end Go.Proofs.YtbobiiodbbcodaaDoor
namespace Go.Proofs.YtbobiiodbbcodaaDoor
open Go.RowKit
set_option linter.unusedVariables false
set_option linter.unusedSimpArgs false
set_option maxRecDepth 100000


/-- What a draw of a slice of ints gives. -/
def DrawS (w : World) (g m n : Nat) (e : Ending) (w' : World) : Prop :=
  ∃ (v : Value) (xs : List Int), e = .returned v ∧ xs.length ≤ n ∧ w'.ownsRow w.heap.size 3 1 v xs.length (xs.map (Value.int .i64)) ∧ CStep w w' g m
theorem DrawS.mono {w : World} {g m m' n n' : Nat} {e : Ending} {w' : World} (h : DrawS w g m n e w') (hm : m ≤ m') (hn : n ≤ n') : DrawS w g m' n' e w' := by
  obtain ⟨v, xs, h1, h2, h3, h4⟩ := h
  exact ⟨v, xs, h1, by omega, h3, h4.mono hm⟩
/-- behind an append to a row of the call's own -/
theorem CStep.grown {a b c : World} {g m : Nat} {r : Option Nat} (h : CStep a b g m) (hg : b.grownBy c r) (hga : g < a.heap.size) (hr : ∀ k, r = some k → a.heap.size ≤ k) : CStep a c g m :=
  ⟨⟨hg.os.trans h.gr.os, hg.tape.trans h.gr.tape, hg.output.trans h.gr.output, Nat.le_trans h.gr.size hg.size, fun i hi hne => (hg.block i (Nat.lt_of_lt_of_le hi h.gr.size) (fun e => by
    have := hr i e.symm; omega)).trans (h.gr.block i hi hne)⟩, h.cur.grown hg (fun k hk => by have := hr k hk; omega)⟩
theorem row_start (w : World) (lo : Nat) (h : lo ≤ w.heap.size) : (w.alloc (.cells #[] 3)).ownsRow lo 3 1 (.slice (some ⟨w.heap.size, 0, none⟩) 0 0) ([] : List Int).length (([] : List Int).map (Value.int .i64)) :=
  World.ownsRow_lit (e := 3) (size := 1) (base := lo) w #[] 0 h (by decide) rfl
/-- What a draw of a Fault gives. -/
def DrawF (w : World) (g m : Nat) (e : Ending) (w' : World) : Prop := ∃ d l : Int, e = .returned (.agg #[.int .i64 d, .int .i64 l]) ∧ CStep w w' g m
theorem CStep.store {a b : World} {g m : Nat} (h : CStep a b g m) (hga : g < a.heap.size) {p : Addr} (hp : a.heap.size ≤ p.block) (v : Value) : CStep a (b.setCell p v) g m :=
  ⟨⟨h.gr.os, h.gr.tape, h.gr.output, by have := h.gr.size; simp [World.setCell]; exact this, fun k hk hne => (Below.heap_setCell _ _ _ _ (by omega)).trans (h.gr.block k hk hne)⟩, h.cur.blocks fun k hk => Below.heap_setCell _ _ _ _ (by omega)⟩
theorem Bk.step {a b : World} {g m k t : Nat} {cs : Array Value} (h : Bk a k t cs) (hs : CStep a b g m) (hk : k ≠ g) : Bk b k t cs := h.keep (hs.gr.block k h.lt (fun e => hk (by cases e; rfl)))
theorem two_res {W : World} {b t : Nat} {a c : Value} (h : Bk W b t #[a, c]) (X Y : Value) :
    ((W.setCell ⟨b, 0, none⟩ X).setCell ⟨b, 1, none⟩ Y).cell? ⟨b, 0, none⟩ = some X ∧ ((W.setCell ⟨b, 0, none⟩ X).setCell ⟨b, 1, none⟩ Y).cell? ⟨b, 1, none⟩ = some Y := by
  have h2 := (h.set 0 X).set 1 Y
  exact ⟨h2.cell 0, h2.cell 1⟩
end Go.Proofs.YtbobiiodbbcodaaDoor
