/- Walks on logs: RecoverLog, LogRecords, both texts. -/
import Derived.Test.YtfflbbgipbnckaaDoorLogL
namespace Go.Proofs.YtfflbbgipbnckaaDoor
open Go.RowKit
set_option linter.unusedVariables false
set_option linter.unusedSimpArgs false
set_option maxRecDepth 100000
def recovV (s : ByteArray) (es : List (Bs × Bs)) : Value := logV (s.extract 0 (linesS 0 es).length) ⟨#[]⟩ (es.length : Int)
def RecovOut (s : ByteArray) (w : World) (e : Ending) (w' : World) : Prop :=
  ((30000 < s.size ∧ e = .returned (.tuple #[logV ⟨#[]⟩ ⟨#[]⟩ 0, .int .i64 0, .bool false])) ∨
    (¬ 30000 < s.size ∧ ∃ es rest, Opens s.data.toList es rest ∧ e = .returned (.tuple #[recovV s es, .int .i64 (((linesS 0 es).length : Nat) : Int), .bool true]))) ∧ Below w.heap.size w w'
theorem recov_le {s : ByteArray} {es : List (Bs × Bs)} {rest : Bs} (h : Opens s.data.toList es rest) : (linesS 0 es).length ≤ s.size := by
  rw [← ba_len, h.eq]; simp
set_option maxHeartbeats 1000000 in
theorem RecoverLog_c (s : ByteArray) (w : World) (hs : s.size ≤ 1048576) (ht : Tab w) : Calls Tryd.prog 16 #[.string s] w (RecovOut s w) := by
  have C0 := Bk.new w 31 #[.string ⟨#[]⟩, .string ⟨#[]⟩, .int .i64 0]
  have HC := Lib.hid C0
  have hb0 := Lib.hid (below_one (w := w) (.cells #[.string ⟨#[]⟩, .string ⟨#[]⟩, .int .i64 0] 31))
  have HR := Lib.hid (fun w => readLog_c s w hs)
  have HT := Lib.hid ht
  clear ht C0
  by_cases hbig : 30000 < s.size
  · have hd : decide ((30000 : Int) < (s.size : Int)) = true := by simp; omega
    have HBIG := Lib.hid hbig
    go_enter Tryd.func16, Tryd.ntmps16
    go_wp2
    exact bodyPost_ret (v := .tuple #[.agg #[.string ⟨#[]⟩, .string ⟨#[]⟩, .int .i64 0], .int .i64 0, .bool false]) (by simp [results, Tryd.results16, go_sem]) rfl ⟨.inl ⟨HBIG.out, rfl⟩, by have hb := hb0.out; first | exact hb | ((repeat (first | exact Below.refl _ _ | exact (Below.refl _ _).drew | assumption | exact below_one _ | refine Below.chain ?_ (by assumption) | refine Below.drew ?_ | refine Below.alc ?_ _ | refine below_drewN ?_ | (refine Below.setCell ?_ ?_ _) | exact Nat.le_refl _ | (simp; done) | (simp; omega))))⟩
  · have hd : decide ((30000 : Int) < (s.size : Int)) = false := by simp; omega
    have HBIG := Lib.hid hbig
    go_enter Tryd.func16, Tryd.ntmps16
    go_wp2_with fail
    refine (HR.out _ (HT.out.on hb0.out)).mono ?_
    rintro e w2 ⟨v, es, rest, rfl, ho, hop, hb2⟩
    obtain ⟨a, c, rfl, _⟩ := (Sl.of_own ho).slice
    have hle := hop.le
    have hL := recov_le hop
    have C2 := HC.out.below hb2
    have hB := Lib.hid (Below.chain hb0.out hb2)
    have z0 : w2.cell? ⟨w.heap.size, 0, none⟩ = some (.string ⟨#[]⟩) := C2.cell 0
    have z1 : w2.cell? ⟨w.heap.size, 1, none⟩ = some (.string ⟨#[]⟩) := C2.cell 1
    have z2 : w2.cell? ⟨w.heap.size, 2, none⟩ = some (.int .i64 0) := C2.cell 2
    have f0 : w2.frozen? ⟨w.heap.size, 0, none⟩ = false := C2.frozen 0
    have f1 : w2.frozen? ⟨w.heap.size, 1, none⟩ = false := C2.frozen 1
    have f2 : w2.frozen? ⟨w.heap.size, 2, none⟩ = false := C2.frozen 2
    have FIN : Hid (∀ w', Below w.heap.size w w' → RecovOut s w (.returned (.tuple #[recovV s es, .int .i64 (((linesS 0 es).length : Nat) : Int), .bool true])) w') := fun w' hb => ⟨.inr ⟨HBIG.out, es, rest, hop, rfl⟩, hb⟩
    unfold recovV logV at FIN
    generalize (linesS 0 es).length = L at *
    clear hb2 C2 hop ho
    go_wp2
    exact bodyPost_ret (v := .tuple #[.agg #[.string (s.extract 0 L), .string ⟨#[]⟩, .int .i64 (es.length : Int)], .int .i64 (L : Int), .bool true]) (by simp [results, Tryd.results16, go_sem, z0, z1, z2]) rfl (FIN.out _ (by have hb := hB.out; exact ((hb.setCell (p := ⟨w.heap.size, 0, none⟩) (Nat.le_refl _) _).setCell (p := ⟨w.heap.size, 1, none⟩) (Nat.le_refl _) _).setCell (p := ⟨w.heap.size, 2, none⟩) (Nat.le_refl _) _))
set_option maxHeartbeats 1000000 in
theorem RecoverLogS_c (s : ByteArray) (w : World) (hs : s.size ≤ 1048576) : Calls Tryd.prog 15 #[.string s] w (RecovOut s w) := by
  have C0 := Bk.new w 31 #[.string ⟨#[]⟩, .string ⟨#[]⟩, .int .i64 0]
  have HC := Lib.hid C0
  have hb0 := Lib.hid (below_one (w := w) (.cells #[.string ⟨#[]⟩, .string ⟨#[]⟩, .int .i64 0] 31))
  have HR := Lib.hid (fun w => l12Open_c s w hs)
  clear C0
  by_cases hbig : 30000 < s.size
  · have hd : decide ((30000 : Int) < (s.size : Int)) = true := by simp; omega
    have HBIG := Lib.hid hbig
    go_enter Tryd.func15, Tryd.ntmps15
    go_wp2
    exact bodyPost_ret (v := .tuple #[.agg #[.string ⟨#[]⟩, .string ⟨#[]⟩, .int .i64 0], .int .i64 0, .bool false]) (by simp [results, Tryd.results15, go_sem]) rfl ⟨.inl ⟨HBIG.out, rfl⟩, by have hb := hb0.out; first | exact hb | ((repeat (first | exact Below.refl _ _ | exact (Below.refl _ _).drew | assumption | exact below_one _ | refine Below.chain ?_ (by assumption) | refine Below.drew ?_ | refine Below.alc ?_ _ | refine below_drewN ?_ | (refine Below.setCell ?_ ?_ _) | exact Nat.le_refl _ | (simp; done) | (simp; omega))))⟩
  · have hd : decide ((30000 : Int) < (s.size : Int)) = false := by simp; omega
    have HBIG := Lib.hid hbig
    go_enter Tryd.func15, Tryd.ntmps15
    go_wp2_with fail
    refine (HR.out _).mono ?_
    rintro e w2 ⟨v, es, rest, rfl, ho, hop, hb2⟩
    obtain ⟨a, c, rfl, _⟩ := (Sl.of_own ho).slice
    have hle := hop.le
    have hL := recov_le hop
    have C2 := HC.out.below hb2
    have hB := Lib.hid (Below.chain hb0.out hb2)
    have z0 : w2.cell? ⟨w.heap.size, 0, none⟩ = some (.string ⟨#[]⟩) := C2.cell 0
    have z1 : w2.cell? ⟨w.heap.size, 1, none⟩ = some (.string ⟨#[]⟩) := C2.cell 1
    have z2 : w2.cell? ⟨w.heap.size, 2, none⟩ = some (.int .i64 0) := C2.cell 2
    have f0 : w2.frozen? ⟨w.heap.size, 0, none⟩ = false := C2.frozen 0
    have f1 : w2.frozen? ⟨w.heap.size, 1, none⟩ = false := C2.frozen 1
    have f2 : w2.frozen? ⟨w.heap.size, 2, none⟩ = false := C2.frozen 2
    have FIN : Hid (∀ w', Below w.heap.size w w' → RecovOut s w (.returned (.tuple #[recovV s es, .int .i64 (((linesS 0 es).length : Nat) : Int), .bool true])) w') := fun w' hb => ⟨.inr ⟨HBIG.out, es, rest, hop, rfl⟩, hb⟩
    unfold recovV logV at FIN
    generalize (linesS 0 es).length = L at *
    clear hb2 C2 hop ho
    go_wp2
    exact bodyPost_ret (v := .tuple #[.agg #[.string (s.extract 0 L), .string ⟨#[]⟩, .int .i64 (es.length : Int)], .int .i64 (L : Int), .bool true]) (by simp [results, Tryd.results15, go_sem, z0, z1, z2]) rfl (FIN.out _ (by have hb := hB.out; exact ((hb.setCell (p := ⟨w.heap.size, 0, none⟩) (Nat.le_refl _) _).setCell (p := ⟨w.heap.size, 1, none⟩) (Nat.le_refl _) _).setCell (p := ⟨w.heap.size, 2, none⟩) (Nat.le_refl _) _))
/-- what LogRecords answers -/
def LRecOut (d p : ByteArray) (n : Int) (w : World) (e : Ending) (w' : World) : Prop :=
  ∃ v es ok, e = .returned (.tuple #[v, .bool ok]) ∧ w'.ownsRow w.heap.size 27 2 v es.length (flatR es) ∧
    ((ok = true ∧ ValidL d.data.toList p.data.toList n es) ∨ (ok = false ∧ es = [] ∧ ∀ es', ¬ ValidL d.data.toList p.data.toList n es')) ∧ Below w.heap.size w w'
set_option maxHeartbeats 1000000 in
theorem LogRecords_c (d p : ByteArray) (n : Int) (w : World) (hd : d.size ≤ 1048576) (hp : p.size ≤ 1048576) (ht : Tab w) : Calls Tryd.prog 29 #[logV d p n] w (LRecOut d p n w) := by
  have HR := Lib.hid (fun w => records_c d p n w hd hp)
  unfold logV at *
  have hb0 := Lib.hid (below_one (w := w) (.cells #[.string d, .string p, .int .i64 n] 31))
  have HT := Lib.hid ht
  clear ht
  go_enter Tryd.func29, Tryd.ntmps29
  go_wp2_with fail
  refine (HR.out _ (HT.out.on hb0.out)).mono ?_
  rintro e w2 ⟨v, es, ok, rfl, ho, H1, H2, hb2⟩
  have hB := Lib.hid (Below.chain hb0.out hb2)
  have HO := Lib.hid (own_lo (lo' := w.heap.size) ho (by simp))
  clear hb2 ho
  cases ok with
  | false =>
    go_wp2
    go_ret2
    exact ⟨_, [], false, rfl, World.ownsRow_nil _ _ _ _, .inr ⟨rfl, rfl, H2.out trivial⟩, hB.out⟩
  | true =>
    go_wp2
    go_ret2
    exact ⟨v, es, true, rfl, HO.out, .inl ⟨rfl, H1.out trivial⟩, hB.out⟩
set_option maxHeartbeats 1000000 in
theorem LogRecordsS_c (d p : ByteArray) (n : Int) (w : World) (hd : d.size ≤ 1048576) (hp : p.size ≤ 1048576) : Calls Tryd.prog 28 #[logV d p n] w (LRecOut d p n w) := by
  have HR := Lib.hid (fun w => l12Valid_c d p n w hd hp)
  unfold logV at *
  have hb0 := Lib.hid (below_one (w := w) (.cells #[.string d, .string p, .int .i64 n] 31))
  have B0 := Lib.hid (Bk.new w 31 #[.string d, .string p, .int .i64 n])
  go_enter Tryd.func28, Tryd.ntmps28
  go_wp2_with fail
  refine (HR.out _).mono ?_
  rintro e w2 ⟨ok, rfl, hiff, hb2⟩
  have HI := Lib.hid hiff
  have hB := Lib.hid (Below.chain hb0.out hb2)
  have B2 := B0.out.below hb2
  have q0 : w2.cell? ⟨w.heap.size, 0, none⟩ = some (.string d) := B2.cell 0
  have q1 : w2.cell? ⟨w.heap.size, 1, none⟩ = some (.string p) := B2.cell 1
  clear hb2 B2 hiff
  cases ok with
  | false =>
    have hown := World.ownsRow_lit (e := 27) (size := 2) (base := w.heap.size) w2 #[] 0 hB.out.size (by decide) rfl
    have HW := Lib.hid hown
    clear hown
    go_wp2
    go_ret2
    exact ⟨_, [], false, rfl, HW.out, .inr ⟨rfl, rfl, fun es' h => by have := HI.out.2 ⟨es', h⟩; cases this⟩, Below.alc hB.out _⟩
  | true =>
    have hdp : d.size + p.size ≤ 30000 := by
      obtain ⟨es, h⟩ := HI.out.1 rfl
      have := h.sz
      rw [List.length_append, ba_len, ba_len] at this; exact this
    have HAL := Lib.hid (app_list d p)
    go_wp2_with fail
    refine (l12Open_c (d ++ p) _ (by rw [app_size]; omega)).mono ?_
    rintro e w3 ⟨v, es, rest, rfl, ho, hop, hb3⟩
    have HOp := Lib.hid hop
    have HO3 := Lib.hid (own_lo (lo' := w.heap.size) ho hB.out.size)
    have hB3 := Lib.hid (Below.chain hB.out hb3)
    clear ho hop hb3
    generalize d ++ p = all at *
    go_wp2
    go_ret2
    refine ⟨v, es, true, rfl, HO3.out, .inl ⟨rfl, ?_⟩, hB3.out⟩
    obtain ⟨es', h⟩ := HI.out.1 trivial
    have h2 := HOp.out
    rw [HAL.out] at h2
    rw [(h2.uniq h.opens).1]; exact h
end Go.Proofs.YtfflbbgipbnckaaDoor
