/- Walks on logs: the laws' copies and comparisons, SyncLog, RecoverLog. -/
import Derived.Test.YtlipkplomndjcaaDoorLogC
namespace Go.Proofs.YtlipkplomndjcaaDoor
open Go.RowKit
set_option linter.unusedVariables false
set_option linter.unusedSimpArgs false
set_option maxRecDepth 100000
def szL (d p : ByteArray) (k : Int) : Int := if k - d.size < 0 then -1 else if k - d.size - p.size < 0 then -1 else k - d.size - p.size
theorem szL_le {d p : ByteArray} (hs : ¬ szL d p 1048576 < 0) : d.size ≤ 1048576 ∧ p.size ≤ 1048576 := by
  unfold szL at hs; split at hs
  · omega
  · split at hs <;> omega
theorem szL_bd (d p : ByteArray) (k : Int) (hk : k ≤ 1048576) : -1 ≤ szL d p k ∧ szL d p k ≤ 1048576 := by
  unfold szL; split
  · omega
  · split <;> omega
theorem szLog_c (d p : ByteArray) (n : Int) (k : Int) (w : World) (hk0 : 0 ≤ k) (hk : k ≤ 1048576) (hd : d.size ≤ 9223372036854775807) (hp : p.size ≤ 9223372036854775807) : Calls Tryd.prog 6 #[logV d p n, .int .i64 k] w fun e w' => e = .returned (.int .i64 (szL d p k)) ∧ Below w.heap.size w w' := by
  unfold logV
  by_cases h1 : k - (d.size : Int) < 0
  · have HF := Lib.hid (show szL d p k = -1 by unfold szL; rw [if_pos h1])
    go_enter Tryd.func6, Tryd.ntmps6
    go_wp2
    go_ret
    exact ⟨by rw [HF.out]; rfl, by (repeat (first | exact Below.refl _ _ | exact (Below.refl _ _).drew | assumption | exact below_one _ | refine Below.chain ?_ (by assumption) | refine Below.drew ?_ | refine Below.alc ?_ _ | refine below_drewN ?_ | (refine Below.setCell ?_ ?_ _) | exact Nat.le_refl _ | (simp; done) | (simp; omega)))⟩
  · by_cases h2 : k - (d.size : Int) - (p.size : Int) < 0
    · have HF := Lib.hid (show szL d p k = -1 by unfold szL; rw [if_neg h1, if_pos h2])
      go_enter Tryd.func6, Tryd.ntmps6
      go_wp2
      go_ret
      exact ⟨by rw [HF.out]; rfl, by (repeat (first | exact Below.refl _ _ | exact (Below.refl _ _).drew | assumption | exact below_one _ | refine Below.chain ?_ (by assumption) | refine Below.drew ?_ | refine Below.alc ?_ _ | refine below_drewN ?_ | (refine Below.setCell ?_ ?_ _) | exact Nat.le_refl _ | (simp; done) | (simp; omega)))⟩
    · have HF := Lib.hid (show szL d p k = k - d.size - p.size by unfold szL; rw [if_neg h1, if_neg h2])
      go_enter Tryd.func6, Tryd.ntmps6
      go_wp2
      go_ret
      exact ⟨by rw [HF.out]; rfl, by (repeat (first | exact Below.refl _ _ | exact (Below.refl _ _).drew | assumption | exact below_one _ | refine Below.chain ?_ (by assumption) | refine Below.drew ?_ | refine Below.alc ?_ _ | refine below_drewN ?_ | (refine Below.setCell ?_ ?_ _) | exact Nat.le_refl _ | (simp; done) | (simp; omega)))⟩
theorem toLog_c (d p : ByteArray) (n : Int) (w : World) : Calls Tryd.prog 8 #[logV d p n] w fun e w' => e = .returned (logV d p n) ∧ Below w.heap.size w w' := by
  unfold logV
  go_enter Tryd.func8, Tryd.ntmps8
  go_wp2
  exact bodyPost_ret (v := .agg #[.string d, .string p, .int .i64 n]) (by simp [results, Tryd.results8, go_sem]) rfl ⟨rfl, by (repeat (first | exact Below.refl _ _ | exact (Below.refl _ _).drew | assumption | exact below_one _ | refine Below.chain ?_ (by assumption) | refine Below.drew ?_ | refine Below.alc ?_ _ | refine below_drewN ?_ | (refine Below.setCell ?_ ?_ _) | exact Nat.le_refl _ | (simp; done) | (simp; omega)))⟩
/-- what SyncLog answers -/
def syncV (ok : Bool) (d p : ByteArray) (n : Int) : Value := if ok then logV (d ++ p) ⟨#[]⟩ n else logV ⟨#[]⟩ ⟨#[]⟩ 0
def SyncOut (d p : ByteArray) (n : Int) (w : World) (e : Ending) (w' : World) : Prop :=
  ∃ ok, e = .returned (.tuple #[syncV ok d p n, .bool ok]) ∧ (ok = true ↔ ∃ es, ValidL d.data.toList p.data.toList n es) ∧ Below w.heap.size w w'
set_option maxHeartbeats 1000000 in
theorem SyncLog_c (d p : ByteArray) (n : Int) (w : World) (hd : d.size ≤ 1048576) (hp : p.size ≤ 1048576) (ht : Tab w) : Calls Tryd.prog 24 #[logV d p n] w (SyncOut d p n w) := by
  have HR := Lib.hid (fun w => IsValidLog_c d p n w hd hp)
  unfold logV at *
  have hb0 := Lib.hid (Below.alc (below_one (w := w) (.cells #[.string d, .string p, .int .i64 n] 27)) (.cells #[.string ⟨#[]⟩, .string ⟨#[]⟩, .int .i64 0] 27))
  have B0 := Lib.hid ((Bk.new w 27 #[.string d, .string p, .int .i64 n]).alloc (.cells #[.string ⟨#[]⟩, .string ⟨#[]⟩, .int .i64 0] 27))
  have C0 := Bk.new (w.alloc (.cells #[.string d, .string p, .int .i64 n] 27)) 27 #[.string ⟨#[]⟩, .string ⟨#[]⟩, .int .i64 0]
  rw [show (w.alloc (.cells #[.string d, .string p, .int .i64 n] 27)).heap.size = w.heap.size + 1 by simp] at C0
  have HC := Lib.hid C0
  have HT := Lib.hid ht
  clear ht C0
  go_enter Tryd.func24, Tryd.ntmps24
  go_wp2_with fail
  refine (HR.out _ (HT.out.on hb0.out)).mono ?_
  rintro e w2 ⟨ok, rfl, hiff, hb2⟩
  have B2 := B0.out.below hb2
  have C2 := HC.out.below hb2
  have hB := Lib.hid (Below.chain hb0.out hb2)
  have q0 : w2.cell? ⟨w.heap.size, 0, none⟩ = some (.string d) := B2.cell 0
  have q1 : w2.cell? ⟨w.heap.size, 1, none⟩ = some (.string p) := B2.cell 1
  have q2 : w2.cell? ⟨w.heap.size, 2, none⟩ = some (.int .i64 n) := B2.cell 2
  have z0 : w2.cell? ⟨w.heap.size + 1, 0, none⟩ = some (.string ⟨#[]⟩) := C2.cell 0
  have z1 : w2.cell? ⟨w.heap.size + 1, 1, none⟩ = some (.string ⟨#[]⟩) := C2.cell 1
  have z2 : w2.cell? ⟨w.heap.size + 1, 2, none⟩ = some (.int .i64 0) := C2.cell 2
  have f0 : w2.frozen? ⟨w.heap.size + 1, 0, none⟩ = false := C2.frozen 0
  have f1 : w2.frozen? ⟨w.heap.size + 1, 1, none⟩ = false := C2.frozen 1
  have f2 : w2.frozen? ⟨w.heap.size + 1, 2, none⟩ = false := C2.frozen 2
  have FIN : Hid (∀ w', Below w.heap.size w w' → SyncOut d p n w (.returned (.tuple #[syncV ok d p n, .bool ok])) w') := fun w' hb => ⟨ok, rfl, hiff, hb⟩
  clear hb2 B2 C2 hiff
  cases ok with
  | false =>
    go_wp2
    exact bodyPost_ret (v := .tuple #[.agg #[.string ⟨#[]⟩, .string ⟨#[]⟩, .int .i64 0], .bool false]) (by simp [results, Tryd.results24, go_sem, z0, z1, z2]) rfl (FIN.out _ (by have hb := hB.out; exact ((hb.setCell (p := ⟨w.heap.size + 1, 0, none⟩) (Nat.le_succ _) _).setCell (p := ⟨w.heap.size + 1, 1, none⟩) (Nat.le_succ _) _).setCell (p := ⟨w.heap.size + 1, 2, none⟩) (Nat.le_succ _) _))
  | true =>
    go_wp2
    exact bodyPost_ret (v := .tuple #[.agg #[.string (d ++ p), .string ⟨#[]⟩, .int .i64 n], .bool true]) (by simp [results, Tryd.results24, go_sem, z0, z1, z2]) rfl (FIN.out _ (by have hb := hB.out; exact ((hb.setCell (p := ⟨w.heap.size + 1, 0, none⟩) (Nat.le_succ _) _).setCell (p := ⟨w.heap.size + 1, 1, none⟩) (Nat.le_succ _) _).setCell (p := ⟨w.heap.size + 1, 2, none⟩) (Nat.le_succ _) _))
set_option maxHeartbeats 1000000 in
theorem SyncLogS_c (d p : ByteArray) (n : Int) (w : World) (hd : d.size ≤ 1048576) (hp : p.size ≤ 1048576) : Calls Tryd.prog 25 #[logV d p n] w (SyncOut d p n w) := by
  have HR := Lib.hid (fun w => l12Valid_c d p n w hd hp)
  unfold logV at *
  have hb0 := Lib.hid (Below.alc (below_one (w := w) (.cells #[.string d, .string p, .int .i64 n] 27)) (.cells #[.string ⟨#[]⟩, .string ⟨#[]⟩, .int .i64 0] 27))
  have B0 := Lib.hid ((Bk.new w 27 #[.string d, .string p, .int .i64 n]).alloc (.cells #[.string ⟨#[]⟩, .string ⟨#[]⟩, .int .i64 0] 27))
  have C0 := Bk.new (w.alloc (.cells #[.string d, .string p, .int .i64 n] 27)) 27 #[.string ⟨#[]⟩, .string ⟨#[]⟩, .int .i64 0]
  rw [show (w.alloc (.cells #[.string d, .string p, .int .i64 n] 27)).heap.size = w.heap.size + 1 by simp] at C0
  have HC := Lib.hid C0
  clear C0
  go_enter Tryd.func25, Tryd.ntmps25
  go_wp2_with fail
  refine (HR.out _).mono ?_
  rintro e w2 ⟨ok, rfl, hiff, hb2⟩
  have B2 := B0.out.below hb2
  have C2 := HC.out.below hb2
  have hB := Lib.hid (Below.chain hb0.out hb2)
  have q0 : w2.cell? ⟨w.heap.size, 0, none⟩ = some (.string d) := B2.cell 0
  have q1 : w2.cell? ⟨w.heap.size, 1, none⟩ = some (.string p) := B2.cell 1
  have q2 : w2.cell? ⟨w.heap.size, 2, none⟩ = some (.int .i64 n) := B2.cell 2
  have z0 : w2.cell? ⟨w.heap.size + 1, 0, none⟩ = some (.string ⟨#[]⟩) := C2.cell 0
  have z1 : w2.cell? ⟨w.heap.size + 1, 1, none⟩ = some (.string ⟨#[]⟩) := C2.cell 1
  have z2 : w2.cell? ⟨w.heap.size + 1, 2, none⟩ = some (.int .i64 0) := C2.cell 2
  have f0 : w2.frozen? ⟨w.heap.size + 1, 0, none⟩ = false := C2.frozen 0
  have f1 : w2.frozen? ⟨w.heap.size + 1, 1, none⟩ = false := C2.frozen 1
  have f2 : w2.frozen? ⟨w.heap.size + 1, 2, none⟩ = false := C2.frozen 2
  have FIN : Hid (∀ w', Below w.heap.size w w' → SyncOut d p n w (.returned (.tuple #[syncV ok d p n, .bool ok])) w') := fun w' hb => ⟨ok, rfl, hiff, hb⟩
  clear hb2 B2 C2 hiff
  cases ok with
  | false =>
    go_wp2
    exact bodyPost_ret (v := .tuple #[.agg #[.string ⟨#[]⟩, .string ⟨#[]⟩, .int .i64 0], .bool false]) (by simp [results, Tryd.results25, go_sem, z0, z1, z2]) rfl (FIN.out _ (by have hb := hB.out; exact ((hb.setCell (p := ⟨w.heap.size + 1, 0, none⟩) (Nat.le_succ _) _).setCell (p := ⟨w.heap.size + 1, 1, none⟩) (Nat.le_succ _) _).setCell (p := ⟨w.heap.size + 1, 2, none⟩) (Nat.le_succ _) _))
  | true =>
    go_wp2
    exact bodyPost_ret (v := .tuple #[.agg #[.string (d ++ p), .string ⟨#[]⟩, .int .i64 n], .bool true]) (by simp [results, Tryd.results25, go_sem, z0, z1, z2]) rfl (FIN.out _ (by have hb := hB.out; exact ((hb.setCell (p := ⟨w.heap.size + 1, 0, none⟩) (Nat.le_succ _) _).setCell (p := ⟨w.heap.size + 1, 1, none⟩) (Nat.le_succ _) _).setCell (p := ⟨w.heap.size + 1, 2, none⟩) (Nat.le_succ _) _))
theorem ok_same {a b : Bool} {q : Prop} (h1 : a = true ↔ q) (h2 : b = true ↔ q) : a = b := by
  rw [Bool.eq_iff_iff, h1, h2]
end Go.Proofs.YtlipkplomndjcaaDoor
