/- The walk of the law LogRecords: for every log it returns true and turns nothing that was there. -/
import Derived.Test.YtfflbbgipbnckaaDoorHelpR
import Derived.Test.YtfflbbgipbnckaaDoorLwIsValidLog
namespace Go.Proofs.YtfflbbgipbnckaaDoor
open Go.RowKit
set_option linter.unusedVariables false
set_option linter.unusedSimpArgs false
set_option maxRecDepth 100000
theorem lrec_same {d p : ByteArray} {n : Int} {es es' : List (Bs × Bs)} {ok ok' : Bool}
    (h : (ok = true ∧ ValidL d.data.toList p.data.toList n es) ∨ (ok = false ∧ es = [] ∧ ∀ x, ¬ ValidL d.data.toList p.data.toList n x))
    (h' : (ok' = true ∧ ValidL d.data.toList p.data.toList n es') ∨ (ok' = false ∧ es' = [] ∧ ∀ x, ¬ ValidL d.data.toList p.data.toList n x)) : es' = es ∧ ok' = ok := by
  rcases h with ⟨h1, h2⟩ | ⟨h1, h2, h3⟩
  · rcases h' with ⟨k1, k2⟩ | ⟨_, _, k3⟩
    · exact ⟨k2.uniq h2, by rw [h1, k1]⟩
    · exact absurd h2 (k3 _)
  · rcases h' with ⟨k1, k2⟩ | ⟨k1, k2, _⟩
    · exact absurd k2 (h3 _)
    · exact ⟨by rw [h2, k2], by rw [h1, k1]⟩
theorem flatR_str (es : List (Bs × Bs)) : ∀ x ∈ flatR es, ∃ s, x = .string s := by
  intro x hx
  simp only [flatR, List.mem_flatMap, List.mem_cons, List.not_mem_nil, or_false] at hx
  obtain ⟨e, _, rfl | rfl⟩ := hx
  · exact ⟨_, rfl⟩
  · exact ⟨_, rfl⟩
set_option maxHeartbeats 4000000 in
theorem FnExactLogRecords_walk (d p : ByteArray) (n : Int) (w : World) (hd : d.size ≤ 9223372036854775807) (hp : p.size ≤ 9223372036854775807) (ht : Tab w) : Calls Tryd.prog 9 #[logV d p n] w fun e w' => e = .returned (.bool true) ∧ Below w.heap.size w w' := by
  have hb0 := Lib.hid (below_one (w := w) (.cells #[.string d, .string p, .int .i64 n] 36))
  have B0 := Lib.hid (Bk.new w 36 #[.string d, .string p, .int .i64 n])
  have HZ := Lib.hid (fun w' => szLog_c d p n 1048576 w' (by omega) (by omega) hd hp)
  have HT := Lib.hid (fun w' => toLog_c d p n w')
  have HTB := Lib.hid ht
  clear ht
  by_cases hs : szL d p 1048576 < 0
  · unfold logV at *
    go_enter Tryd.func9, Tryd.ntmps9
    go_wp2_with fail
    refine (HZ.out _).mono ?_
    rintro e w1 ⟨rfl, hb1⟩
    go_wp2
    go_ret
    exact ⟨rfl, Below.chain hb0.out hb1⟩
  · have hcr := szL_le hs
    have H1 := Lib.hid (fun w' => LogRecordsS_c d p n w' hcr.1 hcr.2)
    have H2 := Lib.hid (fun w' => LogRecords_c d p n w' hcr.1 hcr.2)
    unfold logV at *
    go_enter Tryd.func9, Tryd.ntmps9
    go_wp2_with fail
    refine (HZ.out _).mono ?_
    rintro e w1 ⟨rfl, hb1⟩
    have B1 := Lib.hid (B0.out.below hb1)
    have q0 : w1.cell? ⟨w.heap.size, 0, none⟩ = some (.string d) := B1.out.cell 0
    have q1 : w1.cell? ⟨w.heap.size, 1, none⟩ = some (.string p) := B1.out.cell 1
    have q2 : w1.cell? ⟨w.heap.size, 2, none⟩ = some (.int .i64 n) := B1.out.cell 2
    have HB1 := Lib.hid (Below.chain hb0.out hb1)
    clear hb1 B0
    go_wp2_with fail
    refine (HT.out _).mono ?_
    rintro e w2 ⟨rfl, hb3⟩
    have B2 := Lib.hid (B1.out.below hb3)
    have HB2 := Lib.hid (Below.chain HB1.out hb3)
    clear hb3 q0 q1 q2 HB1 B1
    go_wp2_with fail
    refine (H1.out _).mono ?_
    rintro e w3 ⟨v1, es, ok, rfl, ho1, hi1, hb3⟩
    have B3 := Lib.hid (B2.out.below hb3)
    have q0 : w3.cell? ⟨w.heap.size, 0, none⟩ = some (.string d) := B3.out.cell 0
    have q1 : w3.cell? ⟨w.heap.size, 1, none⟩ = some (.string p) := B3.out.cell 1
    have q2 : w3.cell? ⟨w.heap.size, 2, none⟩ = some (.int .i64 n) := B3.out.cell 2
    have HB3 := Lib.hid (Below.chain HB2.out hb3)
    have HO1 := Lib.hid ho1
    have L1 := Lib.hid (lt_mono ho1.lt (Nat.le_refl _))
    have HI1 := Lib.hid hi1
    have hle : es.length ≤ 60 := by
      rcases hi1 with ⟨_, h⟩ | ⟨_, h, _⟩
      · exact h.le
      · rw [h]; simp
    clear hb3 HB2 B2 ho1 hi1
    go_wp2_with fail
    refine (HT.out _).mono ?_
    rintro e w4 ⟨rfl, hb3⟩
    have B4 := Lib.hid (B3.out.below hb3)
    have HB4 := Lib.hid (Below.chain HB3.out hb3)
    have HO2 := Lib.hid (own_keep HO1.out hb3)
    have L2 := Lib.hid (lt_mono L1.out hb3.size)
    clear hb3 q0 q1 q2 HB3 B3 HO1 L1
    go_wp2_with fail
    refine (H2.out _ (HTB.out.on HB4.out)).mono ?_
    rintro e w5 ⟨v2, es2, ok2, rfl, ho2, hi2, hb3⟩
    obtain ⟨rfl, rfl⟩ := lrec_same HI1.out hi2
    have B5 := Lib.hid (B4.out.below hb3)
    have HB5 := Lib.hid (Below.chain HB4.out hb3)
    have W5 := Lib.hid (own_keep HO2.out hb3)
    have G5 := Lib.hid ho2
    have hwz : w.heap.size ≤ w4.heap.size := HB4.out.size
    have LG := Lib.hid ho2.lt
    have HBW := Lib.hid (show w.heap.size < w4.heap.size from B4.out.lt)
    clear hb3 ho2 hi2 HB4 B4 HO2
    have hqq : (ok2 != ok2) = false := by simp
    go_wp2_with fail
    refine (eqLogRecordS_c _ _ es2 _ (Sl.of_own G5.out) (Sl.of_own W5.out)).mono ?_
    rintro e w6 ⟨rfl, hb3⟩
    have B6 := Lib.hid (B5.out.below hb3)
    have HB6 := Lib.hid (Below.chain HB5.out hb3)
    have W6 := Lib.hid (own_keep W5.out hb3)
    have G6 := Lib.hid (own_keep G5.out hb3)
    have z6 := hb3.size
    clear hb3 HB5 B5 W5 G5
    go_wp2_with fail
    refine (markLogRecordS_c _ es2.length _ _ _ _ G6.out (flatR_str es2) (by omega)).mono ?_
    rintro e w7 ⟨rfl, ho7, hg7⟩
    have z7 := hg7.size
    have HB7 := Lib.hid (below_mark HB6.out (lt_mono LG.out z6) (by omega) hg7)
    have W7 := Lib.hid (W6.out.kept hg7 (ne_of LG.out L2.out (by omega)))
    have B7 : Hid (Bk w7 w.heap.size 36 #[.string d, .string p, .int .i64 n]) := (hg7.block _ B6.out.lt (fun e => by have := (LG.out _ e.symm).1; have := HBW.out; omega)).trans B6.out
    have G7 := Lib.hid ho7
    have hqm : ((1 + 2 * (es2.length : Int)) != (1 + 2 * (es2.length : Int))) = false := by simp
    clear ho7 hg7 B6 HB6 W6 G6 z6
    go_wp2_with fail
    refine (heldLogRecordS_c _ es2.length _ (Sl.of_own G7.out) (by omega)).mono ?_
    rintro e w8 ⟨rfl, hb3⟩
    have B8 := Lib.hid (B7.out.below hb3)
    have HB8 := Lib.hid (Below.chain HB7.out hb3)
    have W8 := Lib.hid (own_keep W7.out hb3)
    have G8 := Lib.hid (own_keep G7.out hb3)
    have q0 : w8.cell? ⟨w.heap.size, 0, none⟩ = some (.string d) := B8.out.cell 0
    have q1 : w8.cell? ⟨w.heap.size, 1, none⟩ = some (.string p) := B8.out.cell 1
    have q2 : w8.cell? ⟨w.heap.size, 2, none⟩ = some (.int .i64 n) := B8.out.cell 2
    clear hb3 B7 HB7 W7 G7
    go_wp2_with fail
    refine (HT.out _).mono ?_
    rintro e w9 ⟨rfl, hb3⟩
    have HB9 := Lib.hid (Below.chain HB8.out hb3)
    have W9 := Lib.hid (own_keep W8.out hb3)
    have G9 := Lib.hid (own_keep G8.out hb3)
    clear hb3 B8 HB8 W8 G8 q0 q1 q2
    go_wp2_with fail
    refine (H2.out _ (HTB.out.on HB9.out)).mono ?_
    rintro e w10 ⟨v3, es3, ok3, rfl, ho3, hi3, hb3⟩
    obtain ⟨e31, e32⟩ := lrec_same HI1.out hi3
    subst e31 e32
    have HB10 := Lib.hid (Below.chain HB9.out hb3)
    have W10 := Lib.hid (own_keep W9.out hb3)
    have G10 := Lib.hid (own_keep G9.out hb3)
    have V10 := Lib.hid ho3
    clear hb3 HB9 W9 G9 ho3 hi3 HI1
    go_wp2_with fail
    refine (eqLogRecordS_c _ _ _ _ (Sl.of_own V10.out) (Sl.of_own W10.out)).mono ?_
    rintro e w11 ⟨rfl, hb3⟩
    have HB11 := Lib.hid (Below.chain HB10.out hb3)
    have G11 := Lib.hid (own_keep G10.out hb3)
    clear hb3 HB10 W10 G10 V10
    go_wp2_with fail
    refine (heldLogRecordS_c _ _ _ (Sl.of_own G11.out) (by omega)).mono ?_
    rintro e w12 ⟨rfl, hb3⟩
    have HB12 := Lib.hid (Below.chain HB11.out hb3)
    clear hb3 HB11 G11
    go_wp2
    go_ret
    exact ⟨rfl, HB12.out⟩
end Go.Proofs.YtfflbbgipbnckaaDoor
