/- Texts of this claim, gathered: DrawLg, LogA2. -/
import Derived.Test.YtbobiiodbbcodaaDoorK6
import Derived.Lib.ConvBytes
import Derived.Laws.IdiomStrings
import Derived.Deep.RegionHeld3
namespace Go.Proofs.YtbobiiodbbcodaaDoor
open Go.RowKit
set_option linter.unusedVariables false
set_option linter.unusedSimpArgs false
set_option maxRecDepth 100000
theorem Sl.partsW {w : World} {v : Value} {n : Nat} {xs : List Value} (h : Sl w 1 v n xs) : ∃ a c, v = .slice a n c ∧ n ≤ c ∧ c ≤ 9223372036854775807 ∧
    Hid (∀ k x, xs[k]? = some x → ∃ b off, a = some ⟨b, off, none⟩ ∧ w.cell? ⟨b, off + k, none⟩ = some x) := by
  obtain ⟨a, c, rfl, h1, h2, h3, h4⟩ := h
  refine ⟨a, c, rfl, h1, by unfold maxLen at h2; omega, fun k x hk => ?_⟩
  have hlt : k < xs.length := (List.getElem?_eq_some_iff.1 hk).1
  obtain ⟨b, off, rfl, hc⟩ := h4 (by omega)
  exact ⟨b, off, rfl, by rw [hc k (by omega), hk]⟩
def DrawTx (w : World) (g m n : Nat) (e : Ending) (w' : World) : Prop := ∃ s : ByteArray, e = .returned (.string s) ∧ s.size ≤ n ∧ CStep w w' g m
theorem of_c (v : Value) (xs : List ByteArray) (B g m : Nat) (w : World) (h : CurAt w g m) (hm : m + 2 < 4611686018427387904) (hv : Sl w 1 v xs.length (xs.map Value.string)) (hne : v.ownBlock ≠ some g) (hp : 0 < xs.length) (hB : ∀ s ∈ xs, s.size ≤ B) :
    Calls Tryd.prog 49 #[.pointer (some ⟨g, 0, none⟩), v] w (DrawTx w g (m + 2) B) := by
  have HC := Lib.hid h
  have HV := Lib.hid hv
  obtain ⟨a, c, rfl, _, _, _⟩ := hv.partsW
  have HNE := Lib.hid hne
  clear h hne hv
  go_enter Tryd.func49, Tryd.ntmps49
  go_wp2_with fail
  refine (pick_c xs.length g m _ HC.out hm).mono ?_
  rintro e w1 ⟨x, rfl, hx, hs⟩
  obtain ⟨k, rfl⟩ := Int.eq_ofNat_of_zero_le hx.1
  have hk : k < xs.length := by have := hx.2 (by omega); omega
  have HS := Lib.hid hs
  obtain ⟨_, _, he, _, _, H2⟩ := (HV.out.grown hs.gr (.inr HNE.out)).partsW
  simp only [Value.slice.injEq, true_and] at he
  obtain ⟨rfl, rfl⟩ := he
  obtain ⟨s, hs2⟩ := elem_at hk
  obtain ⟨b, o, rfl, hc⟩ := H2.out k (.string s) (by rw [List.getElem?_map, hs2.out]; rfl)
  have HB := hB s (List.mem_of_getElem? hs2.out)
  clear hs hx
  go_wp2
  go_ret
  exact ⟨s, rfl, HB, HS.out⟩
theorem strs_lit (w : World) (xs : List ByteArray) (hl : xs.length ≤ 1000) : Sl (w.alloc (.cells (xs.map Value.string).toArray 9)) 1 (.slice (some ⟨w.heap.size, 0, none⟩) xs.length xs.length) xs.length (xs.map Value.string) :=
  Sl.of_own (lo := w.heap.size) (e := 9) (ownsRow_cast (World.ownsRow_lit w (xs.map Value.string).toArray xs.length (Nat.le_refl _) (by unfold maxLen; omega) (by simp)) rfl (by simp))
/-- one of some texts that are written where they are asked for -/
theorem ofL_c (xs : List ByteArray) (B g m : Nat) (w : World) (n : Nat) (hn : n = w.heap.size) (h : CurAt w g m) (hm : m + 2 < 4611686018427387904) (hp : 0 < xs.length) (hl : xs.length ≤ 1000) (hB : ∀ s ∈ xs, s.size ≤ B) :
    Calls Tryd.prog 49 #[.pointer (some ⟨g, 0, none⟩), .slice (some ⟨n, 0, none⟩) xs.length xs.length] (w.alloc (.cells (xs.map Value.string).toArray 9)) (DrawTx w g (m + 2) B) := by
  subst hn
  exact (of_c _ xs B g m _ (h.alloc _) hm (strs_lit w xs hl) (by have := h.lt; simp [Value.ownBlock]; omega) hp hB).mono fun e w' ⟨x, he, hx, hs⟩ =>
    ⟨x, he, hx, ⟨grow_trans (grow_below (below_one _)) hs.gr, hs.cur⟩⟩
theorem spoilt_c (t : ByteArray) (g m : Nat) (w : World) (h : CurAt w g m) (hm : m + 10 < 4611686018427387904) (ht : t.size ≤ 1048576) :
    Calls Tryd.prog 47 #[.pointer (some ⟨g, 0, none⟩), .string t, .string ⟨#[35, 64, 10, 48, 49]⟩] w (DrawTx w g (m + 10) (t.size + 1)) := by
  have HC := Lib.hid h
  clear h
  by_cases h0 : t.size = 0
  · have he : t.toList.isEmpty = true := by rw [empty_size]; simp [h0]
    go_enter Tryd.func47, Tryd.ntmps47
    go_wp2
    go_ret
    exact ⟨_, rfl, by simp; omega, (CStep.refl HC.out).mono (by omega)⟩
  · have he : t.toList.isEmpty = false := by rw [empty_size]; simp [h0]
    go_enter Tryd.func47, Tryd.ntmps47
    go_wp2_with fail
    refine (pick_c t.size g m _ HC.out (by omega)).mono ?_
    rintro e w1 ⟨x, rfl, hx, hs⟩
    obtain ⟨i, rfl⟩ := Int.eq_ofNat_of_zero_le hx.1
    have hi : i < t.size := by have := hx.2 (by omega); omega
    have HS := Lib.hid hs
    clear hs hx
    go_wp2_with fail
    refine (pick_c 5 g _ _ HS.out.cur (by omega)).mono ?_
    rintro e w2 ⟨x, rfl, hx, hs⟩
    obtain ⟨j, rfl⟩ := Int.eq_ofNat_of_zero_le hx.1
    have hj : j < 5 := by have := hx.2 (by omega); omega
    have HS2 := Lib.hid (HS.out.trans hs)
    clear hs hx
    have h5 : (⟨#[35, 64, 10, 48, 49]⟩ : ByteArray).size = 5 := rfl
    have hw : (((⟨#[35, 64, 10, 48, 49]⟩ : ByteArray).extract j 5).extract 0 1).size = 1 := by rw [ByteArray.size_extract, ByteArray.size_extract, h5]; omega
    go_wp2_with fail
    refine (pick_c 3 g _ _ HS2.out.cur (by omega)).mono ?_
    rintro e w3 ⟨x, rfl, hx, hs⟩
    generalize ((⟨#[35, 64, 10, 48, 49]⟩ : ByteArray).extract j 5).extract 0 1 = W at *
    generalize (⟨#[35, 64, 10, 48, 49]⟩ : ByteArray).extract j 5 = W2 at *
    have HS3 := Lib.hid ((HS2.out.trans hs).mono (m' := m + 10) (by omega))
    have x0 := hx.1
    have x1 := hx.2 (by omega)
    clear hs hx HS HS2
    have hs1 : ¬ 9223372036854775807 < min i t.size + W.size := by omega
    have hs2 : ¬ 9223372036854775807 < min i t.size + W.size + (t.size - i) := by omega
    by_cases e0 : x = 0
    · subst e0
      go_wp2
      go_region
      go_wp2
      go_ret
      exact ⟨_, rfl, by simp only [ByteArray.size_append, ByteArray.size_extract]; omega, HS3.out.drew⟩
    · by_cases e1 : x = 1
      · subst e1
        go_wp2
        go_region
        go_wp2
        go_ret
        exact ⟨_, rfl, by simp only [ByteArray.size_append, ByteArray.size_extract]; omega, HS3.out.drew⟩
      · go_wp2
        go_region
        go_wp2
        go_ret
        exact ⟨_, rfl, by simp only [ByteArray.size_append, ByteArray.size_extract]; omega, HS3.out.drew⟩
/-- a row of n bytes of nought -/
def zerosW (W : World) (n : Nat) : World := W.alloc (.cells (madeCells (Value.int .u8 0).cells n) 5)
def zeroT (n : Nat) : ByteArray := bs (List.replicate n 0)
theorem zeroT_size (n : Nat) : (zeroT n).size = n := by unfold zeroT; rw [bs_size]; simp
theorem zeros_below (W : World) (n : Nat) : Below W.heap.size W (zerosW W n) := below_one _
theorem zeros_size (W : World) (n : Nat) : (zerosW W n).heap.size = W.heap.size + 1 := by unfold zerosW; rw [World.size_alloc]
theorem zeros_make (W : World) (n : Nat) (hn : n ≤ 100000) : (Instr.makeSlice 22 (.int .i64 (n : Int)) (.int .i64 (n : Int))).run Tryd.prog W = .ok (.slice (some ⟨W.heap.size, 0, none⟩) n n) (zerosW W n) := by
  obtain ⟨i, hi, hz0, hz1, hz2⟩ := info_parts info_u8
  have h := run_makeSlice (P := Tryd.prog) W 22 5 i (.int .u8 0) Tryd.underlying22 hi hz0 .i64 .i64 (n : Int) (n : Int) (by omega) (Int.le_refl _) (by rw [hz1, Int.toNat_natCast]; omega) (by rw [hz2]; omega) (by omega)
  rw [hz1, Int.toNat_natCast, Nat.mul_one] at h
  exact h
theorem zeros_text (W : World) (n : Nat) : (convert 22 9 (.slice (some ⟨W.heap.size, 0, none⟩) n n)).run Tryd.prog (zerosW W n) = .ok (.string (zeroT n)) (zerosW W n) := by
  have h := run_convert_bytes_back (P := Tryd.prog) (zerosW W n) 22 9 5 ⟨W.heap.size, 0, none⟩ n (List.replicate n 0) Tryd.underlying22 Tryd.underlying5 Tryd.underlying9 (fun j hj => by
    rw [Addr.add_lit, Nat.zero_add, List.getElem_replicate]
    rw [List.length_replicate] at hj
    unfold zerosW
    refine (new_cell W _ _ j (.int .u8 0) ?_)
    unfold madeCells
    rw [Array.getElem?_map, Array.getElem?_range, if_pos hj]
    have : j % (Value.int .u8 0).cells.size = 0 := Nat.mod_one j
    simp only [Option.map_some, this]; rfl)
  rw [List.length_replicate] at h
  exact h
theorem Bk.two' {w : World} {g t : Nat} {a b : Value} (h : Bk w g t #[a, b]) : w.cell? ⟨g, 0, none⟩ = some a ∧ w.cell? ⟨g, 1, none⟩ = some b ∧ w.frozen? ⟨g, 0, none⟩ = false ∧ w.frozen? ⟨g, 1, none⟩ = false := ⟨h.cell 0, h.cell 1, h.frozen 0, h.frozen 1⟩
def DrawRec (w : World) (g m : Nat) (e : Ending) (w' : World) : Prop := ∃ c r : ByteArray, e = .returned (recV c r) ∧ c.size ≤ 100 ∧ r.size ≤ 100 ∧ CStep w w' g m
set_option maxHeartbeats 1000000 in
theorem logRecord_c (g m : Nat) (w : World) (h : CurAt w g m) (hm : m + 10 < 4611686018427387904) :
    Calls Tryd.prog 30 #[.pointer (some ⟨g, 0, none⟩)] w (DrawRec w g (m + 10)) := by
  have hga := h.lt
  have HB0 := Lib.hid (Bk.new w 25 #[.string ⟨#[]⟩, .string ⟨#[]⟩])
  have HC := Lib.hid ((CStep.refl h).alloc (.cells #[.string ⟨#[]⟩, .string ⟨#[]⟩] 25))
  unfold DrawRec recV
  clear h
  go_enter Tryd.func30, Tryd.ntmps30
  go_wp2_with fail
  refine (ofL_c [⟨#[114, 111, 119]⟩, ⟨#[115, 104, 111, 119, 32, 49, 32, 56]⟩, ⟨#[120]⟩, ⟨#[100, 97, 114, 107, 32, 48, 32, 54]⟩, ⟨#[48, 32, 49]⟩] 100 g m _ _ (by simp) HC.out.cur (by omega) (by decide) (by decide) (by decide)).mono ?_
  rintro e w1 ⟨c, rfl, hc, hs⟩
  have HS := Lib.hid (HC.out.trans hs)
  have X1 := Lib.hid (HB0.out.step hs (by omega))
  clear hs HC HB0
  go_wp2_with fail
  refine (ofL_c [⟨#[]⟩, ⟨#[51]⟩, ⟨#[63]⟩, ⟨#[97, 64, 98]⟩, ⟨#[51, 32, 49, 32, 50]⟩] 100 g (m + 2) _ _ (by simp) HS.out.cur (by omega) (by decide) (by decide) (by decide)).mono ?_
  rintro e w2 ⟨r, rfl, hr, hs⟩
  have HS2 := Lib.hid (HS.out.trans hs)
  have X2 := Lib.hid (X1.out.step hs (by omega))
  clear hs HS X1
  have hg2 := HS2.out.cur.lt
  have lt2 : w.heap.size < w2.heap.size := X2.out.lt
  have E0 := Lib.hid (Bk.new w2 25 #[.string c, .string r])
  have X3 := Lib.hid (X2.out.alloc (.cells #[.string c, .string r] 25))
  have HS3 := Lib.hid (HS2.out.alloc (.cells #[.string c, .string r] 25))
  clear HS2 X2
  go_wp2_with fail
  refine (pick_c 24 g (m + 4) _ HS3.out.cur (by omega)).mono ?_
  rintro e w4 ⟨x, rfl, hx, hs⟩
  have HS4 := Lib.hid (HS3.out.trans hs)
  have X4 := Lib.hid (X3.out.step hs (by omega))
  have E4 := Lib.hid (E0.out.step hs (by omega))
  clear hs HS3 X3 E0
  by_cases e0 : x = 0
  · subst e0
    clear hx
    have hmk : (Instr.makeSlice 22 (.int .i64 3) (.int .i64 3)).run Tryd.prog w4 = .ok (.slice (some ⟨w4.heap.size, 0, none⟩) 3 3) (zerosW w4 3) := zeros_make w4 3 (by omega)
    have htx := zeros_text w4 3
    have hzs := zeros_size w4 3
    have HZ := Lib.hid (zeros_below w4 3)
    have hz3 := Lib.hid (show (zeroT 3).size ≤ 100 by rw [zeroT_size]; omega)
    have hlt4 : w2.heap.size < w4.heap.size := E4.out.lt
    have HS5 := Lib.hid (HS4.out.below HZ.out)
    have X5 := Lib.hid (X4.out.below HZ.out)
    have E5 := Lib.hid (E4.out.below HZ.out)
    clear HZ HS4 X4 E4
    generalize zerosW w4 3 = wz at *
    generalize zeroT 3 = zt at *
    go_wp2_with fail
    refine (ofL_c [⟨#[]⟩, ⟨#[97, 64, 98]⟩, ⟨#[97, 35]⟩, ⟨#[10]⟩, zt] 100 g (m + 4 + 2) wz _ hzs.symm HS5.out.cur (by omega) (by simp) (by simp) ?hB).mono ?_
    case hB =>
      intro s hs
      simp only [List.mem_cons, List.not_mem_nil, or_false] at hs
      rcases hs with rfl | rfl | rfl | rfl | rfl
      · decide
      · decide
      · decide
      · decide
      · exact hz3.out
    rintro e w6 ⟨c2, rfl, hc2, hs⟩
    have HS6 := Lib.hid (HS5.out.trans hs)
    have X6 := Lib.hid (X5.out.step hs (by omega))
    have E6 := Lib.hid (E5.out.step hs (by omega))
    clear hs HS5 X5 E5
    obtain ⟨q0, q1, p0, p1⟩ := E6.out.two'
    obtain ⟨_, _, f0, f1⟩ := X6.out.two'
    go_wp2
    obtain ⟨z0, z1⟩ := two_res (X6.out.other (p := ⟨w2.heap.size, 0, none⟩) (by show w.heap.size ≠ w2.heap.size; omega) (.string c2)) (.string c2) (.string r)
    exact bodyPost_ret (v := .agg #[.string c2, .string r]) (by simp [results, Tryd.results30, go_sem, z0, z1]) rfl ⟨c2, r, rfl, hc2, hr, (((HS6.out.store hga (p := ⟨w2.heap.size, 0, none⟩) (Nat.le_of_lt lt2) _).store hga (p := ⟨w.heap.size, 0, none⟩) (Nat.le_refl _) _).store hga (p := ⟨w.heap.size, 1, none⟩) (Nat.le_refl _) _).mono (by omega)⟩
  · by_cases e1 : x = 1
    · subst e1
      clear hx
      go_wp2_with fail
      refine (ofL_c [⟨#[35]⟩, ⟨#[10]⟩, ⟨#[127]⟩] 100 g _ w4 _ rfl HS4.out.cur (by omega) (by decide) (by decide) (by decide)).mono ?_
      rintro e w6 ⟨r2, rfl, hr2, hs⟩
      have HS6 := Lib.hid (HS4.out.trans hs)
      have X6 := Lib.hid (X4.out.step hs (by omega))
      have E6 := Lib.hid (E4.out.step hs (by omega))
      clear hs HS4 X4 E4
      obtain ⟨q0, q1, p0, p1⟩ := E6.out.two'
      obtain ⟨_, _, f0, f1⟩ := X6.out.two'
      go_wp2
      obtain ⟨z0, z1⟩ := two_res (X6.out.other (p := ⟨w2.heap.size, 1, none⟩) (by show w.heap.size ≠ w2.heap.size; omega) (.string r2)) (.string c) (.string r2)
      exact bodyPost_ret (v := .agg #[.string c, .string r2]) (by simp [results, Tryd.results30, go_sem, z0, z1]) rfl ⟨c, r2, rfl, hc, hr2, (((HS6.out.store hga (p := ⟨w2.heap.size, 1, none⟩) (Nat.le_of_lt lt2) _).store hga (p := ⟨w.heap.size, 0, none⟩) (Nat.le_refl _) _).store hga (p := ⟨w.heap.size, 1, none⟩) (Nat.le_refl _) _).mono (by omega)⟩
    · obtain ⟨q0, q1, _, _⟩ := E4.out.two'
      obtain ⟨_, _, f0, f1⟩ := X4.out.two'
      go_wp2
      obtain ⟨z0, z1⟩ := two_res X4.out (.string c) (.string r)
      exact bodyPost_ret (v := .agg #[.string c, .string r]) (by simp [results, Tryd.results30, go_sem, z0, z1]) rfl ⟨c, r, rfl, hc, hr, ((HS4.out.store hga (p := ⟨w.heap.size, 0, none⟩) (Nat.le_refl _) _).store hga (p := ⟨w.heap.size, 1, none⟩) (Nat.le_refl _) _).mono (by omega)⟩
end Go.Proofs.YtbobiiodbbcodaaDoor
namespace Go.Proofs.YtbobiiodbbcodaaDoor
open Go.RowKit
set_option linter.unusedVariables false
set_option linter.unusedSimpArgs false
set_option maxRecDepth 100000
set_option maxHeartbeats 4000000 in
theorem AppendRecordS_c (d p : ByteArray) (n : Int) (c r : ByteArray) (w : World) (hd : d.size ≤ 1048576) (hp : p.size ≤ 1048576) (hc : c.size ≤ 1048576) (hr : r.size ≤ 1048576) : Calls Tryd.prog 14 #[logV d p n, recV c r] w (AppOut d p n c r w) := by
  have HV := Lib.hid (fun w => l12Valid_c d p n w hd hp)
  have HRV := Lib.hid (l12Record_c c r)
  have hbA := below_one (w := w) (.cells #[.string d, .string p, .int .i64 n] 33)
  have hbB := Below.alc hbA (.cells #[.string c, .string r] 25)
  have hb0 := Lib.hid (Below.alc hbB (.cells #[.string ⟨#[]⟩, .string ⟨#[]⟩, .int .i64 0] 33))
  have A0 := Lib.hid (((Bk.new w 33 #[.string d, .string p, .int .i64 n]).alloc (.cells #[.string c, .string r] 25)).alloc (.cells #[.string ⟨#[]⟩, .string ⟨#[]⟩, .int .i64 0] 33))
  have R0 := Bk.alloc (Bk.new (w.alloc (.cells #[.string d, .string p, .int .i64 n] 33)) 25 #[.string c, .string r]) (.cells #[.string ⟨#[]⟩, .string ⟨#[]⟩, .int .i64 0] 33)
  have Z0 := Bk.new ((w.alloc (.cells #[.string d, .string p, .int .i64 n] 33)).alloc (.cells #[.string c, .string r] 25)) 33 #[.string ⟨#[]⟩, .string ⟨#[]⟩, .int .i64 0]
  simp only [World.size_alloc] at R0 Z0
  have HR0 := Lib.hid R0
  have HZ0 := Lib.hid Z0
  clear hbA hbB R0 Z0
  unfold logV recV at *
  go_enter Tryd.func14, Tryd.ntmps14
  go_wp2_with fail
  refine (HV.out _).mono ?_
  rintro e w2 ⟨ok, rfl, hiff, hb2⟩
  have A2 := Lib.hid (A0.out.below hb2)
  have R2 := Lib.hid (HR0.out.below hb2)
  have Z2 := Lib.hid (HZ0.out.below hb2)
  have HBX := Lib.hid (Below.chain hb0.out hb2)
  have HI := Lib.hid hiff
  clear hb2 A0 HR0 HZ0 hb0 hiff HV
  have a0 : w2.cell? ⟨w.heap.size, 0, none⟩ = some (.string d) := A2.out.cell 0
  have a1 : w2.cell? ⟨w.heap.size, 1, none⟩ = some (.string p) := A2.out.cell 1
  have a2 : w2.cell? ⟨w.heap.size, 2, none⟩ = some (.int .i64 n) := A2.out.cell 2
  have r0 : w2.cell? ⟨w.heap.size + 1, 0, none⟩ = some (.string c) := R2.out.cell 0
  have r1 : w2.cell? ⟨w.heap.size + 1, 1, none⟩ = some (.string r) := R2.out.cell 1
  have z0 : w2.cell? ⟨w.heap.size + 1 + 1, 0, none⟩ = some (.string ⟨#[]⟩) := Z2.out.cell 0
  have z1 : w2.cell? ⟨w.heap.size + 1 + 1, 1, none⟩ = some (.string ⟨#[]⟩) := Z2.out.cell 1
  have z2 : w2.cell? ⟨w.heap.size + 1 + 1, 2, none⟩ = some (.int .i64 0) := Z2.out.cell 2
  have f0 : w2.frozen? ⟨w.heap.size + 1 + 1, 0, none⟩ = false := Z2.out.frozen 0
  have f1 : w2.frozen? ⟨w.heap.size + 1 + 1, 1, none⟩ = false := Z2.out.frozen 1
  have f2 : w2.frozen? ⟨w.heap.size + 1 + 1, 2, none⟩ = false := Z2.out.frozen 2
  have FIN : Hid (∀ X w', appV ok (recB c r) d p n c r = X → Below w.heap.size w w' → AppOut d p n c r w (.returned (.tuple #[X.1, .int .i64 X.2])) w') := fun X w' hX hb => by
    subst hX; exact ⟨ok, rfl, HI.out, hb⟩
  cases ok with
  | false =>
    have F := Lib.hid (fun w' => FIN.out _ w' (appV_no rfl))
    unfold logV at F
    clear FIN
    go_wp2
    exact bodyPost_ret (v := .tuple #[.agg #[.string d, .string p, .int .i64 n], .int .i64 1]) (by simp [results, Tryd.results14, go_sem, z0, z1, z2]) rfl (F.out _ (by have hb := HBX.out; exact ((hb.setCell (p := ⟨w.heap.size + 1 + 1, 0, none⟩) (by show w.heap.size ≤ w.heap.size + 1 + 1; omega) _).setCell (p := ⟨w.heap.size + 1 + 1, 1, none⟩) (by show w.heap.size ≤ w.heap.size + 1 + 1; omega) _).setCell (p := ⟨w.heap.size + 1 + 1, 2, none⟩) (by show w.heap.size ≤ w.heap.size + 1 + 1; omega) _))
  | true =>
    go_wp2_with fail
    refine (HRV.out _ (by omega) (by omega)).mono ?_
    rintro e w3 ⟨rfl, hb2⟩
    have A3 := Lib.hid (A2.out.below hb2)
    have R3 := Lib.hid (R2.out.below hb2)
    have Z3 := Lib.hid (Z2.out.below hb2)
    have HBX3 := Lib.hid (Below.chain HBX.out hb2)
    clear hb2 A2 R2 Z2 a0 a1 a2 r0 r1 z0 z1 z2 f0 f1 f2 HBX
    have a0 : w3.cell? ⟨w.heap.size, 0, none⟩ = some (.string d) := A3.out.cell 0
    have a1 : w3.cell? ⟨w.heap.size, 1, none⟩ = some (.string p) := A3.out.cell 1
    have a2 : w3.cell? ⟨w.heap.size, 2, none⟩ = some (.int .i64 n) := A3.out.cell 2
    have r0 : w3.cell? ⟨w.heap.size + 1, 0, none⟩ = some (.string c) := R3.out.cell 0
    have r1 : w3.cell? ⟨w.heap.size + 1, 1, none⟩ = some (.string r) := R3.out.cell 1
    have z0 : w3.cell? ⟨w.heap.size + 1 + 1, 0, none⟩ = some (.string ⟨#[]⟩) := Z3.out.cell 0
    have z1 : w3.cell? ⟨w.heap.size + 1 + 1, 1, none⟩ = some (.string ⟨#[]⟩) := Z3.out.cell 1
    have z2 : w3.cell? ⟨w.heap.size + 1 + 1, 2, none⟩ = some (.int .i64 0) := Z3.out.cell 2
    have f0 : w3.frozen? ⟨w.heap.size + 1 + 1, 0, none⟩ = false := Z3.out.frozen 0
    have f1 : w3.frozen? ⟨w.heap.size + 1 + 1, 1, none⟩ = false := Z3.out.frozen 1
    have f2 : w3.frozen? ⟨w.heap.size + 1 + 1, 2, none⟩ = false := Z3.out.frozen 2
    have HBX := HBX3
    clear HBX3
    rcases hrc : recB c r with _ | _
    · rw [hrc] at FIN
      have F := Lib.hid (fun w' => FIN.out _ w' (appV_no rfl))
      unfold logV at F
      clear FIN hrc
      go_wp2
      exact bodyPost_ret (v := .tuple #[.agg #[.string d, .string p, .int .i64 n], .int .i64 1]) (by simp [results, Tryd.results14, go_sem, z0, z1, z2]) rfl (F.out _ (by have hb := HBX.out; exact ((hb.setCell (p := ⟨w.heap.size + 1 + 1, 0, none⟩) (by show w.heap.size ≤ w.heap.size + 1 + 1; omega) _).setCell (p := ⟨w.heap.size + 1 + 1, 1, none⟩) (by show w.heap.size ≤ w.heap.size + 1 + 1; omega) _).setCell (p := ⟨w.heap.size + 1 + 1, 2, none⟩) (by show w.heap.size ≤ w.heap.size + 1 + 1; omega) _))
    · have HRC := Lib.hid hrc
      rw [hrc] at FIN
      clear hrc
      by_cases h60 : n = 60
      · have t60 : (n == 60) = true := by rw [h60]; rfl
        have F := Lib.hid (fun w' => FIN.out _ w' (appV_full h60))
        unfold logV at F
        clear FIN h60
        go_wp2
        exact bodyPost_ret (v := .tuple #[.agg #[.string d, .string p, .int .i64 n], .int .i64 2]) (by simp [results, Tryd.results14, go_sem, z0, z1, z2]) rfl (F.out _ (by have hb := HBX.out; exact ((hb.setCell (p := ⟨w.heap.size + 1 + 1, 0, none⟩) (by show w.heap.size ≤ w.heap.size + 1 + 1; omega) _).setCell (p := ⟨w.heap.size + 1 + 1, 1, none⟩) (by show w.heap.size ≤ w.heap.size + 1 + 1; omega) _).setCell (p := ⟨w.heap.size + 1 + 1, 2, none⟩) (by show w.heap.size ≤ w.heap.size + 1 + 1; omega) _))
      · have t60 : (n == 60) = false := by simp; exact h60
        have F := Lib.hid (fun w' => FIN.out _ w' (appV_yes h60))
        unfold logV at F
        obtain ⟨es, hes⟩ := HI.out.1 trivial
        obtain ⟨hn0, hn1, hin, hsz⟩ := app_line hes h60 HRC.out
        have HLN : Hid (∀ w, Calls Tryd.prog 37 #[.int .i64 n, .agg #[.string c, .string r]] w fun e w' => e = .returned (.string (bs (lineS n c.data.toList r.data.toList))) ∧ Below w.heap.size w w') := fun w => by
          have h := l12Line_c n.toNat (by omega) c r w hc hr
          rw [show ((n.toNat : Nat) : Int) = n by omega] at h
          exact h
        clear FIN h60 hes hin
        generalize bs (lineS n c.data.toList r.data.toList) = X at *
        have hXs : ¬ (9223372036854775807 < p.size + X.size) := by omega
        have hw1 : IntKind.i64.wrap (n + 1) = n + 1 := IntWalk.i64_in _ (by omega)
        go_wp2_with fail
        -- REGION
        refine wp_region_held_drew (S := fun w' : World => w'.cell? ⟨w.heap.size, 2, none⟩ = some (.int .i64 n) ∧ w'.cell? ⟨w.heap.size + 1, 0, none⟩ = some (.string c) ∧ w'.cell? ⟨w.heap.size + 1, 1, none⟩ = some (.string r)) (by kernel_rfl) ⟨a2, r0, r1⟩ (fun hHeld => ?_)
        refine' wpAnyH_take (i := 0) (oi := _) (v := _) ?e_1 ?a_1 ?b_1 ?c_1 ?q_1 ?y_1 hHeld ?r_1
        case e_1 => (simp only [List.getElem?_toArray, List.getElem?_cons_zero, List.getElem?_cons_succ]; exact rfl)
        case a_1 => kernel_rfl
        case b_1 => kernel_rfl
        case c_1 => kernel_rfl
        case q_1 => exact fun _ _ _ h => h
        case y_1 => exact Or.inl ⟨by rfl, by (intro w hSw; (try dsimp only at hSw); go_simp; first | done | with_reducible rfl)⟩
        try simp only [Act.put, List.setIfInBounds_toArray, List.set_cons_zero, List.set_cons_succ]
        refine' wpAnyH_take (i := 2) (oi := _) (v := _) ?e_2 ?a_2 ?b_2 ?c_2 ?q_2 ?y_2 hHeld ?r_2
        case e_2 => (simp only [List.getElem?_toArray, List.getElem?_cons_zero, List.getElem?_cons_succ]; exact rfl)
        case a_2 => kernel_rfl
        case b_2 => kernel_rfl
        case c_2 => kernel_rfl
        case q_2 => exact fun _ _ _ h => h
        case y_2 => exact Or.inl ⟨by rfl, by (intro w hSw; (try dsimp only at hSw); go_simp; first | done | with_reducible rfl)⟩
        try simp only [Act.put, List.setIfInBounds_toArray, List.set_cons_zero, List.set_cons_succ]
        refine' wpAnyH_take (i := 3) (oi := _) (v := _) ?e_3 ?a_3 ?b_3 ?c_3 ?q_3 ?y_3 hHeld ?r_3
        case e_3 => (simp only [List.getElem?_toArray, List.getElem?_cons_zero, List.getElem?_cons_succ]; exact rfl)
        case a_3 => kernel_rfl
        case b_3 => kernel_rfl
        case c_3 => kernel_rfl
        case q_3 => exact fun _ _ _ h => h
        case y_3 => exact Or.inl ⟨by rfl, by (intro w hSw; (obtain ⟨hs1, hs2, hs3⟩ := hSw); go_simp; first | done | with_reducible rfl)⟩
        try simp only [Act.put, List.setIfInBounds_toArray, List.set_cons_zero, List.set_cons_succ]
        refine' wpAnyH_take (i := 4) (oi := _) (v := _) ?e_4 ?a_4 ?b_4 ?c_4 ?q_4 ?y_4 hHeld ?r_4
        case e_4 => (simp only [List.getElem?_toArray, List.getElem?_cons_zero, List.getElem?_cons_succ]; exact rfl)
        case a_4 => kernel_rfl
        case b_4 => kernel_rfl
        case c_4 => kernel_rfl
        case q_4 => exact fun _ _ _ h => h
        case y_4 => exact Or.inl ⟨by rfl, by (intro w hSw; (obtain ⟨hs1, hs2, hs3⟩ := hSw); go_simp; first | done | with_reducible rfl)⟩
        try simp only [Act.put, List.setIfInBounds_toArray, List.set_cons_zero, List.set_cons_succ]
        refine wpAnyH_ready (rs := [1, 5]) (by kernel_rfl) (by simp) ?_
        refine' AllReadyH.cons (o := _) ?e_5 ?st_5 ?more_5
        case e_5 => (simp only [List.getElem?_toArray, List.getElem?_cons_zero, List.getElem?_cons_succ]; exact rfl)
        case st_5 =>
          intro K hK
          go_simp
          refine hK.out _ _ ⟨a2, r0, r1⟩ (fun hHeld => ?_)
          clear hK K
          try simp only [Act.put, List.setIfInBounds_toArray, List.set_cons_zero, List.set_cons_succ]
          refine wpAnyH_ready (rs := [5]) (by kernel_rfl) (by simp) ?_
          refine' AllReadyH.cons (o := _) ?e_6 ?st_6 AllReadyH.nil
          case e_6 => (simp only [List.getElem?_toArray, List.getElem?_cons_zero, List.getElem?_cons_succ]; exact rfl)
          case st_6 =>
            intro K hK
            go_simp
            refine (HLN.out _).mono ?_
            rintro e wb ⟨rfl, hbb⟩
            have a0b := cell_later hbb a0
            have a1b := cell_later hbb a1
            have a2b := cell_later hbb a2
            have r0b := cell_later hbb r0
            have r1b := cell_later hbb r1
            have A4 := Lib.hid (Bk.below (w := w3.drew) A3.out hbb)
            have Z4 := Lib.hid (Bk.below (w := w3.drew) Z3.out hbb)
            have HBB := Lib.hid (Below.chain HBX.out.drew hbb)
            have fa1b : wb.frozen? ⟨w.heap.size, 1, none⟩ = false := A4.out.frozen 1
            have fa2b : wb.frozen? ⟨w.heap.size, 2, none⟩ = false := A4.out.frozen 2
            have z0b : wb.cell? ⟨w.heap.size + 1 + 1, 0, none⟩ = some (.string ⟨#[]⟩) := Z4.out.cell 0
            have z1b : wb.cell? ⟨w.heap.size + 1 + 1, 1, none⟩ = some (.string ⟨#[]⟩) := Z4.out.cell 1
            have z2b : wb.cell? ⟨w.heap.size + 1 + 1, 2, none⟩ = some (.int .i64 0) := Z4.out.cell 2
            have f0b : wb.frozen? ⟨w.heap.size + 1 + 1, 0, none⟩ = false := Z4.out.frozen 0
            have f1b : wb.frozen? ⟨w.heap.size + 1 + 1, 1, none⟩ = false := Z4.out.frozen 1
            have f2b : wb.frozen? ⟨w.heap.size + 1 + 1, 2, none⟩ = false := Z4.out.frozen 2
            clear hbb a0 a1 a2 r0 r1 z0 z1 z2 f0 f1 f2 A3 Z3 HBX
            refine hK.out _ _ ⟨a2b, r0b, r1b⟩ (fun hHeld => ?_)
            clear hK K
            try simp only [Act.put, List.setIfInBounds_toArray, List.set_cons_zero, List.set_cons_succ]
            refine' wpAnyH_take (i := 6) (oi := _) (v := _) ?e_7 ?a_7 ?b_7 ?c_7 ?q_7 ?y_7 hHeld ?r_7
            case e_7 => (simp only [List.getElem?_toArray, List.getElem?_cons_zero, List.getElem?_cons_succ]; exact rfl)
            case a_7 => kernel_rfl
            case b_7 => kernel_rfl
            case c_7 => kernel_rfl
            case q_7 => exact fun _ _ _ h => h
            case y_7 => exact Or.inl ⟨by rfl, by (intro w hSw; (try dsimp only at hSw); go_simp; first | done | with_reducible rfl)⟩
            try simp only [Act.put, List.setIfInBounds_toArray, List.set_cons_zero, List.set_cons_succ]
            refine' wpAnyH_take (i := 7) (oi := _) (v := _) ?e_8 ?a_8 ?b_8 ?c_8 ?q_8 ?y_8 hHeld ?r_8
            case e_8 => (simp only [List.getElem?_toArray, List.getElem?_cons_zero, List.getElem?_cons_succ]; exact rfl)
            case a_8 => kernel_rfl
            case b_8 => kernel_rfl
            case c_8 => kernel_rfl
            case q_8 => exact fun _ _ _ h => h
            case y_8 => exact Or.inl ⟨by rfl, by (intro w hSw; (try dsimp only at hSw); go_simp; first | done | with_reducible rfl)⟩
            try simp only [Act.put, List.setIfInBounds_toArray, List.set_cons_zero, List.set_cons_succ]
            refine wpAnyH_ready (rs := [8]) (by kernel_rfl) (by simp) ?_
            refine' AllReadyH.cons (o := _) ?e_9 ?st_9 AllReadyH.nil
            case e_9 => (simp only [List.getElem?_toArray, List.getElem?_cons_zero, List.getElem?_cons_succ]; exact rfl)
            case st_9 =>
              intro K hK
              go_simp
              refine hK.out _ _ ⟨(World.cell?_setCell_other _ _ _ _ (by simp)).trans a2b, (World.cell?_setCell_other _ _ _ _ (by simp)).trans r0b, (World.cell?_setCell_other _ _ _ _ (by simp)).trans r1b⟩ (fun hHeld => ?_)
              clear hK K hHeld
              try simp only [Act.put, List.setIfInBounds_toArray, List.set_cons_zero, List.set_cons_succ]
              refine wpAnyH_done (by kernel_rfl) ?_ _
              go_wp2
              exact bodyPost_ret (v := .tuple #[.agg #[.string d, .string (p ++ X), .int .i64 (n + 1)], .int .i64 0]) (by simp [results, Tryd.results14, go_sem, a0b, a1b, a2b, z0b, z1b, z2b]) rfl (F.out _ (by have hb := HBB.out; exact ((((hb.setCell (p := ⟨w.heap.size, 1, none⟩) (Nat.le_refl _) _).setCell (p := ⟨w.heap.size, 2, none⟩) (Nat.le_refl _) _).setCell (p := ⟨w.heap.size + 1 + 1, 0, none⟩) (by show w.heap.size ≤ w.heap.size + 1 + 1; omega) _).setCell (p := ⟨w.heap.size + 1 + 1, 1, none⟩) (by show w.heap.size ≤ w.heap.size + 1 + 1; omega) _).setCell (p := ⟨w.heap.size + 1 + 1, 2, none⟩) (by show w.heap.size ≤ w.heap.size + 1 + 1; omega) _))
        case more_5 =>
          refine' AllReadyH.cons (o := _) ?e_10 ?st_10 AllReadyH.nil
          case e_10 => (simp only [List.getElem?_toArray, List.getElem?_cons_zero, List.getElem?_cons_succ]; exact rfl)
          case st_10 =>
            intro K hK
            go_simp
            refine (HLN.out _).mono ?_
            rintro e wb ⟨rfl, hbb⟩
            have a0b := cell_later hbb a0
            have a1b := cell_later hbb a1
            have a2b := cell_later hbb a2
            have r0b := cell_later hbb r0
            have r1b := cell_later hbb r1
            have A4 := Lib.hid (Bk.below (w := w3.drew) A3.out hbb)
            have Z4 := Lib.hid (Bk.below (w := w3.drew) Z3.out hbb)
            have HBB := Lib.hid (Below.chain HBX.out.drew hbb)
            have fa1b : wb.frozen? ⟨w.heap.size, 1, none⟩ = false := A4.out.frozen 1
            have fa2b : wb.frozen? ⟨w.heap.size, 2, none⟩ = false := A4.out.frozen 2
            have z0b : wb.cell? ⟨w.heap.size + 1 + 1, 0, none⟩ = some (.string ⟨#[]⟩) := Z4.out.cell 0
            have z1b : wb.cell? ⟨w.heap.size + 1 + 1, 1, none⟩ = some (.string ⟨#[]⟩) := Z4.out.cell 1
            have z2b : wb.cell? ⟨w.heap.size + 1 + 1, 2, none⟩ = some (.int .i64 0) := Z4.out.cell 2
            have f0b : wb.frozen? ⟨w.heap.size + 1 + 1, 0, none⟩ = false := Z4.out.frozen 0
            have f1b : wb.frozen? ⟨w.heap.size + 1 + 1, 1, none⟩ = false := Z4.out.frozen 1
            have f2b : wb.frozen? ⟨w.heap.size + 1 + 1, 2, none⟩ = false := Z4.out.frozen 2
            clear hbb a0 a1 a2 r0 r1 z0 z1 z2 f0 f1 f2 A3 Z3 HBX
            refine hK.out _ _ ⟨a2b, r0b, r1b⟩ (fun hHeld => ?_)
            clear hK K
            try simp only [Act.put, List.setIfInBounds_toArray, List.set_cons_zero, List.set_cons_succ]
            refine wpAnyH_ready (rs := [1]) (by kernel_rfl) (by simp) ?_
            refine' AllReadyH.cons (o := _) ?e_11 ?st_11 AllReadyH.nil
            case e_11 => (simp only [List.getElem?_toArray, List.getElem?_cons_zero, List.getElem?_cons_succ]; exact rfl)
            case st_11 =>
              intro K hK
              go_simp
              refine hK.out _ _ ⟨a2b, r0b, r1b⟩ (fun hHeld => ?_)
              clear hK K
              try simp only [Act.put, List.setIfInBounds_toArray, List.set_cons_zero, List.set_cons_succ]
              refine' wpAnyH_take (i := 6) (oi := _) (v := _) ?e_12 ?a_12 ?b_12 ?c_12 ?q_12 ?y_12 hHeld ?r_12
              case e_12 => (simp only [List.getElem?_toArray, List.getElem?_cons_zero, List.getElem?_cons_succ]; exact rfl)
              case a_12 => kernel_rfl
              case b_12 => kernel_rfl
              case c_12 => kernel_rfl
              case q_12 => exact fun _ _ _ h => h
              case y_12 => exact Or.inl ⟨by rfl, by (intro w hSw; (try dsimp only at hSw); go_simp; first | done | with_reducible rfl)⟩
              try simp only [Act.put, List.setIfInBounds_toArray, List.set_cons_zero, List.set_cons_succ]
              refine' wpAnyH_take (i := 7) (oi := _) (v := _) ?e_13 ?a_13 ?b_13 ?c_13 ?q_13 ?y_13 hHeld ?r_13
              case e_13 => (simp only [List.getElem?_toArray, List.getElem?_cons_zero, List.getElem?_cons_succ]; exact rfl)
              case a_13 => kernel_rfl
              case b_13 => kernel_rfl
              case c_13 => kernel_rfl
              case q_13 => exact fun _ _ _ h => h
              case y_13 => exact Or.inl ⟨by rfl, by (intro w hSw; (try dsimp only at hSw); go_simp; first | done | with_reducible rfl)⟩
              try simp only [Act.put, List.setIfInBounds_toArray, List.set_cons_zero, List.set_cons_succ]
              refine wpAnyH_ready (rs := [8]) (by kernel_rfl) (by simp) ?_
              refine' AllReadyH.cons (o := _) ?e_14 ?st_14 AllReadyH.nil
              case e_14 => (simp only [List.getElem?_toArray, List.getElem?_cons_zero, List.getElem?_cons_succ]; exact rfl)
              case st_14 =>
                intro K hK
                go_simp
                refine hK.out _ _ ⟨(World.cell?_setCell_other _ _ _ _ (by simp)).trans a2b, (World.cell?_setCell_other _ _ _ _ (by simp)).trans r0b, (World.cell?_setCell_other _ _ _ _ (by simp)).trans r1b⟩ (fun hHeld => ?_)
                clear hK K hHeld
                try simp only [Act.put, List.setIfInBounds_toArray, List.set_cons_zero, List.set_cons_succ]
                refine wpAnyH_done (by kernel_rfl) ?_ _
                go_wp2
                exact bodyPost_ret (v := .tuple #[.agg #[.string d, .string (p ++ X), .int .i64 (n + 1)], .int .i64 0]) (by simp [results, Tryd.results14, go_sem, a0b, a1b, a2b, z0b, z1b, z2b]) rfl (F.out _ (by have hb := HBB.out; exact ((((hb.setCell (p := ⟨w.heap.size, 1, none⟩) (Nat.le_refl _) _).setCell (p := ⟨w.heap.size, 2, none⟩) (Nat.le_refl _) _).setCell (p := ⟨w.heap.size + 1 + 1, 0, none⟩) (by show w.heap.size ≤ w.heap.size + 1 + 1; omega) _).setCell (p := ⟨w.heap.size + 1 + 1, 1, none⟩) (by show w.heap.size ≤ w.heap.size + 1 + 1; omega) _).setCell (p := ⟨w.heap.size + 1 + 1, 2, none⟩) (by show w.heap.size ≤ w.heap.size + 1 + 1; omega) _))
        -- END
end Go.Proofs.YtbobiiodbbcodaaDoor
