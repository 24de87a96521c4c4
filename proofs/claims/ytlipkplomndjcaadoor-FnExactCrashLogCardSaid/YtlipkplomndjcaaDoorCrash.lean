/- Walks: CrashLog, both texts. -/
import Derived.Test.YtlipkplomndjcaaDoorLogL
import Derived.Lib.ConvBytes
import Derived.Lib.SmallJoins
import Derived.Laws.IdiomStrings
import Derived.Deep.RegionHeld3
namespace Go.Proofs.YtlipkplomndjcaaDoor
open Go.RowKit
set_option linter.unusedVariables false
set_option linter.unusedSimpArgs false
set_option maxRecDepth 100000
/-- the last byte turned -/
def tornB (l : Bs) : Bs := l.set (l.length - 1) (255 - l.getD (l.length - 1) 0)
theorem tornB_len (l : Bs) : (tornB l).length = l.length := by simp [tornB]
theorem tornB_append (a b : Bs) (h : b ≠ []) : tornB (a ++ b) = a ++ tornB b := by
  have hb : 0 < b.length := List.length_pos_iff.2 h
  unfold tornB
  rw [List.length_append, show a.length + b.length - 1 = a.length + (b.length - 1) by omega, List.set_append_right _ _ (by omega)]
  congr 2
  · omega
  · congr 1
    simp [List.getD, List.getElem?_append_right]
theorem tornB_at {l : Bs} {j : Nat} (hj : j < l.length) (h : j ≠ l.length - 1) : (tornB l).getD j 0 = l.getD j 0 := by
  unfold tornB
  simp only [List.getD]
  rw [List.getElem?_set_ne (by omega)]
theorem tornB_last {l : Bs} (hl : 0 < l.length) : (tornB l).getD (l.length - 1) 0 = 255 - l.getD (l.length - 1) 0 := by
  unfold tornB
  simp only [List.getD]
  rw [List.getElem?_set_self (by omega)]
  rfl
theorem u8_neg (c : UInt8) : (((255 - c : UInt8)).toNat : Int) = 255 - (c.toNat : Int) := by
  have h := c.toNat_lt
  have : (255 - c : UInt8).toNat = 255 - c.toNat := by
    rw [UInt8.toNat_sub_of_le]
    · rfl
    · rw [UInt8.le_iff_toNat_le]; show c.toNat ≤ 255; omega
  rw [this]; omega
/-- what is known of a row of bytes that a conversion has made -/
def ByRow (w : World) (g : Nat) (l : Bs) : Prop := ∀ j, j < l.length → w.cell? ⟨g, j, none⟩ = some (.int .u8 ((l.getD j 0).toNat : Int))
theorem ByRow.back {P : Program} {w : World} {g : Nat} {l : Bs} (h : ByRow w g l) (src dst e : TypeId) (cap : Nat) (hs : P.underlying src = some (.slice e)) (he : P.underlying e = some (.int .u8)) (hd : P.underlying dst = some .string) :
    (convert src dst (.slice (some ⟨g, 0, none⟩) l.length cap)).run P w = .ok (.string (bs l)) w :=
  run_convert_bytes_back w src dst e ⟨g, 0, none⟩ cap l hs he hd (fun j hj => by
    rw [show Addr.add ⟨g, 0, none⟩ j = ⟨g, j, none⟩ by rw [Addr.add_lit]; simp]
    rw [h j hj]
    simp [List.getD, List.getElem?_eq_getElem hj])
theorem byRow_new (w : World) (e : TypeId) (s : ByteArray) : ByRow (Lib.bytesWorld w e s) w.heap.size s.data.toList := fun j hj => Lib.bytesWorld_cell w e s j (by simpa using hj)
theorem bytes_frozen (w : World) (e : TypeId) (s : ByteArray) (j : Nat) (hj : j < s.size) : (Lib.bytesWorld w e s).frozen? ⟨w.heap.size, j, none⟩ = false := by
  unfold World.frozen?
  simp [Lib.bytesWorld_at_new, Lib.bytesCells]
  omega
theorem ByRow.torn {w : World} {g : Nat} {l : Bs} (h : ByRow w g l) (m : Nat) (hm : l.length = m + 1) : ByRow (w.setCell ⟨g, m, none⟩ (.int .u8 (255 - ((l.getD m 0).toNat : Int)))) g (tornB l) := by
  intro j hj
  rw [tornB_len] at hj
  by_cases hjm : j = m
  · subst hjm
    have hx := h j (by omega)
    rw [World.cell?_setCell_same _ _ _ hx]
    have := tornB_last (l := l) (by omega)
    rw [show l.length - 1 = j by omega] at this
    rw [this, u8_neg]
  · rw [World.cell?_setCell_other _ _ _ _ (by intro hh; injection hh with h1 h2; omega)]
    rw [h j hj, tornB_at hj (by omega)]
/-- the bytes behind a crash -/
def crashB (p : Bs) (k : Nat) (torn : Bool) : Bs := if torn && decide (0 < k) then tornB (p.take k) else p.take k
def crashT (d p : ByteArray) (k : Nat) (torn : Bool) : ByteArray := bs (d.data.toList ++ crashB p.data.toList k torn)
def CrashOut (d p : ByteArray) (n keep : Int) (torn : Bool) (w : World) (e : Ending) (w' : World) : Prop :=
  ∃ ok, e = .returned (.tuple #[.string (if ok then crashT d p keep.toNat torn else ⟨#[]⟩), .bool ok]) ∧ (ok = true ↔ (∃ es, ValidL d.data.toList p.data.toList n es) ∧ 0 ≤ keep ∧ keep ≤ p.size) ∧ Below w.heap.size w w'
theorem ext_list (p : ByteArray) (k : Nat) : (p.extract 0 k).data.toList = p.data.toList.take k := by simp
set_option maxHeartbeats 1000000 in
theorem CrashLogS_c (d p : ByteArray) (n keep : Int) (torn : Bool) (w : World) (hd : d.size ≤ 1048576) (hp : p.size ≤ 1048576) : Calls Tryd.prog 7 #[logV d p n, .int .i64 keep, .bool torn] w (CrashOut d p n keep torn w) := by
  have HR := Lib.hid (fun w => l12Valid_c d p n w hd hp)
  unfold logV at *
  have hb0 := Lib.hid (below_one (w := w) (.cells #[.string d, .string p, .int .i64 n] 27))
  have B0 := Lib.hid (Bk.new w 27 #[.string d, .string p, .int .i64 n])
  go_enter Tryd.func7, Tryd.ntmps7
  go_wp2_with fail
  refine (HR.out _).mono ?_
  rintro e w2 ⟨ok, rfl, hiff, hb2⟩
  have B2 := B0.out.below hb2
  have hB := Lib.hid (Below.chain hb0.out hb2)
  have q0 : w2.cell? ⟨w.heap.size, 0, none⟩ = some (.string d) := B2.cell 0
  have q1 : w2.cell? ⟨w.heap.size, 1, none⟩ = some (.string p) := B2.cell 1
  clear hb2 B2
  cases ok with
  | false =>
    have HF := Lib.hid hiff
    clear hiff
    go_wp2
    exact bodyPost_ret (v := .tuple #[.string ⟨#[]⟩, .bool false]) (by simp [results, Tryd.results7, go_sem]) rfl ⟨false, rfl, ⟨(fun h => by cases h), fun h => HF.out.2 h.1⟩, hB.out⟩
  | true =>
    have HF := Lib.hid (hiff.1 rfl)
    clear hiff
    by_cases hin : 0 ≤ keep ∧ keep ≤ p.size
    · obtain ⟨k, rfl⟩ := Int.eq_ofNat_of_zero_le hin.1
      have hk : k ≤ p.size := by omega
      clear hin
      have hqs : (p.extract 0 k).size = k := by simp; omega
      have hcv := Lib.run_convert_string_bytes (P := Tryd.prog) w2 9 30 5 (p.extract 0 k) Tryd.underlying9 Tryd.underlying30 Tryd.underlying5
      have hrow := byRow_new w2 5 (p.extract 0 k)
      have hfz := bytes_frozen w2 5 (p.extract 0 k)
      have hbw := Go.Joins.below_bytesWorld w.heap.size w2 5 (p.extract 0 k) hB.out.size
      have hb3 := Go.Joins.below_bytesWorld w2.heap.size w2 5 (p.extract 0 k) (Nat.le_refl _)
      have r0 := cell_later hb3 q0
      have r1 := cell_later hb3 q1
      have hszw : (Lib.bytesWorld w2 5 (p.extract 0 k)).heap.size = w2.heap.size + 1 := Lib.bytesWorld_size _ _ _
      rw [ext_list] at hrow
      rw [hqs] at hcv hfz
      obtain ⟨wb, hwb⟩ : ∃ wb, wb = Lib.bytesWorld w2 5 (p.extract 0 k) := ⟨_, rfl⟩
      rw [← hwb] at hcv hrow hfz hbw hb3 r0 r1 hszw
      have HROW := Lib.hid hrow
      have HFZ := Lib.hid hfz
      have HB := Lib.hid (Below.trans hB.out hbw)
      have HL : Hid ((p.data.toList.take k).length = k) := by show _ = _; simp; omega
      generalize grownCap w2 k 0 5 = cap at *
      clear hrow hfz hbw hb3 hwb hqs
      have hin : inB (k : Int) 0 (p.size : Int) = true := by simp [inB]; omega
      obtain ⟨t, ht⟩ : ∃ t, t = bs (crashB p.data.toList k torn) := ⟨_, rfl⟩
      have HT := Lib.hid ht
      have FIN : Hid (∀ w', Below w.heap.size w w' → CrashOut d p n (k : Int) torn w (.returned (.tuple #[.string (d ++ t), .bool true])) w') := fun w' hb => ⟨true, by rw [ht, if_pos rfl, crashT, ← bs_append, bs_of]; rfl, ⟨fun _ => ⟨HF.out, by omega, by omega⟩, fun _ => rfl⟩, hb⟩
      have hts : t.size = k := by rw [ht, bs_size]; unfold crashB; split <;> simp [tornB_len] <;> omega
      clear ht
      go_wp2_with fail
      refine (l1In_c _ _ _ _).mono ?_
      rintro e w3 ⟨rfl, rfl⟩
      rw [hin]
      clear hin
      by_cases hto : torn = true ∧ 0 < k
      · obtain ⟨rfl, hk0⟩ := hto
        obtain ⟨m, rfl⟩ : ∃ m, k = m + 1 := ⟨k - 1, by omega⟩
        have hE : t = bs (tornB (p.data.toList.take (m + 1))) := by rw [HT.out, crashB, if_pos (by rw [Bool.true_and]; exact decide_eq_true hk0)]
        have hc := HROW.out m (by have := HL.out; omega)
        have hbk := (HROW.out.torn m HL.out).back (P := Tryd.prog) 30 9 5 cap Tryd.underlying30 Tryd.underlying5 Tryd.underlying9
        rw [tornB_len, HL.out, ← hE] at hbk
        have hz := HFZ.out m (Nat.lt_succ_self m)
        have h255 : ((List.take (m + 1) p.data.toList).getD m 0).toNat < 256 := UInt8.toNat_lt _
        generalize ((List.take (m + 1) p.data.toList).getD m 0).toNat = c at *
        have hlt : w.heap.size < w2.heap.size := World.block_lt_of_cell? _ _ q0
        have s0 : (wb.setCell ⟨w2.heap.size, m, none⟩ (.int .u8 (255 - (c : Int)))).cell? ⟨w.heap.size, 0, none⟩ = some (.string d) := by
          rw [World.cell?_setCell_other _ _ _ _ (by intro hh; injection hh with h1 h2; omega)]; exact r0
        clear hE
        go_wp2
        exact bodyPost_ret (v := .tuple #[.string (d ++ t), .bool true]) (by simp [results, Tryd.results7, go_sem]) rfl (FIN.out _ (HB.out.setCell (p := ⟨w2.heap.size, m, none⟩) hB.out.size _))
      · have hE : t = bs (p.data.toList.take k) := by
          rw [HT.out, crashB]
          cases torn with
          | false => rfl
          | true => rw [if_neg (by simp at hto ⊢; omega)]
        have hbk := HROW.out.back (P := Tryd.prog) 30 9 5 cap Tryd.underlying30 Tryd.underlying5 Tryd.underlying9
        rw [HL.out, ← hE] at hbk
        clear hE
        cases torn with
        | false =>
          go_wp2
          exact bodyPost_ret (v := .tuple #[.string (d ++ t), .bool true]) (by simp [results, Tryd.results7, go_sem]) rfl (FIN.out _ HB.out)
        | true =>
          have hd0 : ¬ 0 < k := by simpa using hto
          clear hto
          go_wp2
          exact bodyPost_ret (v := .tuple #[.string (d ++ t), .bool true]) (by simp [results, Tryd.results7, go_sem]) rfl (FIN.out _ HB.out)
    · have hin' : inB keep 0 (p.size : Int) = false := by simp [inB]; omega
      have HI := Lib.hid hin
      clear hin
      go_wp2_with fail
      refine (l1In_c _ _ _ _).mono ?_
      rintro e w3 ⟨rfl, rfl⟩
      rw [hin']
      clear hin'
      go_wp2
      exact bodyPost_ret (v := .tuple #[.string ⟨#[]⟩, .bool false]) (by simp [results, Tryd.results7, go_sem]) rfl ⟨false, rfl, ⟨(fun h => by cases h), fun h => (HI.out h.2).elim⟩, hB.out⟩
set_option maxHeartbeats 1000000 in
theorem CrashLog_c (d p : ByteArray) (n keep : Int) (torn : Bool) (w : World) (hd : d.size ≤ 1048576) (hp : p.size ≤ 1048576) (ht : Tab w) : Calls Tryd.prog 9 #[logV d p n, .int .i64 keep, .bool torn] w (CrashOut d p n keep torn w) := by
  have HR := Lib.hid (fun w => IsValidLog_c d p n w hd hp)
  have HT := Lib.hid ht
  clear ht
  unfold logV at *
  have hb0 := Lib.hid (below_one (w := w) (.cells #[.string d, .string p, .int .i64 n] 27))
  have B0 := Lib.hid (Bk.new w 27 #[.string d, .string p, .int .i64 n])
  go_enter Tryd.func9, Tryd.ntmps9
  go_wp2_with fail
  refine (HR.out _ (HT.out.on hb0.out)).mono ?_
  rintro e w2 ⟨ok, rfl, hiff, hb2⟩
  have B2 := B0.out.below hb2
  have hB := Lib.hid (Below.chain hb0.out hb2)
  have q0 : w2.cell? ⟨w.heap.size, 0, none⟩ = some (.string d) := B2.cell 0
  have q1 : w2.cell? ⟨w.heap.size, 1, none⟩ = some (.string p) := B2.cell 1
  clear hb2 B2 HT
  cases ok with
  | false =>
    have HF := Lib.hid hiff
    clear hiff
    go_wp2
    exact bodyPost_ret (v := .tuple #[.string ⟨#[]⟩, .bool false]) (by simp [results, Tryd.results9, go_sem]) rfl ⟨false, rfl, ⟨(fun h => by cases h), fun h => HF.out.2 h.1⟩, hB.out⟩
  | true =>
    have HF := Lib.hid (hiff.1 rfl)
    clear hiff
    by_cases hin : 0 ≤ keep ∧ keep ≤ p.size
    · obtain ⟨k, rfl⟩ := Int.eq_ofNat_of_zero_le hin.1
      have hk : k ≤ p.size := by omega
      clear hin
      have hin : inB (k : Int) 0 (p.size : Int) = true := by simp [inB]; omega
      go_wp2_with fail
      refine (within_c _ _ _ _).mono ?_
      rintro e w3 ⟨rfl, rfl⟩
      rw [hin]
      clear hin
      go_upto_region 9 with fail
      have hs1 : ¬ 9223372036854775807 < d.size + min k p.size := by omega
      have hcv := fun W => Lib.run_convert_string_bytes (P := Tryd.prog) W 9 30 5 (d ++ p.extract 0 k) Tryd.underlying9 Tryd.underlying30 Tryd.underlying5
      rw [show (d ++ p.extract 0 k).size = d.size + k by simp; omega] at hcv
      go_region
      have hrow := byRow_new w2.drew 5 (d ++ p.extract 0 k)
      have hfz := bytes_frozen w2.drew 5 (d ++ p.extract 0 k)
      have hbw := Go.Joins.below_bytesWorld w.heap.size w2.drew 5 (d ++ p.extract 0 k) hB.out.size
      have hlt : w.heap.size < w2.heap.size := World.block_lt_of_cell? _ _ q0
      rw [show (d ++ p.extract 0 k).size = d.size + k by simp; omega] at hfz
      rw [show (d ++ p.extract 0 k).data.toList = d.data.toList ++ p.data.toList.take k by simp] at hrow
      generalize Lib.bytesWorld w2.drew 5 (d ++ p.extract 0 k) = wb at *
      generalize grownCap w2.drew (d.size + k) 0 5 = cap at *
      have HROW : Hid (ByRow wb w2.heap.size (d.data.toList ++ p.data.toList.take k)) := hrow
      have HFZ : Hid (∀ j, j < d.size + k → wb.frozen? ⟨w2.heap.size, j, none⟩ = false) := hfz
      have HB := Lib.hid (Below.trans hB.out.drew hbw)
      have HL : Hid ((d.data.toList ++ p.data.toList.take k).length = d.size + k) := by show _ = _; simp [ba_len]; omega
      clear hrow hfz hbw hcv hs1
      obtain ⟨t, ht⟩ : ∃ t, t = crashT d p k torn := ⟨_, rfl⟩
      have HT := Lib.hid ht
      have FIN : Hid (∀ w', Below w.heap.size w w' → CrashOut d p n (k : Int) torn w (.returned (.tuple #[.string t, .bool true])) w') := fun w' hb => ⟨true, by rw [ht, if_pos rfl]; rfl, ⟨fun _ => ⟨HF.out, by omega, by omega⟩, fun _ => rfl⟩, hb⟩
      clear ht
      by_cases hto : torn = true ∧ 0 < k
      · obtain ⟨rfl, hk0⟩ := hto
        have hE : t = bs (tornB (d.data.toList ++ p.data.toList.take k)) := by
          rw [HT.out, crashT, crashB, if_pos (by rw [Bool.true_and]; exact decide_eq_true hk0), tornB_append]
          intro h0
          have := congrArg List.length h0
          rw [List.length_take, ba_len] at this
          simp only [List.length_nil] at this; omega
        obtain ⟨m, hm⟩ : ∃ m, d.size + k = m + 1 := ⟨d.size + k - 1, by omega⟩
        rw [hm] at HFZ HL ⊢
        generalize d.data.toList ++ p.data.toList.take k = l at *
        have hc := HROW.out m (by have := HL.out; omega)
        have hbk := (HROW.out.torn m HL.out).back (P := Tryd.prog) 30 9 5 cap Tryd.underlying30 Tryd.underlying5 Tryd.underlying9
        rw [tornB_len, HL.out, ← hE] at hbk
        have hz := HFZ.out m (Nat.lt_succ_self m)
        have h255 : (l.getD m 0).toNat < 256 := UInt8.toNat_lt _
        generalize (l.getD m 0).toNat = c at *
        have hmb : m ≤ 2097152 := by omega
        clear hE hm
        go_wp2
        exact bodyPost_ret (v := .tuple #[.string t, .bool true]) (by simp [results, Tryd.results9, go_sem]) rfl (FIN.out _ (HB.out.setCell (p := ⟨w2.heap.size, m, none⟩) hB.out.size _))
      · have hE : t = bs (d.data.toList ++ p.data.toList.take k) := by
          rw [HT.out, crashT, crashB]
          cases torn with
          | false => rfl
          | true => rw [if_neg (by simp at hto ⊢; omega)]
        have hbk := HROW.out.back (P := Tryd.prog) 30 9 5 cap Tryd.underlying30 Tryd.underlying5 Tryd.underlying9
        rw [HL.out, ← hE] at hbk
        clear hE
        cases torn with
        | false =>
          generalize d.size + k = L at *
          go_wp2
          exact bodyPost_ret (v := .tuple #[.string t, .bool true]) (by simp [results, Tryd.results9, go_sem]) rfl (FIN.out _ HB.out)
        | true =>
          have hd0 : ¬ 0 < k := by simpa using hto
          clear hto
          generalize d.size + k = L at *
          go_wp2
          exact bodyPost_ret (v := .tuple #[.string t, .bool true]) (by simp [results, Tryd.results9, go_sem]) rfl (FIN.out _ HB.out)
    · have hin' : inB keep 0 (p.size : Int) = false := by simp [inB]; omega
      have HI := Lib.hid hin
      clear hin
      go_wp2_with fail
      refine (within_c _ _ _ _).mono ?_
      rintro e w3 ⟨rfl, rfl⟩
      rw [hin']
      clear hin'
      go_wp2
      exact bodyPost_ret (v := .tuple #[.string ⟨#[]⟩, .bool false]) (by simp [results, Tryd.results9, go_sem]) rfl ⟨false, rfl, ⟨(fun h => by cases h), fun h => (HI.out h.2).elim⟩, hB.out⟩
end Go.Proofs.YtlipkplomndjcaaDoor
