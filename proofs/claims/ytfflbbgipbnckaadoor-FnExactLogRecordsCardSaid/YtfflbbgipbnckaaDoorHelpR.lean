/- Walks of the laws' helpers over slices of records: an equality test, marks written and held. -/
import Derived.Test.YtfflbbgipbnckaaDoorLogM
import Derived.Deep.RegionHeld3
import Derived.Laws.IdiomStrings
namespace Go.Proofs.YtfflbbgipbnckaaDoor
open Go.RowKit
set_option linter.unusedVariables false
set_option linter.unusedSimpArgs false
set_option maxRecDepth 100000
def mkS (k : Nat) : ByteArray := bs (109 :: Lib.decDigits k)
theorem bs_cons (c : UInt8) (l : List UInt8) : (⟨#[c]⟩ : ByteArray) ++ bs l = bs (c :: l) := ByteArray.ext (by simp [bs])
set_option maxHeartbeats 1000000 in
theorem markText_c (k : Nat) (h1 : 1 ≤ k) (h2 : k ≤ 1000000000) (w : World) : Calls Tryd.prog 49 #[.int .i64 (k : Int)] w fun e w' => e = .returned (.string (mkS k)) ∧ Below w.heap.size w w' := by
  have hd0 : decide ((k : Int) ≤ 0) = false := by simp; omega
  have HLk : Hid ((Lib.decDigits k).length ≤ 20) := by show _ ≤ _; rw [Lib.decDigits_length]; exact Lib.nDigits_le20 k (by omega)
  go_enter Tryd.func49, Tryd.ntmps49
  go_wp2
  go_loopw [0, 3] (fun q s wr => ∃ (m : Nat) (l : List UInt8), q = .int .i64 (m : Int) ∧ s = .string (bs l) ∧ m ≤ 1000000000 ∧ Hid ((if m = 0 then [] else Lib.decDigits m) ++ l = Lib.decDigits k) ∧ Below w.heap.size w wr) (fun q _ _ => (intOf q).toNat)
  case atStart => exact ⟨k, [], rfl, rfl, h2, by show _ = _; rw [if_neg (by omega), List.append_nil], Below.refl _ _⟩
  case round =>
    obtain ⟨m, l, rfl, rfl, hm, hE, hB⟩ := hrel
    have hl : l.length ≤ 20 := by have := congrArg List.length hE.out; have := HLk.out; rw [List.length_append] at *; omega
    by_cases h0 : 0 < m
    · have hd : decide ((0 : Int) < (m : Int)) = true := by simp; omega
      have hls : (bs l).size = l.length := bs_size l
      obtain ⟨c, hc⟩ : ∃ c, c = UInt8.ofNat (48 + m % 10) := ⟨_, rfl⟩
      have hn : (c.toNat : Int) = 48 + (m : Int) % 10 := by
        have : (UInt8.ofNat (48 + m % 10)).toNat = 48 + m % 10 := by simp; omega
        rw [hc, this]; omega
      have hcv : (convert 72 9 (.slice (some ⟨wr.heap.size, 0, none⟩) 1 1)).run Tryd.prog (wr.alloc (.cells #[.int .u8 (48 + (m : Int) % 10)] 5)) = .ok (.string ⟨#[c]⟩) (wr.alloc (.cells #[.int .u8 (48 + (m : Int) % 10)] 5)) :=
        run_convert_bytes_back (P := Tryd.prog) (wr.alloc (.cells #[.int .u8 (48 + (m : Int) % 10)] 5)) 72 9 5 ⟨wr.heap.size, 0, none⟩ 1 [c] Tryd.underlying72 Tryd.underlying5 Tryd.underlying9 (fun j hj => by
          obtain rfl : j = 0 := by simp at hj; exact hj
          rw [Addr.add_lit, World.cell?_alloc_at _ _ _ _ rfl]
          show some (Value.int .u8 _) = some (Value.int .u8 _)
          rw [show ([c][0]) = c from rfl, hn])
      have HBC := Lib.hid (bs_cons c l)
      have HC := Lib.hid hc
      clear hn hc
      go_wp2
      go_roundw
      case rel =>
        refine ⟨m / 10, c :: l, by go_num, by rw [HBC.out], by omega, ?_, by (repeat (first | exact Below.refl _ _ | exact (Below.refl _ _).drew | assumption | exact below_one _ | refine Below.chain ?_ (by assumption) | refine Below.drew ?_ | refine Below.alc ?_ _ | refine below_drewN ?_ | (refine Below.setCell ?_ ?_ _) | exact Nat.le_refl _ | (simp; done) | (simp; omega)))⟩
        · show _ = _
          rw [← hE.out, if_neg (show ¬ m = 0 by omega), HC.out]
          by_cases h10 : m < 10
          · rw [if_pos (by omega), Lib.decDigits_one h10, show m % 10 = m by omega]; rfl
          · rw [if_neg (by omega), decDigits_big h10]; simp
      case measure => simp [intOf]; omega
    · obtain rfl : m = 0 := by omega
      have HF : Hid (mkS k = ⟨#[109]⟩ ++ bs l) := by
        have h := hE.out
        rw [if_pos rfl, List.nil_append] at h
        show _ = _
        rw [bs_cons, mkS, h]
      have hls : (bs l).size = l.length := bs_size l
      go_wp2
      go_ret
      exact ⟨by rw [HF.out]; rfl, hB⟩
theorem flatR_len (es : List (Bs × Bs)) : (flatR es).length = es.length * 2 := by
  induction es with
  | nil => rfl
  | cons p t ih => simp only [flatR, List.flatMap_cons, List.length_append, List.length_cons] at ih ⊢; simp at ih ⊢; omega
theorem flatR_at {es : List (Bs × Bs)} {k : Nat} {e : Bs × Bs} (h : es[k]? = some e) : (flatR es)[k * 2]? = some (.string (bs e.1)) ∧ (flatR es)[k * 2 + 1]? = some (.string (bs e.2)) := by
  induction es generalizing k with
  | nil => simp at h
  | cons q t ih =>
    cases k with
    | zero => simp at h; subst h; simp [flatR]
    | succ k =>
      simp at h
      have := ih h
      constructor
      · rw [show (k + 1) * 2 = k * 2 + 2 by omega]; simpa [flatR] using this.1
      · rw [show (k + 1) * 2 + 1 = k * 2 + 1 + 2 by omega]; simpa [flatR] using this.2
theorem Sl.parts2 {w : World} {v : Value} {n : Nat} {xs : List Value} (h : Sl w 2 v n xs) : ∃ a c, v = .slice a n c ∧ n ≤ 9223372036854775807 ∧
    Hid (∀ k, k < n → ∃ b off, a = some ⟨b, off, none⟩ ∧ w.cell? ⟨b, off + k * 2, none⟩ = xs[k * 2]? ∧ w.cell? ⟨b, off + k * 2 + 1, none⟩ = xs[k * 2 + 1]?) := by
  obtain ⟨a, c, rfl, h1, h2, h3, h4⟩ := h
  refine ⟨a, c, rfl, by unfold maxLen at h2; omega, fun k hk => ?_⟩
  obtain ⟨b, off, rfl, hc⟩ := h4 (by omega)
  exact ⟨b, off, rfl, hc _ (by omega), by rw [Nat.add_assoc, hc _ (by omega)]⟩
theorem eqLogRecord_c (c r : ByteArray) (w : World) : Calls Tryd.prog 48 #[.agg #[.string c, .string r], .agg #[.string c, .string r]] w fun e w' => e = .returned (.bool true) ∧ Below w.heap.size w w' := by
  have h1 := str_eq (rfl : c = c)
  have h2 := str_eq (rfl : r = r)
  go_enter Tryd.func48, Tryd.ntmps48
  go_wp2
  go_ret
  exact ⟨rfl, by (repeat (first | exact Below.refl _ _ | exact (Below.refl _ _).drew | assumption | exact below_one _ | refine Below.chain ?_ (by assumption) | refine Below.drew ?_ | refine Below.alc ?_ _ | refine below_drewN ?_ | (refine Below.setCell ?_ ?_ _) | exact Nat.le_refl _ | (simp; done) | (simp; omega)))⟩
set_option maxHeartbeats 1000000 in
theorem eqLogRecordS_c (v1 v2 : Value) (es : List (Bs × Bs)) (w : World) (h1 : Sl w 2 v1 es.length (flatR es)) (h2 : Sl w 2 v2 es.length (flatR es)) :
    Calls Tryd.prog 30 #[v1, v2] w fun e w' => e = .returned (.bool true) ∧ Below w.heap.size w w' := by
  obtain ⟨a1, c1, rfl, hm1, H1⟩ := h1.parts2
  obtain ⟨a2, c2, rfl, _, H2⟩ := h2.parts2
  have hlb : ((es.length : Int) != (es.length : Int)) = false := by simp
  go_enter Tryd.func30, Tryd.ntmps30
  go_wp2
  go_loopw [5] (fun i wr => ∃ k : Nat, k ≤ es.length ∧ i = .int .i64 k ∧ Below w.heap.size w wr) (fun i _ => es.length - (intOf i).toNat)
  case atStart => exact ⟨0, by omega, rfl, Below.refl _ _⟩
  case round =>
    obtain ⟨k, hk, rfl, hb⟩ := hrel
    by_cases hlt : k < es.length
    · have hd : decide ((k : Int) < (es.length : Int)) = true := by simp; omega
      obtain ⟨e, he⟩ := elem_at hlt
      obtain ⟨b1, o1, rfl, f1, f1'⟩ := H1.out k hlt
      obtain ⟨b2, o2, rfl, f2, f2'⟩ := H2.out k hlt
      rw [(flatR_at he.out).1] at f1 f2
      rw [(flatR_at he.out).2] at f1' f2'
      have g1 := cell_later hb f1
      have g1' := cell_later hb f1'
      have g2 := cell_later hb f2
      have g2' := cell_later hb f2'
      clear h1 h2 f1 f1' f2 f2'
      generalize bs e.1 = X at *
      generalize bs e.2 = Y at *
      go_wp2_with fail
      go_region_held3 (fun w' => w'.cell? ⟨b1, o1 + k * 2, none⟩ = some (.string X) ∧ w'.cell? ⟨b1, o1 + k * 2 + 1, none⟩ = some (.string Y) ∧ w'.cell? ⟨b2, o2 + k * 2, none⟩ = some (.string X) ∧ w'.cell? ⟨b2, o2 + k * 2 + 1, none⟩ = some (.string Y))
        (first | go_keep | (go_split_ands; exact ⟨cell_later hb2 ‹_›, cell_later hb2 ‹_›, cell_later hb2 ‹_›, cell_later hb2 ‹_›⟩))
        (first | (go_at_call 48; refine (eqLogRecord_c _ _ _).mono ?_; rintro e w' ⟨rfl, hb2⟩))
      have hb3 : Below w.heap.size w _ := Below.chain hb.drew hb2
      clear hb
      go_wp2
      go_roundw
      case rel => exact ⟨k + 1, by omega, by go_num, hb3⟩
      case measure => simp [intOf]; omega
    · go_wp2
      go_ret
      exact ⟨rfl, hb⟩
/-- marks: texts, one after the other -/
def mkL (k0 m : Nat) : List Value := (List.range m).map fun j => Value.string (mkS (k0 + j))
theorem mkL_len (k0 m : Nat) : (mkL k0 m).length = m := by simp [mkL]
theorem mkL_succ (k0 m : Nat) : mkL k0 (m + 1) = mkL k0 m ++ [.string (mkS (k0 + m))] := by simp [mkL, List.range_succ]
theorem mkL_at {k0 m j : Nat} (h : j < m) : (mkL k0 m)[j]? = some (.string (mkS (k0 + j))) := by simp [mkL, h]
theorem mkL_set {k0 m : Nat} {xs : List Value} (h : m < xs.length) : (mkL k0 m ++ xs.drop m).set m (.string (mkS (k0 + m))) = mkL k0 (m + 1) ++ xs.drop (m + 1) := by
  rw [List.drop_eq_getElem_cons h, set_mid _ _ _ _ (mkL_len k0 m).symm, mkL_succ]; simp
theorem gr_some {w w' : World} {r : Option Nat} (h : w.grownBy w' none) : w.grownBy w' r := ⟨h.os, h.tape, h.output, h.size, fun k hk _ => h.block k hk (by simp)⟩
set_option maxHeartbeats 2000000 in
theorem markLogRecordS_c (v : Value) (n : Nat) (xs : List Value) (lo : Nat) (e0 : TypeId) (w : World) (ho : w.ownsRow lo e0 2 v n xs) (hst : ∀ x ∈ xs, ∃ s, x = .string s) (hn : n ≤ 1000) :
    Calls Tryd.prog 31 #[v, .int .i64 1] w fun e w' => e = .returned (.int .i64 (1 + 2 * (n : Int))) ∧ w'.ownsRow lo e0 2 v n (mkL 1 (n * 2)) ∧ w.grownBy w' v.ownBlock := by
  have hxl : xs.length = n * 2 := ho.1
  by_cases hz : n = 0
  · subst hz
    obtain ⟨a, c, rfl, _⟩ := (Sl.of_own ho).slice
    have hx : xs = [] := List.eq_nil_of_length_eq_zero (by omega)
    subst hx
    go_enter Tryd.func31, Tryd.ntmps31
    go_wp2
    refine wp_loop_rounds 1 ?_
    rw [rounds_succ]
    go_wp2
    go_ret
    exact ⟨int_ret (by simp), ho, World.grownBy.refl _ _⟩
  · obtain ⟨g, cap, hv, hlo, hlt, _⟩ := own_form ho (by omega)
    subst hv
    have HS : Hid (∀ (m : Nat) j, j < n * 2 → ∃ s, (mkL 1 m ++ xs.drop m)[j]? = some (.string s)) := fun m j hj => by
      by_cases hjm : j < m
      · exact ⟨_, by rw [List.getElem?_append_left (by rw [mkL_len]; exact hjm), mkL_at hjm]⟩
      · rw [List.getElem?_append_right (by rw [mkL_len]; omega), mkL_len, List.getElem?_drop, show m + (j - m) = j by omega, List.getElem?_eq_getElem (by omega)]
        obtain ⟨s, hs⟩ := hst _ (List.getElem_mem (show j < xs.length by omega))
        exact ⟨s, by rw [hs]⟩
    have HX := Lib.hid hxl
    clear hst hxl
    go_enter Tryd.func31, Tryd.ntmps31
    go_wp2
    go_loopw [5, 1] (fun i q wr => ∃ k : Nat, k ≤ n ∧ i = .int .i64 k ∧ q = .int .i64 (((1 + k * 2 : Nat)) : Int) ∧ wr.ownsRow lo e0 2 (.slice (some ⟨g, 0, none⟩) n cap) n (mkL 1 (k * 2) ++ xs.drop (k * 2)) ∧ w.grownBy wr (some g)) (fun i _ _ => n - (intOf i).toNat)
    case atStart => exact ⟨0, by omega, rfl, rfl, by simpa [mkL] using ho, World.grownBy.refl _ _⟩
    case round =>
      obtain ⟨k, hk, rfl, rfl, ho1, hg1⟩ := hrel
      clear ho
      have HO1 := Lib.hid ho1
      have HG1 := Lib.hid hg1
      clear ho1 hg1
      by_cases hlt2 : k < n
      · have hd : decide ((k : Int) < (n : Int)) = true := by simp; omega
        go_wp2_with fail
        refine (markText_c (1 + k * 2) (by omega) (by omega) _).mono ?_
        rintro e w1 ⟨rfl, hb1⟩
        have ho2 := own_keep HO1.out hb1
        obtain ⟨s1, hs1⟩ := HS.out (k * 2) (k * 2) (by omega)
        have q1 : w1.cell? ⟨g, k * 2, none⟩ = some (.string s1) := (ho2.cellAt _ (by omega)).trans hs1
        have q2 := ho2.frozenAt (k * 2)
        have h3 := ho2.stored (k * 2) (.string (mkS (1 + k * 2)))
        have e3 := mkL_set (k0 := 1) (m := k * 2) (xs := xs) (by have := HX.out; omega)
        have ho3 := h3.1
        rw [e3] at ho3
        have HO3 := Lib.hid ho3
        have HG3 := Lib.hid ((HG1.out.trans (gr_some (Below.gr hb1))).trans h3.2)
        clear ho2 h3 e3 ho3 hs1 hb1 HO1 HG1
        go_wp2_with fail
        refine (markText_c (1 + k * 2 + 1) (by omega) (by omega) _).mono ?_
        rintro e w2 ⟨rfl, hb1⟩
        have ho2 := own_keep HO3.out hb1
        obtain ⟨s2, hs2⟩ := HS.out (k * 2 + 1) (k * 2 + 1) (by omega)
        have q3 : w2.cell? ⟨g, k * 2 + 1, none⟩ = some (.string s2) := (ho2.cellAt _ (by omega)).trans hs2
        have q4 := ho2.frozenAt (k * 2 + 1)
        have h3 := ho2.stored (k * 2 + 1) (.string (mkS (1 + (k * 2 + 1))))
        have e3 := mkL_set (k0 := 1) (m := k * 2 + 1) (xs := xs) (by have := HX.out; omega)
        have ho3 := h3.1
        rw [e3] at ho3
        have HO4 := Lib.hid ho3
        have HG4 := Lib.hid ((HG3.out.trans (gr_some (Below.gr hb1))).trans h3.2)
        clear ho2 h3 e3 ho3 hs2 hb1 HO3 HG3 q1 q2
        go_wp2
        go_roundw
        case rel => exact ⟨k + 1, by omega, by go_num, by go_num, (by rw [show (k + 1) * 2 = k * 2 + 1 + 1 by omega]; exact HO4.out), HG4.out⟩
        case measure => simp [intOf]; omega
      · obtain rfl : k = n := by omega
        go_wp2
        go_ret
        refine ⟨int_ret (by omega), ?_, HG1.out⟩
        have := HO1.out
        rw [List.drop_of_length_le (by have := HX.out; omega), List.append_nil] at this
        exact this
set_option maxHeartbeats 2000000 in
theorem heldLogRecordS_c (v : Value) (n : Nat) (w : World) (hv : Sl w 2 v n (mkL 1 (n * 2))) (hn : n ≤ 1000) :
    Calls Tryd.prog 32 #[v, .int .i64 1] w fun e w' => e = .returned (.int .i64 (1 + 2 * (n : Int))) ∧ Below w.heap.size w w' := by
  obtain ⟨a, c, rfl, hm, HC⟩ := hv.parts2
  clear hv
  go_enter Tryd.func32, Tryd.ntmps32
  go_wp2
  go_loopw [5, 1] (fun i q wr => ∃ k : Nat, k ≤ n ∧ i = .int .i64 k ∧ q = .int .i64 (((1 + k * 2 : Nat)) : Int) ∧ Below w.heap.size w wr) (fun i _ _ => n - (intOf i).toNat)
  case atStart => exact ⟨0, by omega, rfl, rfl, Below.refl _ _⟩
  case round =>
    obtain ⟨k, hk, rfl, rfl, hb⟩ := hrel
    by_cases hlt : k < n
    · have hd : decide ((k : Int) < (n : Int)) = true := by simp; omega
      obtain ⟨b, off, rfl, g0, g1⟩ := HC.out k hlt
      rw [mkL_at (by omega)] at g0 g1
      have q0 := cell_later hb g0
      have q1 := cell_later hb g1
      rw [show 1 + (k * 2 + 1) = 1 + k * 2 + 1 by omega] at q1
      clear g0 g1
      have t0 := str_eq (rfl : mkS (1 + k * 2) = mkS (1 + k * 2))
      have t1 := str_eq (rfl : mkS (1 + k * 2 + 1) = mkS (1 + k * 2 + 1))
      have M0 := Lib.hid (fun w => markText_c (1 + k * 2) (by omega) (by omega) w)
      have M1 := Lib.hid (fun w => markText_c (1 + k * 2 + 1) (by omega) (by omega) w)
      generalize mkS (1 + k * 2) = X at *
      generalize mkS (1 + k * 2 + 1) = Y at *
      go_wp2_with fail
      go_region_held3 (fun w' => w'.cell? ⟨b, off + k * 2, none⟩ = some (.string X) ∧ w'.cell? ⟨b, off + k * 2 + 1, none⟩ = some (.string Y)) (first | go_keep | (go_split_ands; exact ⟨cell_later hb2 ‹_›, cell_later hb2 ‹_›⟩))
        (first | (go_at_call 49; refine (M0.out _).mono ?_; rintro e w2 ⟨rfl, hb2⟩))
      have hb3 : Below w.heap.size w _ := Below.chain hb.drew hb2
      have q2 := cell_later hb2 q0
      have q3 := cell_later hb2 q1
      clear hb hb2 q0 q1
      go_wp2_with fail
      go_region_held3 (fun w' => w'.cell? ⟨b, off + k * 2, none⟩ = some (.string X) ∧ w'.cell? ⟨b, off + k * 2 + 1, none⟩ = some (.string Y)) (first | go_keep | (go_split_ands; exact ⟨cell_later hb4 ‹_›, cell_later hb4 ‹_›⟩))
        (first | (go_at_call 49; refine (M1.out _).mono ?_; rintro e w4 ⟨rfl, hb4⟩))
      have hb5 : Below w.heap.size w _ := Below.chain hb3.drew hb4
      clear hb3 hb4 q2 q3
      go_wp2
      go_roundw
      case rel => exact ⟨k + 1, by omega, by go_num, by go_num, hb5⟩
      case measure => simp [intOf]; omega
    · obtain rfl : k = n := by omega
      go_wp2
      go_ret
      exact ⟨int_ret (by omega), hb⟩
end Go.Proofs.YtfflbbgipbnckaaDoor
