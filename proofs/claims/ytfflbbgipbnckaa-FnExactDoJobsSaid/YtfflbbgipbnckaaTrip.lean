/- Slices of Jobs: copies, the bound on their size, equality. -/
import Derived.Test.YtfflbbgipbnckaaJob4
import Derived.Test.YtfflbbgipbnckaaToFaults
namespace Go.Proofs.Ytfflbbgipbnckaa
open Go.RowKit
set_option linter.unusedVariables false
set_option maxRecDepth 100000
abbrev J3 : Type := Int × Int × Int
def flat3 (ps : List J3) : List Value := ps.flatMap fun p => [.int .i64 p.1, .int .i64 p.2.1, .int .i64 p.2.2]
theorem flat3_append (xs ys : List J3) : flat3 (xs ++ ys) = flat3 xs ++ flat3 ys := by simp [flat3]
theorem flat3_cons (p : J3) (ps : List J3) : flat3 (p :: ps) = .int .i64 p.1 :: .int .i64 p.2.1 :: .int .i64 p.2.2 :: flat3 ps := by simp [flat3]
theorem flat3_length (ps : List J3) : (flat3 ps).length = ps.length * 3 := by
  induction ps with
  | nil => rfl
  | cons p ps ih => rw [flat3_cons]; simp only [List.length_cons, ih]; omega
theorem flat3_at {ps : List J3} {k : Nat} {p : J3} (h : ps[k]? = some p) : (flat3 ps)[k * 3]? = some (.int .i64 p.1) ∧ (flat3 ps)[k * 3 + 1]? = some (.int .i64 p.2.1) ∧ (flat3 ps)[k * 3 + 2]? = some (.int .i64 p.2.2) := by
  induction ps generalizing k with
  | nil => simp at h
  | cons q ps ih =>
    rw [flat3_cons]
    cases k with
    | zero => simp at h; subst h; simp
    | succ k =>
      simp at h
      have := ih h
      refine ⟨?_, ?_, ?_⟩
      · rw [show (k + 1) * 3 = k * 3 + 3 by omega]; simpa using this.1
      · rw [show (k + 1) * 3 + 1 = k * 3 + 1 + 3 by omega]; simpa using this.2.1
      · rw [show (k + 1) * 3 + 2 = k * 3 + 2 + 3 by omega]; simpa using this.2.2
def Trips (w : World) (v : Value) (ps : List J3) : Prop := Sl w 3 v ps.length (flat3 ps)
theorem Trips.below {w w' : World} {v : Value} {ps : List J3} (h : Trips w v ps) (hb : Below w.heap.size w w') : Trips w' v ps := Sl.below h hb
theorem Trips.le {w : World} {v : Value} {ps : List J3} (h : Trips w v ps) : ps.length ≤ 9223372036854775807 := Sl.le h
theorem Trips.of_own {w : World} {lo : Nat} {e : TypeId} {v : Value} {ps : List J3} (h : w.ownsRow lo e 3 v ps.length (flat3 ps)) : Trips w v ps := Sl.of_own h
theorem Trips.parts {w : World} {v : Value} {ps : List J3} (h : Trips w v ps) : ∃ a c, v = .slice a ps.length c ∧ ps.length ≤ c ∧ c ≤ 9223372036854775807 ∧
    Hid (∀ k p, ps[k]? = some p → ∃ b off, a = some ⟨b, off, none⟩ ∧ w.cell? ⟨b, off + k * 3, none⟩ = some (.int .i64 p.1) ∧ w.cell? ⟨b, off + k * 3 + 1, none⟩ = some (.int .i64 p.2.1) ∧ w.cell? ⟨b, off + k * 3 + 2, none⟩ = some (.int .i64 p.2.2)) := by
  obtain ⟨a, c, rfl, h1, h2, h3, h4⟩ := h
  refine ⟨a, c, rfl, h1, by unfold maxLen at h2; omega, fun k p hk => ?_⟩
  have hlt : k < ps.length := (List.getElem?_eq_some_iff.1 hk).1
  obtain ⟨b, off, rfl, hc⟩ := h4 (by omega)
  have := flat3_at hk
  refine ⟨b, off, rfl, ?_, ?_, ?_⟩
  · rw [hc _ (by omega)]; exact this.1
  · rw [Nat.add_assoc, hc _ (by omega)]; exact this.2.1
  · rw [Nat.add_assoc, hc _ (by omega)]; exact this.2.2
theorem info_Job : (Try.prog.info? 45).map (fun i => (i.zero, i.size, i.bytes)) = some (some (.agg #[.int .i64 0, .int .i64 0, .int .i64 0]), 3, 24) := by kernel_rfl
def z3 : J3 := (0, 0, 0)
theorem flat3_rep (n : Nat) : flat3 (List.replicate n z3) = List.replicate (n * 3) (.int .i64 0) := by
  induction n with
  | zero => rfl
  | succ n ih =>
    rw [List.replicate_succ, flat3_cons, ih, show (n + 1) * 3 = n * 3 + 1 + 1 + 1 by omega, List.replicate_succ, List.replicate_succ, List.replicate_succ]; rfl
theorem made_three (x : Value) (n : Nat) : (madeCells #[x, x, x] n).toList = List.replicate n x := by
  unfold madeCells
  rw [Array.toList_map, Array.toList_range]
  apply List.ext_getElem (by simp)
  intro i h1 h2
  simp only [List.getElem_map, List.getElem_range, List.getElem_replicate]
  have h : i % (#[x, x, x] : Array Value).size = 0 ∨ i % (#[x, x, x] : Array Value).size = 1 ∨ i % (#[x, x, x] : Array Value).size = 2 := by
    have : (#[x, x, x] : Array Value).size = 3 := rfl
    rw [this]; omega
  rcases h with h | h | h <;> rw [h] <;> rfl
theorem set_three (l r : List Value) (a b c d e f : Value) {k : Nat} (hk : k = l.length) : (((l ++ a :: b :: c :: r).set k d).set (k + 1) e).set (k + 2) f = l ++ d :: e :: f :: r := by
  subst hk
  rw [set_mid l (b :: c :: r) a d rfl]
  have e1 : l ++ d :: b :: c :: r = (l ++ [d]) ++ b :: c :: r := by simp
  rw [e1, set_mid (l ++ [d]) (c :: r) b e (by simp)]
  have e2 : (l ++ [d]) ++ e :: c :: r = (l ++ [d] ++ [e]) ++ c :: r := by simp
  rw [e2, set_mid (l ++ [d] ++ [e]) r c f (by simp)]; simp
theorem set_trip {fs : List J3} {k n : Nat} (hk : k < n) {p : J3} {w : World} {lo g cap : Nat} {e : TypeId}
    (ho : w.ownsRow lo e 3 (.slice (some ⟨g, 0, none⟩) n cap) n (flat3 (fs ++ List.replicate (n - k) z3))) (hf : fs.length = k) :
    (w.cell? ⟨g, k * 3, none⟩ = some (.int .i64 0) ∧ w.cell? ⟨g, k * 3 + 1, none⟩ = some (.int .i64 0) ∧ w.cell? ⟨g, k * 3 + 2, none⟩ = some (.int .i64 0)) ∧ (w.frozen? ⟨g, k * 3, none⟩ = false ∧ w.frozen? ⟨g, k * 3 + 1, none⟩ = false ∧ w.frozen? ⟨g, k * 3 + 2, none⟩ = false) ∧
      (((w.setCell ⟨g, k * 3, none⟩ (.int .i64 p.1)).setCell ⟨g, k * 3 + 1, none⟩ (.int .i64 p.2.1)).setCell ⟨g, k * 3 + 2, none⟩ (.int .i64 p.2.2)).ownsRow lo e 3 (.slice (some ⟨g, 0, none⟩) n cap) n (flat3 ((fs ++ [p]) ++ List.replicate (n - (k + 1)) z3)) := by
  have h1 := ho.stored (k * 3) (.int .i64 p.1)
  have h2 := h1.1.stored (k * 3 + 1) (.int .i64 p.2.1)
  have h3 := h2.1.stored (k * 3 + 2) (.int .i64 p.2.2)
  have hp : (fs ++ List.replicate (n - k) z3)[k]? = some z3 := by
    rw [List.getElem?_append_right (by omega), hf, Nat.sub_self, List.getElem?_replicate, if_pos (by omega)]
  have hc := flat3_at hp
  refine ⟨⟨(ho.cellAt _ (by omega)).trans hc.1, (ho.cellAt _ (by omega)).trans hc.2.1, (ho.cellAt _ (by omega)).trans hc.2.2⟩, ⟨ho.frozenAt _, ho.frozenAt _, ho.frozenAt _⟩, ?_⟩
  have e2 : (((flat3 (fs ++ List.replicate (n - k) z3)).set (k * 3) (.int .i64 p.1)).set (k * 3 + 1) (.int .i64 p.2.1)).set (k * 3 + 2) (.int .i64 p.2.2) = flat3 ((fs ++ [p]) ++ List.replicate (n - (k + 1)) z3) := by
    rw [show n - k = (n - (k + 1)) + 1 by omega, List.replicate_succ, flat3_append, flat3_append, flat3_append, flat3_cons]
    rw [set_three _ _ _ _ _ _ _ _ (by rw [flat3_length, hf]), flat3_cons]; simp [flat3]
  rw [← e2]; exact h3.1
theorem toJobS_c (v : Value) (fs : List J3) (w : World) (hv : Trips w v fs) (hn : fs.length ≤ 1048576) :
    Calls Try.prog 28 #[v] w fun e w' => ∃ u, e = .returned u ∧ w'.ownsRow w.heap.size 45 3 u fs.length (flat3 fs) ∧ Below w.heap.size w w' := by
  obtain ⟨a, c, rfl, hc1, hc2, HC⟩ := hv.parts
  obtain ⟨i, hi, hz0, hz1, hz2⟩ := info_parts info_Job
  have HJ := Lib.hid (fun (p : J3) w => toJob_c p.1 p.2.1 p.2.2 w)
  unfold jobV at HJ
  go_enter Try.func28, Try.ntmps28
  go_wp2_with (at_make; refine wpList_make_full _ rfl _ _ 53 rfl w.heap.size 45 i (.agg #[.int .i64 0, .int .i64 0, .int .i64 0]) 3 Try.underlying53 hi hz0 hz1 _ _ _ _ fs.length rfl rfl rfl rfl (by rw [hz2]; omega) (by unfold maxLen; omega) (Nat.le_refl _) ?_)
  intro w1 hown hg
  have hb1 : Below w.heap.size w w1 := gr_below hg
  have hown1 : w1.ownsRow w.heap.size 45 3 (.slice (some ⟨w.heap.size, 0, none⟩) fs.length fs.length) fs.length (flat3 (fs.take 0 ++ List.replicate (fs.length - 0) z3)) := by
    rw [List.take_zero, List.nil_append, Nat.sub_zero, flat3_rep]
    have := hown
    rw [made_three] at this
    exact this
  clear hown hg hi hz0 hz1 hz2 hv
  go_wp2
  go_loopw [4] (fun i wr => ∃ k : Nat, k ≤ fs.length ∧ i = .int .i64 k ∧ wr.ownsRow w.heap.size 45 3 (.slice (some ⟨w.heap.size, 0, none⟩) fs.length fs.length) fs.length (flat3 (fs.take k ++ List.replicate (fs.length - k) z3)) ∧ Below w.heap.size w wr) (fun i _ => fs.length - (intOf i).toNat)
  case atStart => exact ⟨0, by omega, rfl, hown1, hb1⟩
  case round =>
    obtain ⟨k, hk, rfl, ho, hb⟩ := hrel
    clear hown1 hb1
    by_cases hlt : k < fs.length
    · have hd : decide ((k : Int) < (fs.length : Int)) = true := by simp; omega
      obtain ⟨x, hx⟩ := elem_at hlt
      obtain ⟨b, off, rfl, f0, f1, f2⟩ := HC.out k x hx.out
      have g0 := cell_later hb f0
      have g1 := cell_later hb f1
      have g2 := cell_later hb f2
      clear f0 f1 f2
      go_wp2_with fail
      refine (HJ.out x _).mono ?_
      rintro e w2 ⟨rfl, hb2⟩
      have ho2 := own_keep ho hb2
      have hb3 := Below.chain hb hb2
      obtain ⟨⟨m0, m1, m2⟩, ⟨m3, m4, m5⟩, m6⟩ := set_trip (p := x) hlt ho2 (by rw [List.length_take, Nat.min_eq_left hk])
      have ho6 : Hid ((((w2.setCell ⟨w.heap.size, k * 3, none⟩ (.int .i64 x.1)).setCell ⟨w.heap.size, k * 3 + 1, none⟩ (.int .i64 x.2.1)).setCell ⟨w.heap.size, k * 3 + 2, none⟩ (.int .i64 x.2.2)).ownsRow w.heap.size 45 3 (.slice (some ⟨w.heap.size, 0, none⟩) fs.length fs.length) fs.length (flat3 (fs.take (k + 1) ++ List.replicate (fs.length - (k + 1)) z3))) := by
        rw [take_snoc hx.out]; exact m6
      clear ho ho2 hb hb2 g0 g1 g2 m6
      go_wp2
      go_roundw
      case rel => exact ⟨k + 1, by omega, by go_num, ho6.out, ((hb3.setCell (Nat.le_refl _) _).setCell (Nat.le_refl _) _).setCell (Nat.le_refl _) _⟩
      case measure => simp [intOf]; omega
    · obtain rfl : k = fs.length := by omega
      go_wp2
      go_ret
      exact ⟨_, rfl, by simpa using ho, hb⟩
theorem szJobS_no (v : Value) (fs : List J3) (k : Int) (w : World) (h : Trips w v fs) (h0 : 0 ≤ k) (h1 : k ≤ 1048576) (hk : k < fs.length) :
    Calls Try.prog 26 #[v, .int .i64 k] w fun e w' => e = .returned (.int .i64 (-1)) ∧ w = w' := by
  have hm := h.le
  obtain ⟨a, c, rfl, _, _, _⟩ := h.parts
  go_enter Try.func26, Try.ntmps26
  go_wp2
  go_ret
  exact ⟨rfl, rfl⟩
theorem szJobS_yes (v : Value) (fs : List J3) (k : Int) (w : World) (h : Trips w v fs) (h0 : 0 ≤ k) (h1 : k ≤ 1048576) (hk : fs.length ≤ k) :
    Calls Try.prog 26 #[v, .int .i64 k] w fun e w' => e = .returned (.int .i64 (k - fs.length)) ∧ w = w' := by
  have hm := h.le
  obtain ⟨a, c, rfl, _, _, _⟩ := h.parts
  go_enter Try.func26, Try.ntmps26
  go_wp2
  go_ret
  exact ⟨rfl, rfl⟩
theorem eqJob_c (a b c : Int) (w : World) : Calls Try.prog 54 #[jobV a b c, jobV a b c] w fun e w' => e = .returned (.bool true) ∧ Below w.heap.size w w' := by
  unfold jobV
  go_enter Try.func54, Try.ntmps54
  go_wp2
  go_ret
  exact ⟨rfl, by (repeat (first | exact Below.refl _ _ | exact (Below.refl _ _).drew | assumption | exact below_one _ | refine Below.chain ?_ (by assumption) | refine Below.drew ?_ | refine Below.alc ?_ _ | refine below_drewN ?_ | (refine Below.setCell ?_ ?_ _) | exact Nat.le_refl _ | (simp; done) | (simp; omega)))⟩
theorem eqJobS_c (v1 v2 : Value) (xs : List J3) (w : World) (h1 : Trips w v1 xs) (h2 : Trips w v2 xs) :
    Calls Try.prog 30 #[v1, v2] w fun e w' => e = .returned (.bool true) ∧ Below w.heap.size w w' := by
  have hm1 := h1.le
  obtain ⟨a1, c1, rfl, _, _, H1⟩ := h1.parts
  obtain ⟨a2, c2, rfl, _, _, H2⟩ := h2.parts
  have HJ := Lib.hid (fun (p : J3) w => eqJob_c p.1 p.2.1 p.2.2 w)
  unfold jobV at HJ
  clear h1 h2
  go_enter Try.func30, Try.ntmps30
  go_wp2
  go_loopw [5] (fun i wr => ∃ k : Nat, k ≤ xs.length ∧ i = .int .i64 k ∧ Below w.heap.size w wr) (fun i _ => xs.length - (intOf i).toNat)
  case atStart => exact ⟨0, by omega, rfl, Below.refl _ _⟩
  case round =>
    obtain ⟨k, hk, rfl, hb⟩ := hrel
    by_cases hlt : k < xs.length
    · have hd : decide ((k : Int) < (xs.length : Int)) = true := by simp; omega
      obtain ⟨x, hx⟩ := elem_at hlt
      obtain ⟨b1, o1, rfl, f1, f1', f1''⟩ := H1.out k _ hx.out
      obtain ⟨b2, o2, rfl, f2, f2', f2''⟩ := H2.out k _ hx.out
      have g1 := cell_later hb f1
      have g1' := cell_later hb f1'
      have g1'' := cell_later hb f1''
      have g2 := cell_later hb f2
      have g2' := cell_later hb f2'
      have g2'' := cell_later hb f2''
      clear f1 f1' f2 f2' f1'' f2''
      go_wp2_with fail
      go_region_held3 (fun w' => w'.cell? ⟨b1, o1 + k * 3, none⟩ = some (.int .i64 x.1) ∧ w'.cell? ⟨b1, o1 + k * 3 + 1, none⟩ = some (.int .i64 x.2.1) ∧ w'.cell? ⟨b1, o1 + k * 3 + 2, none⟩ = some (.int .i64 x.2.2) ∧ w'.cell? ⟨b2, o2 + k * 3, none⟩ = some (.int .i64 x.1) ∧ w'.cell? ⟨b2, o2 + k * 3 + 1, none⟩ = some (.int .i64 x.2.1) ∧ w'.cell? ⟨b2, o2 + k * 3 + 2, none⟩ = some (.int .i64 x.2.2))
        (first | go_keep | (go_split_ands; exact ⟨cell_later ‹_› ‹_›, cell_later ‹_› ‹_›, cell_later ‹_› ‹_›, cell_later ‹_› ‹_›, cell_later ‹_› ‹_›, cell_later ‹_› ‹_›⟩))
        ((go_at_call 54; refine (HJ.out x _).mono ?_; rintro e w' ⟨rfl, hb2⟩))
      have hb3 : Below w.heap.size w _ := Below.chain hb.drew hb2
      clear hb
      go_wp2
      go_roundw
      case rel => exact ⟨k + 1, by omega, by go_num, hb3⟩
      case measure => simp [intOf]; omega
    · go_wp2
      go_ret
      exact ⟨rfl, hb⟩
end Go.Proofs.Ytfflbbgipbnckaa
