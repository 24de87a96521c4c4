/- Texts of this claim, gathered: Job7, Cons, Job8, Bench4, LwDoJob, Trip. -/
import Derived.Test.YtfbnmkpkihfocaaK9
import Derived.Deep.DeepCutAuto
namespace Go.Proofs.Ytfbnmkpkihfocaa
open Go.RowKit
set_option linter.unusedVariables false
set_option maxRecDepth 100000
theorem bg_set_same {b : List Int} {i : Nat} (x : Int) (h : i < b.length) : bg (b.set i x) i = x := by
  unfold bg; simp [List.getD_eq_getElem?_getD, List.getElem?_set_self h]
theorem bg_set_ne (b : List Int) {i j : Nat} (x : Int) (h : i ≠ j) : bg (b.set i x) j = bg b j := by
  unfold bg; rw [List.getD_eq_getElem?_getD, List.getD_eq_getElem?_getD, List.getElem?_set_ne h]
theorem faultB_mk {d l : Int} (d0 : 0 ≤ d) (d1 : d ≤ 127) (l0 : 0 ≤ l) (l1 : l ≤ 127) (h : andC d l = 0) : faultB d l = true := by
  unfold faultB cellB; rw [inB_mk d0 d1, inB_mk l0 l1, h]; rfl
theorem cellB_mk {d : Int} (d0 : 0 ≤ d) (d1 : d ≤ 127) : cellB d = true := inB_mk d0 d1
theorem mv_and_all : ∀ t : Bool, ∀ x y : Fin 128, x.1 &&& y.1 = 0 → (mvC t (x.1 : Int)).toNat &&& (mvC t (y.1 : Int)).toNat = 0 := by decide +kernel
theorem mv_fault (t : Bool) {d l : Int} (h : faultB d l = true) : faultB (mvC t d) (mvC t l) = true := by
  obtain ⟨d0, d1, l0, l1, h4⟩ := faultB_true h
  have b1 := mvC_bd t d0 d1
  have b2 := mvC_bd t l0 l1
  obtain ⟨d, rfl⟩ := Int.eq_ofNat_of_zero_le d0
  obtain ⟨l, rfl⟩ := Int.eq_ofNat_of_zero_le l0
  refine faultB_mk b1.1 b1.2 b2.1 b2.2 ?_
  have h5 : d &&& l = 0 := by unfold andC at h4; simpa using h4
  have := mv_and_all t ⟨d, by omega⟩ ⟨l, by omega⟩ h5
  unfold andC
  rw [this]; rfl
theorem bit_not : ∀ v : Fin 7, 2 ^ v.1 &&& (127 - 2 ^ v.1) = 0 ∧ 2 ^ v.1 < 128 := by decide +kernel
theorem or_fault {d l : Int} {v : Nat} (hv : v < 7) (h : faultB d l = true) : faultB (orC d (bitC (v : Int))) (anC l (bitC (v : Int))) = true ∧ faultB (anC d (bitC (v : Int))) (orC l (bitC (v : Int))) = true := by
  obtain ⟨d0, d1, l0, l1, h4⟩ := faultB_true h
  obtain ⟨d, rfl⟩ := Int.eq_ofNat_of_zero_le d0
  obtain ⟨l, rfl⟩ := Int.eq_ofNat_of_zero_le l0
  have h5 : d &&& l = 0 := by unfold andC at h4; simpa using h4
  obtain ⟨hb, hb2⟩ := bit_not ⟨v, hv⟩
  simp only at hb hb2
  unfold orC anC bitC
  simp only [Int.toNat_natCast]
  generalize hB : 2 ^ v = B at *
  generalize hM : 127 - B = M at *
  have o1 : d ||| B < 2 ^ 7 := Nat.or_lt_two_pow (by omega) (by omega)
  have o2 : l ||| B < 2 ^ 7 := Nat.or_lt_two_pow (by omega) (by omega)
  have a1 : d &&& M < 2 ^ 7 := Nat.and_lt_two_pow _ (by omega)
  have a2 : l &&& M < 2 ^ 7 := Nat.and_lt_two_pow _ (by omega)
  have e1 : (d ||| B) &&& (l &&& M) = 0 := by
    rw [Nat.and_or_distrib_right, ← Nat.and_assoc, h5, Nat.zero_and, Nat.zero_or, Nat.and_comm l M, ← Nat.and_assoc, hb, Nat.zero_and]
  have e2 : (d &&& M) &&& (l ||| B) = 0 := by
    rw [Nat.and_or_distrib_left, Nat.and_assoc, Nat.and_comm M l, ← Nat.and_assoc, h5, Nat.zero_and, Nat.zero_or, Nat.and_assoc, Nat.and_comm M B, hb, Nat.and_zero]
  constructor
  · exact faultB_mk (by omega) (by omega) (by omega) (by omega) (by unfold andC; simp only [Int.toNat_natCast]; rw [e1]; rfl)
  · exact faultB_mk (by omega) (by omega) (by omega) (by omega) (by unfold andC; simp only [Int.toNat_natCast]; rw [e2]; rfl)
theorem goodAt_true {b : List Int} {j : Nat} (h : goodAt b j = true) : (0 ≤ bg b j ∧ bg b j ≤ 127) ∧ faultB (bg b (6 + j)) (bg b (12 + j)) = true := by
  unfold goodAt fB at h
  simp only [Bool.and_eq_true] at h
  exact ⟨cellB_true h.1, h.2⟩
theorem goodAt_mk {b : List Int} {j : Nat} (h1 : 0 ≤ bg b j) (h2 : bg b j ≤ 127) (h3 : faultB (bg b (6 + j)) (bg b (12 + j)) = true) : goodAt b j = true := by
  unfold goodAt fB
  rw [cellB_mk h1 h2]
  exact h3
theorem goodB_all {b : List Int} : goodB b = true ↔ (∀ j, j < 6 → goodAt b j = true) ∧ inB (bg b 18) 0 1000 = true := by
  unfold goodB goodTo
  simp only [Bool.and_eq_true, List.all_eq_true, List.mem_range]
theorem seenI_x (t : Bool) (x0 x1 x2 x3 x4 x5 x6 x7 x8 x9 x10 x11 x12 x13 x14 x15 x16 x17 x18 : Int) :
    seenI t [x0, x1, x2, x3, x4, x5, x6, x7, x8, x9, x10, x11, x12, x13, x14, x15, x16, x17, x18] 6 = [mvC t x5, mvC t x4, mvC t x3, mvC t x2, mvC t x1, mvC t x0, mvC t x11, mvC t x10, mvC t x9, mvC t x8, mvC t x7, mvC t x6, mvC t x17, mvC t x16, mvC t x15, mvC t x14, mvC t x13, mvC t x12, x18] := by kernel_rfl
theorem seen_good (t : Bool) {b : List Int} (hb : b.length = 19) (h : ∀ j, j < 6 → goodAt b j = true) : ∀ j, j < 6 → goodAt (seenI t b 6) j = true := by
  match b, hb with
  | [x0, x1, x2, x3, x4, x5, x6, x7, x8, x9, x10, x11, x12, x13, x14, x15, x16, x17, x18], _ =>
    rw [seenI_x]
    intro j hj
    have hh := goodAt_true (h (5 - j) (by omega))
    have hj6 : j = 0 ∨ j = 1 ∨ j = 2 ∨ j = 3 ∨ j = 4 ∨ j = 5 := by omega
    rcases hj6 with rfl | rfl | rfl | rfl | rfl | rfl <;> exact goodAt_mk (mvC_bd t hh.1.1 hh.1.2).1 (mvC_bd t hh.1.1 hh.1.2).2 (mv_fault t hh.2)
theorem made_len {b : List Int} (hb : b.length = 19) (k : Int) (a : Nat) (v : Int) : (madeB b k a v).length = 19 := by
  unfold madeB
  repeat (split; · (first | (simp [hb]; done) | (rw [seenI_len, hb])))
  exact hb
theorem made_18 {b : List Int} (hb : b.length = 19) (k : Int) {a : Nat} (v : Int) (ha : a < 6) : bg (madeB b k a v) 18 = bg b 18 := by
  unfold madeB
  split; · exact bg_set_ne _ _ (by omega)
  split; · exact bg_set_ne _ _ (by omega)
  split; · rw [bg_set_ne _ _ (by omega), bg_set_ne _ _ (by omega)]
  split; · rw [bg_set_ne _ _ (by omega), bg_set_ne _ _ (by omega)]
  split; · rw [bg_set_ne _ _ (by omega), bg_set_ne _ _ (by omega)]
  split; · exact seenI_18 _ _ 6 (by omega)
  split; · exact seenI_18 _ _ 6 (by omega)
  rfl
theorem two_good {b : List Int} {a : Nat} {x y : Int} (hb : b.length = 19) (ha : a < 6) (h : ∀ j, j < 6 → goodAt b j = true) (hf : faultB x y = true) : ∀ j, j < 6 → goodAt ((b.set (6 + a) x).set (12 + a) y) j = true := by
  intro j hj
  have hh := goodAt_true (h j hj)
  have e0 : bg ((b.set (6 + a) x).set (12 + a) y) j = bg b j := by rw [bg_set_ne _ _ (by omega), bg_set_ne _ _ (by omega)]
  refine goodAt_mk (by rw [e0]; exact hh.1.1) (by rw [e0]; exact hh.1.2) ?_
  by_cases hja : j = a
  · subst hja
    rw [bg_set_same _ (by simp; omega), bg_set_ne _ _ (by omega), bg_set_same _ (by omega)]
    exact hf
  · rw [bg_set_ne _ _ (by omega), bg_set_ne _ _ (by omega), bg_set_ne _ _ (by omega), bg_set_ne _ _ (by omega)]
    exact hh.2
theorem one_good {b : List Int} {a : Nat} {x : Int} (hb : b.length = 19) (ha : a < 6) (h : ∀ j, j < 6 → goodAt b j = true) (x0 : 0 ≤ x) (x1 : x ≤ 127) : ∀ j, j < 6 → goodAt (b.set a x) j = true := by
  intro j hj
  have hh := goodAt_true (h j hj)
  have hf : faultB (bg (b.set a x) (6 + j)) (bg (b.set a x) (12 + j)) = true := by rw [bg_set_ne _ _ (by omega), bg_set_ne _ _ (by omega)]; exact hh.2
  by_cases hja : j = a
  · subst hja
    exact goodAt_mk (by rw [bg_set_same _ (by omega)]; exact x0) (by rw [bg_set_same _ (by omega)]; exact x1) hf
  · have e0 : bg (b.set a x) j = bg b j := bg_set_ne _ _ (by omega)
    exact goodAt_mk (by rw [e0]; exact hh.1.1) (by rw [e0]; exact hh.1.2) hf
theorem made_good {b : List Int} {k a v : Int} (hb : b.length = 19) (hg : goodB b = true) (hm : makeB b k a v = true) : a.toNat < 6 ∧ ∀ j, j < 6 → goodAt (madeB b k a.toNat v) j = true := by
  have h := (goodB_all.1 hg).1
  unfold makeB at hm
  simp only [Bool.and_eq_true] at hm
  have h2 := inB_true hm.1
  have ha : a.toNat < 6 := by omega
  refine ⟨ha, ?_⟩
  have hk := hm.2
  generalize a.toNat = n at *
  unfold makeK at hk
  unfold madeB
  by_cases k1 : k = 1
  · rw [if_pos k1] at hk ⊢
    exact one_good hb ha h (dg_bd v).1 (dg_bd v).2
  rw [if_neg k1] at hk ⊢
  by_cases k2 : k = 2
  · rw [if_pos k2]
    exact one_good hb ha h (by omega) (by omega)
  rw [if_neg k2] at hk ⊢
  by_cases k3 : k = 3
  · rw [if_pos k3] at hk ⊢
    simp only [Bool.and_eq_true] at hk
    have h3 := inB_true hk.1
    obtain ⟨vn, rfl⟩ := Int.eq_ofNat_of_zero_le h3.1
    exact two_good hb ha h (or_fault (by omega) (goodAt_true (h n ha)).2).1
  rw [if_neg k3] at hk ⊢
  by_cases k4 : k = 4
  · rw [if_pos k4] at hk ⊢
    simp only [Bool.and_eq_true] at hk
    have h3 := inB_true hk.1
    obtain ⟨vn, rfl⟩ := Int.eq_ofNat_of_zero_le h3.1
    exact two_good hb ha h (or_fault (by omega) (goodAt_true (h n ha)).2).2
  rw [if_neg k4] at hk ⊢
  by_cases k5 : k = 5
  · rw [if_pos k5]
    exact two_good hb ha h rfl
  rw [if_neg k5] at hk ⊢
  by_cases k6 : k = 6
  · rw [if_pos k6]
    exact seen_good true hb h
  rw [if_neg k6]
  by_cases k7 : k = 7
  · rw [if_pos k7]
    exact seen_good false hb h
  rw [if_neg k7]
  exact h
/-- whether the Bench behind a Job is valid hangs on its count alone -/
theorem cnt_good {b : List Int} {k a v : Int} (hb : b.length = 19) (hg : goodB b = true) (hm : makeB b k a v = true) : goodB (doB b k a v) = !(bg b 18 == 1000) ∧ (doB b k a v).length = 19 ∧ doB b k a v = (madeB b k a.toNat v).set 18 (bg b 18 + 1) := by
  obtain ⟨ha, h⟩ := made_good hb hg hm
  have hl := made_len hb k a.toNat v
  have h18 := made_18 hb k v ha
  have e : doB b k a v = (madeB b k a.toNat v).set 18 (bg b 18 + 1) := by unfold doB cntB; rw [h18]
  refine ⟨?_, by rw [e, List.length_set, hl], e⟩
  have hc := inB_true (goodB_all.1 hg).2
  have hall : ∀ j, j < 6 → goodAt (doB b k a v) j = true := by
    intro j hj
    have hh := goodAt_true (h j hj)
    rw [e]
    exact goodAt_mk (by rw [bg_set_ne _ _ (by omega)]; exact hh.1.1) (by rw [bg_set_ne _ _ (by omega)]; exact hh.1.2) (by rw [bg_set_ne _ _ (by omega), bg_set_ne _ _ (by omega)]; exact hh.2)
  have hcnt : bg (doB b k a v) 18 = bg b 18 + 1 := by rw [e, bg_set_same _ (by omega)]
  rw [Bool.eq_iff_iff, goodB_all, hcnt]
  constructor
  · intro hx
    have := inB_true hx.2
    simp; omega
  · intro hx
    simp at hx
    exact ⟨hall, inB_mk (by omega) (by omega)⟩
end Go.Proofs.Ytfbnmkpkihfocaa
namespace Go.Proofs.Ytfbnmkpkihfocaa
open Go.RowKit
set_option linter.unusedVariables false
set_option maxRecDepth 100000
/-- a log's cells; a console's -/
def lgC (d p : ByteArray) (n : Int) : List Value := [.string d, .string p, .int .i64 n]
def csC (b : List Int) (d p : ByteArray) (n : Int) : List Value := ints b ++ lgC d p n
theorem csC_len {b : List Int} (hb : b.length = 19) (d p : ByteArray) (n : Int) : (csC b d p n).length = 22 := by simp [csC, lgC, hb]
theorem csC_one {b : List Int} {d p : ByteArray} {n : Int} : ∀ v ∈ csC b d p n, v.oneCell' = true := fun v hv => by
  unfold csC at hv
  rw [List.mem_append] at hv
  rcases hv with h | h
  · exact ints_one v h
  · simp only [lgC, List.mem_cons, List.not_mem_nil, or_false] at h
    rcases h with rfl | rfl | rfl <;> rfl
def zeroI : List Int := List.replicate 19 0
def ncB (b : List Int) : List Int := if goodB b then b else zeroI
def ncV (b : List Int) : Value := .tuple #[.agg (csC (ncB b) ByteArray.empty ByteArray.empty 0).toArray, .bool (goodB b)]
/-- a new Console's cells, written out -/
def zCA : Array Value := #[.int .i64 0, .int .i64 0, .int .i64 0, .int .i64 0, .int .i64 0, .int .i64 0, .int .i64 0, .int .i64 0, .int .i64 0, .int .i64 0, .int .i64 0, .int .i64 0, .int .i64 0, .int .i64 0, .int .i64 0, .int .i64 0, .int .i64 0, .int .i64 0, .int .i64 0, .string (ByteArray.mk #[]), .string (ByteArray.mk #[]), .int .i64 0]
theorem zCA_eq : zCA = (csC zeroI ByteArray.empty ByteArray.empty 0).toArray := rfl
theorem build_cons_x (x0 x1 x2 x3 x4 x5 x6 x7 x8 x9 x10 x11 x12 x13 x14 x15 x16 x17 x18 : Int) : List.foldl (fun (cs : Array Value) (x : Value × Nat) => cs.setIfInBounds x.snd x.fst) zCA (ints [x0, x1, x2, x3, x4, x5, x6, x7, x8, x9, x10, x11, x12, x13, x14, x15, x16, x17, x18]).zipIdx = (csC [x0, x1, x2, x3, x4, x5, x6, x7, x8, x9, x10, x11, x12, x13, x14, x15, x16, x17, x18] ByteArray.empty ByteArray.empty 0).toArray := by kernel_rfl
theorem build_cons {b : List Int} (hb : b.length = 19) : List.foldl (fun (cs : Array Value) (x : Value × Nat) => cs.setIfInBounds x.snd x.fst) zCA (ints b).zipIdx = (csC b ByteArray.empty ByteArray.empty 0).toArray := by
  match b, hb with
  | [x0, x1, x2, x3, x4, x5, x6, x7, x8, x9, x10, x11, x12, x13, x14, x15, x16, x17, x18], _ => exact build_cons_x x0 x1 x2 x3 x4 x5 x6 x7 x8 x9 x10 x11 x12 x13 x14 x15 x16 x17 x18
end Go.Proofs.Ytfbnmkpkihfocaa
namespace Go.Proofs.Ytfbnmkpkihfocaa
open Go.RowKit
set_option linter.unusedVariables false
set_option maxRecDepth 100000
theorem l12Make_c (b : List Int) (k a v : Int) (w : World) (hb : b.length = 19) (hg : goodB b = true) :
    Calls Try.prog 97 #[aggI b, jobV k a v] w (MkPost w b k a v) := by
  rcases ha : inB a 0 5 with _ | _
  · exact make_a b k a v w hb hg ha
  have h2 := inB_true ha
  obtain ⟨an, rfl⟩ := Int.eq_ofNat_of_zero_le h2.1
  have han : an < 6 := by omega
  by_cases k1 : k = 1
  · subst k1
    rcases hv : inB v 0 9 with _ | _
    · exact make_1n b an v w hb hg han hv
    · have h3 := inB_true hv
      obtain ⟨vn, rfl⟩ := Int.eq_ofNat_of_zero_le h3.1
      exact make_1y b an vn w hb hg han (by omega)
  by_cases k2 : k = 2
  · subst k2; exact make_2 b an v w hb hg han
  by_cases k3 : k = 3
  · subst k3
    rcases hv : inB v 0 6 with _ | _
    · exact make_3n b an v w hb hg han hv
    · have h3 := inB_true hv
      obtain ⟨vn, rfl⟩ := Int.eq_ofNat_of_zero_le h3.1
      exact make_3y b an vn w hb hg han (by omega)
  by_cases k4 : k = 4
  · subst k4
    rcases hv : inB v 0 6 with _ | _
    · exact make_4n b an v w hb hg han hv
    · have h3 := inB_true hv
      obtain ⟨vn, rfl⟩ := Int.eq_ofNat_of_zero_le h3.1
      exact make_4y b an vn w hb hg han (by omega)
  by_cases k5 : k = 5
  · subst k5
    rcases hz : ((bg b (6 + an) == 0) && (bg b (12 + an) == 0)) with _ | _
    · exact make_5y b an v w hb hg han hz
    · exact make_5n b an v w hb hg han hz
  by_cases k6 : k = 6
  · subst k6
    by_cases h0 : an = 0
    · subst h0; exact make_6y b v w hb hg
    · exact make_6n b an v w hb hg han (by omega)
  by_cases k7 : k = 7
  · subst k7
    by_cases h0 : an = 0
    · subst h0; exact make_7y b v w hb hg
    · exact make_7n b an v w hb hg han (by omega)
  exact make_o b k an v w hb hg han k1 k2 k3 k4 k5 k6 k7
/-- the Bench behind a Job, or a new one -/
def jobB (b : List Int) (k a v : Int) : List Int := if possB b k a v then doB b k a v else zeroI
theorem jobB_len {b : List Int} (hb : b.length = 19) (hg : goodB b = true) (k a v : Int) : (jobB b k a v).length = 19 := by
  unfold jobB
  split
  · rename_i h
    unfold possB at h
    simp only [Bool.and_eq_true] at h
    exact (cnt_good hb hg h.2).2.1
  · simp [zeroI]
def jobsV (b : List Int) (k a v : Int) : Value := mkV (jobB b k a v) (possB b k a v)
theorem zB_eq : zBA = (ints zeroI).toArray := rfl
set_option maxHeartbeats 2000000 in
theorem l12Do_c (b : List Int) (k a v : Int) (w : World) (hb : b.length = 19) (hg : goodB b = true) :
    Calls Try.prog 79 #[aggI b, jobV k a v] w fun e w' => e = .returned (jobsV b k a v) ∧ Below w.heap.size w w' := by
  have r0 := World.rangeAt_alloc (World.rangeAt_alloc (range_new w (ints b) 50) (.cells #[.int .i64 k, .int .i64 a, .int .i64 v] 54)) zB
  have t1 := there_new ((w.alloc (.cells (ints b).toArray 50)).alloc (.cells #[.int .i64 k, .int .i64 a, .int .i64 v] 54)) _ 50 (n := 19) (show 19 ≤ (zBA : Array Value).size by decide)
  have hb0 : Below w.heap.size w (((w.alloc (.cells (ints b).toArray 50)).alloc (.cells #[.int .i64 k, .int .i64 a, .int .i64 v] 54)).alloc zB) := by (repeat (first | exact Below.refl _ _ | exact (Below.refl _ _).drew | assumption | exact below_one _ | refine Below.chain ?_ (by assumption) | refine Below.drew ?_ | refine Below.alc ?_ _ | refine below_drewN ?_ | (refine Below.setCell ?_ ?_ _) | exact Nat.le_refl _ | (simp; done) | (simp; omega)))
  simp only [World.size_alloc] at t1
  have hsz : w.heap.size + 1 + 1 < (((w.alloc (.cells (ints b).toArray 50)).alloc (.cells #[.int .i64 k, .int .i64 a, .int .i64 v] 54)).alloc zB).heap.size := by simp
  have gc := inB_true (goodB_all.1 hg).2
  have HM := Lib.hid (fun w => l12Make_c b k a v w hb hg)
  unfold aggI jobV at *
  unfold zBA zB at *
  go_enter Try.func79, Try.ntmps79
  go_wp2_with (refine wpList_loadB rfl _ rfl _ rfl b r0 hb ?_)
  refine (HM.out _).mono ?_
  rintro e w1 ⟨X, rfl, hX, hXm, hb1⟩
  have r1 := range_below r0 hb1
  have u1 := there_below t1 hb1
  have b1 := Below.chain hb0 hb1
  have z1 := Nat.lt_of_lt_of_le hsz hb1.size
  have r2 := World.rangeAt_alloc r1 zB
  have u2 := World.there_alloc u1 zB
  have b2 := Below.alc b1 zB
  have t2 := there_new w1 zBA 50 (n := 19) (by decide)
  have r3 := World.rangeAt_setCells_apart r2 w1.heap.size 0 (ints X) (.inl (by omega))
  have u3 := World.there_setCells u2 w1.heap.size 0 (ints X)
  have t3 := World.there_setCells t2 w1.heap.size 0 (ints X)
  have c3 := World.rangeAt_setCells_same (w1.alloc zB) w1.heap.size 0 (ints X) (by rw [show (ints X).length = 19 by simp [ints, hX]]; exact t2)
  have b3 := below_cells (ints X) (w1.alloc zB) w1.heap.size 0 b2 (by omega)
  have g18 := cell18 r3 (j := 18) (by omega)
  have g18o := cell18 c3 (j := 18) (by omega)
  have f18o := there_froz t3 (j := 18) (by omega)
  have c4 := range_set c3 (j := 18) (bg b 18 + 1) (by omega)
  have u4 := there_set u3 w1.heap.size 18 (.int .i64 (bg b 18 + 1))
  have b4 := b3.setCell (p := ⟨w1.heap.size, 18, none⟩) (by simp; omega) (.int .i64 (bg b 18 + 1))
  have hY : (X.set 18 (bg b 18 + 1)).length = 19 := by rw [List.length_set, hX]
  clear r0 t1 hb0 hb1 r1 u1 b1 hsz r2 u2 b2 r3 u3 t3 c3 b3
  rcases hm : makeB b k a v with _ | _
  · have hF : Hid (jobsV b k a v = mkV zeroI false) := by
      have hp : possB b k a v = false := by unfold possB; rw [hm]; simp
      show _ = _
      unfold jobsV jobB; rw [hp]; rfl
    have hz : zeroI.length = 19 := by simp [zeroI]
    have K5 := loadVarB (World.rangeAt_setCells_same _ (w.heap.size + 1 + 1) 0 (ints zeroI) (by simpa [hz] using u4)) hz
    have K6 := below_cells (ints zeroI) _ (w.heap.size + 1 + 1) 0 b4 (by omega)
    have HM2 := Lib.hid hm
    unfold mkV aggI zB zBA at *
    clear c4 hm
    go_wp2_with (first | (refine wpList_storeB rfl _ _ rfl _ X rfl rfl t2 hX ?_) | (refine wpList_storeB rfl _ _ rfl _ zeroI rfl rfl u4 hz ?_))
    exact bodyPost_ret (v := mkV zeroI false) (res_cell2 Try.results79 rfl K5) rfl ⟨by rw [hF.out]; rfl, K6⟩
  · obtain ⟨hG, hL, hE⟩ := cnt_good hb hg hm
    have hXe := hXm hm
    subst hXe
    rw [← hE] at c4 hY
    have HE := Lib.hid hE
    rcases hq : goodB (doB b k a v) with _ | _
    · have hF : Hid (jobsV b k a v = mkV zeroI false) := by
        have hp : possB b k a v = false := by unfold possB; rw [← hG, hq]; rfl
        show _ = _
        unfold jobsV jobB; rw [hp]; rfl
      have HG := Lib.hid hq
      have hz : zeroI.length = 19 := by simp [zeroI]
      have HGC := Lib.hid (fun w => l12Good_c (doB b k a v) w hL)
      clear hE hG hq hXm
      generalize doB b k a v = Y at *
      generalize madeB b k a.toNat v = X at *
      unfold mkV aggI zB zBA at *
      clear hm
      go_wp2_with (first | (refine wpList_storeB rfl _ _ rfl _ X rfl rfl t2 hX ?_) | (refine wpList_loadB rfl _ rfl _ rfl _ c4 hL ?_))
      refine (HGC.out _).mono ?_
      rintro e w5 ⟨rfl, hb5⟩
      rw [HG.out]
      have u5 := there_below u4 hb5
      have b5 := Below.chain b4 hb5
      have K5 := loadVarB (World.rangeAt_setCells_same _ (w.heap.size + 1 + 1) 0 (ints zeroI) (by simpa [hz] using u5)) hz
      have K6 := below_cells (ints zeroI) _ (w.heap.size + 1 + 1) 0 b5 (by omega)
      clear u4 b4 c4
      go_wp2_with (refine wpList_storeB rfl _ _ rfl _ zeroI rfl rfl u5 hz ?_)
      exact bodyPost_ret (v := mkV zeroI false) (res_cell2 Try.results79 rfl K5) rfl ⟨by rw [hF.out]; rfl, K6⟩
    · have hF : Hid (jobsV b k a v = mkV (doB b k a v) true) := by
        have hp : possB b k a v = true := by unfold possB; rw [← hG, hq, hm]; rfl
        show _ = _
        unfold jobsV jobB; rw [hp]; rfl
      have HG := Lib.hid hq
      have HGC := Lib.hid (fun w => l12Good_c (doB b k a v) w hL)
      clear hE hG hq hXm
      generalize doB b k a v = Y at *
      generalize madeB b k a.toNat v = X at *
      unfold mkV aggI zB zBA at *
      clear hm
      go_wp2_with (first | (refine wpList_storeB rfl _ _ rfl _ X rfl rfl t2 hX ?_) | (refine wpList_loadB rfl _ rfl _ rfl _ c4 hL ?_))
      refine (HGC.out _).mono ?_
      rintro e w5 ⟨rfl, hb5⟩
      rw [HG.out]
      have u5 := there_below u4 hb5
      have b5 := Below.chain b4 hb5
      have c5 := range_below c4 hb5
      have K5 := loadVarB (World.rangeAt_setCells_same _ (w.heap.size + 1 + 1) 0 (ints Y) (by simpa [hL] using u5)) hL
      have K6 := below_cells (ints Y) _ (w.heap.size + 1 + 1) 0 b5 (by omega)
      clear u4 b4 c4
      go_wp2_with (first | (refine wpList_loadB rfl _ rfl _ rfl _ c5 hL ?_) | (refine wpList_storeB rfl _ _ rfl _ Y rfl rfl u5 hL ?_))
      exact bodyPost_ret (v := mkV Y true) (res_cell2 Try.results79 rfl K5) rfl ⟨by rw [hF.out]; rfl, K6⟩
/-- what DoJob hands back -/
def djV (b : List Int) (k a v : Int) : Value := if goodB b then jobsV b k a v else mkV zeroI false
set_option maxHeartbeats 2000000 in
theorem sDoJob_c (b : List Int) (k a v : Int) (w : World) (hb : b.length = 19) :
    Calls Try.prog 32 #[aggI b, jobV k a v] w fun e w' => e = .returned (djV b k a v) ∧ Below w.heap.size w w' := by
  have r0 := World.rangeAt_alloc (World.rangeAt_alloc (range_new w (ints b) 50) (.cells #[.int .i64 k, .int .i64 a, .int .i64 v] 54)) zB
  have t1 := there_new ((w.alloc (.cells (ints b).toArray 50)).alloc (.cells #[.int .i64 k, .int .i64 a, .int .i64 v] 54)) _ 50 (n := 19) (show 19 ≤ (zBA : Array Value).size by decide)
  have hb0 : Below w.heap.size w (((w.alloc (.cells (ints b).toArray 50)).alloc (.cells #[.int .i64 k, .int .i64 a, .int .i64 v] 54)).alloc zB) := by (repeat (first | exact Below.refl _ _ | exact (Below.refl _ _).drew | assumption | exact below_one _ | refine Below.chain ?_ (by assumption) | refine Below.drew ?_ | refine Below.alc ?_ _ | refine below_drewN ?_ | (refine Below.setCell ?_ ?_ _) | exact Nat.le_refl _ | (simp; done) | (simp; omega)))
  simp only [World.size_alloc] at t1
  have q0 : (((w.alloc (.cells (ints b).toArray 50)).alloc (.cells #[.int .i64 k, .int .i64 a, .int .i64 v] 54)).alloc zB).cell? ⟨w.heap.size + 1, 0, none⟩ = some (.int .i64 k) := cell_later (below_one _) (by rw [World.cell?_alloc_at _ _ _ _ (by simp)]; rfl)
  have q1 : (((w.alloc (.cells (ints b).toArray 50)).alloc (.cells #[.int .i64 k, .int .i64 a, .int .i64 v] 54)).alloc zB).cell? ⟨w.heap.size + 1, 1, none⟩ = some (.int .i64 a) := cell_later (below_one _) (by rw [World.cell?_alloc_at _ _ _ _ (by simp)]; rfl)
  have q2 : (((w.alloc (.cells (ints b).toArray 50)).alloc (.cells #[.int .i64 k, .int .i64 a, .int .i64 v] 54)).alloc zB).cell? ⟨w.heap.size + 1, 2, none⟩ = some (.int .i64 v) := cell_later (below_one _) (by rw [World.cell?_alloc_at _ _ _ _ (by simp)]; rfl)
  have hz : zeroI.length = 19 := by simp [zeroI]
  rcases hg : goodB b with _ | _
  · have HF : Hid (djV b k a v = mkV zeroI false) := by show _ = _; unfold djV; rw [hg]; rfl
    have HQ := Lib.hid hg; clear hg q0 q1 q2
    unfold mkV aggI jobV at *
    unfold zBA zB at *
    go_enter Try.func32, Try.ntmps32
    go_wp2_with (refine wpList_loadB rfl _ rfl _ rfl b r0 hb ?_)
    refine (l12Good_c b _ hb).mono ?_
    rintro e w1 ⟨rfl, hb1⟩
    rw [HQ.out]
    have u1 := there_below t1 hb1
    have b1 := Below.chain hb0 hb1
    have K5 := loadVarB (World.rangeAt_setCells_same _ (w.heap.size + 1 + 1) 0 (ints zeroI) (by simpa [hz] using u1)) hz
    have K6 := below_cells (ints zeroI) _ (w.heap.size + 1 + 1) 0 b1 (by omega)
    clear r0 t1 hb0 hb1 b1
    go_wp2_with (refine wpList_storeB rfl _ _ rfl _ zeroI rfl rfl u1 hz ?_)
    exact bodyPost_ret (v := mkV zeroI false) (res_cell2 Try.results32 rfl K5) rfl ⟨by rw [HF.out]; rfl, K6⟩
  · have HF : Hid (djV b k a v = jobsV b k a v) := by show _ = _; unfold djV; rw [hg]; rfl
    have hl := jobB_len hb hg k a v
    have HD := Lib.hid (fun w => l12Do_c b k a v w hb hg)
    have HQ := Lib.hid hg; clear hg q0 q1 q2
    unfold jobsV at *
    generalize jobB b k a v = Y at *
    generalize possB b k a v = ok at *
    unfold mkV aggI jobV at *
    unfold zBA zB at *
    go_enter Try.func32, Try.ntmps32
    go_wp2_with (refine wpList_loadB rfl _ rfl _ rfl b r0 hb ?_)
    refine (l12Good_c b _ hb).mono ?_
    rintro e w1 ⟨rfl, hb1⟩
    rw [HQ.out]
    have u1 := there_below t1 hb1
    have b1 := Below.chain hb0 hb1
    have r1 := range_below r0 hb1
    have p0 := (show w1.cell? ⟨w.heap.size + 1, 0, none⟩ = some (.int .i64 k) from cell_later hb1 (cell_later (below_one _) (by rw [World.cell?_alloc_at _ _ _ _ (by simp)]; rfl)))
    have p1 := (show w1.cell? ⟨w.heap.size + 1, 1, none⟩ = some (.int .i64 a) from cell_later hb1 (cell_later (below_one _) (by rw [World.cell?_alloc_at _ _ _ _ (by simp)]; rfl)))
    have p2 := (show w1.cell? ⟨w.heap.size + 1, 2, none⟩ = some (.int .i64 v) from cell_later hb1 (cell_later (below_one _) (by rw [World.cell?_alloc_at _ _ _ _ (by simp)]; rfl)))
    clear r0 t1 hb0 hb1
    go_wp2_with (refine wpList_loadB rfl _ rfl _ rfl b r1 hb ?_)
    refine (HD.out _).mono ?_
    rintro e w2 ⟨rfl, hb2⟩
    have u2 := there_below u1 hb2
    have b2 := Below.chain b1 hb2
    have K5 := loadVarB (World.rangeAt_setCells_same _ (w.heap.size + 1 + 1) 0 (ints Y) (by simpa [hl] using u2)) hl
    have K6 := below_cells (ints Y) _ (w.heap.size + 1 + 1) 0 b2 (by omega)
    clear u1 b1 hb2 r1 p0 p1 p2
    go_wp2_with (refine wpList_storeB rfl _ _ rfl _ Y rfl rfl u2 hl ?_)
    exact bodyPost_ret (v := mkV Y ok) (res_cell2 Try.results32 rfl K5) rfl ⟨by rw [HF.out]; rfl, K6⟩
set_option maxHeartbeats 2000000 in
theorem DoJob_c (b : List Int) (k a v : Int) (w : World) (hb : b.length = 19) :
    Calls Try.prog 31 #[aggI b, jobV k a v] w fun e w' => e = .returned (djV b k a v) ∧ Below w.heap.size w w' := by
  have r0 := World.rangeAt_alloc (World.rangeAt_alloc (range_new w (ints b) 50) (.cells #[.int .i64 k, .int .i64 a, .int .i64 v] 54)) zB
  have t1 := there_new ((w.alloc (.cells (ints b).toArray 50)).alloc (.cells #[.int .i64 k, .int .i64 a, .int .i64 v] 54)) _ 50 (n := 19) (show 19 ≤ (zBA : Array Value).size by decide)
  have hb0 : Below w.heap.size w (((w.alloc (.cells (ints b).toArray 50)).alloc (.cells #[.int .i64 k, .int .i64 a, .int .i64 v] 54)).alloc zB) := by (repeat (first | exact Below.refl _ _ | exact (Below.refl _ _).drew | assumption | exact below_one _ | refine Below.chain ?_ (by assumption) | refine Below.drew ?_ | refine Below.alc ?_ _ | refine below_drewN ?_ | (refine Below.setCell ?_ ?_ _) | exact Nat.le_refl _ | (simp; done) | (simp; omega)))
  simp only [World.size_alloc] at t1
  have q0 : (((w.alloc (.cells (ints b).toArray 50)).alloc (.cells #[.int .i64 k, .int .i64 a, .int .i64 v] 54)).alloc zB).cell? ⟨w.heap.size + 1, 0, none⟩ = some (.int .i64 k) := cell_later (below_one _) (by rw [World.cell?_alloc_at _ _ _ _ (by simp)]; rfl)
  have q1 : (((w.alloc (.cells (ints b).toArray 50)).alloc (.cells #[.int .i64 k, .int .i64 a, .int .i64 v] 54)).alloc zB).cell? ⟨w.heap.size + 1, 1, none⟩ = some (.int .i64 a) := cell_later (below_one _) (by rw [World.cell?_alloc_at _ _ _ _ (by simp)]; rfl)
  have q2 : (((w.alloc (.cells (ints b).toArray 50)).alloc (.cells #[.int .i64 k, .int .i64 a, .int .i64 v] 54)).alloc zB).cell? ⟨w.heap.size + 1, 2, none⟩ = some (.int .i64 v) := cell_later (below_one _) (by rw [World.cell?_alloc_at _ _ _ _ (by simp)]; rfl)
  have hz : zeroI.length = 19 := by simp [zeroI]
  rcases hg : goodB b with _ | _
  · have HF : Hid (djV b k a v = mkV zeroI false) := by show _ = _; unfold djV; rw [hg]; rfl
    have HQ := Lib.hid hg; clear hg q0 q1 q2
    unfold mkV aggI jobV at *
    unfold zBA zB at *
    go_enter Try.func31, Try.ntmps31
    go_wp2_with (refine wpList_loadB rfl _ rfl _ rfl b r0 hb ?_)
    refine (IsBench_c b _ hb).mono ?_
    rintro e w1 ⟨rfl, hb1⟩
    rw [HQ.out]
    have u1 := there_below t1 hb1
    have b1 := Below.chain hb0 hb1
    have K5 := loadVarB (World.rangeAt_setCells_same _ (w.heap.size + 1 + 1) 0 (ints zeroI) (by simpa [hz] using u1)) hz
    have K6 := below_cells (ints zeroI) _ (w.heap.size + 1 + 1) 0 b1 (by omega)
    clear r0 t1 hb0 hb1 b1
    go_wp2_with (refine wpList_storeB rfl _ _ rfl _ zeroI rfl rfl u1 hz ?_)
    exact bodyPost_ret (v := mkV zeroI false) (res_cell2 Try.results31 rfl K5) rfl ⟨by rw [HF.out]; rfl, K6⟩
  · have HF : Hid (djV b k a v = jobsV b k a v) := by show _ = _; unfold djV; rw [hg]; rfl
    have HP := Lib.hid (fun w => isPossible_c b k a v w hb hg)
    have HQ := Lib.hid hg
    rcases hp : possB b k a v with _ | _
    · have HF2 : Hid (djV b k a v = mkV zeroI false) := by show _ = _; rw [HF.out]; unfold jobsV jobB; rw [hp]; rfl
      have HPQ := Lib.hid hp
      clear hg hp HF q0 q1 q2
      unfold mkV aggI jobV at *
      unfold zBA zB at *
      go_enter Try.func31, Try.ntmps31
      go_wp2_with (refine wpList_loadB rfl _ rfl _ rfl b r0 hb ?_)
      refine (IsBench_c b _ hb).mono ?_
      rintro e w1 ⟨rfl, hb1⟩
      rw [HQ.out]
      have u1 := there_below t1 hb1
      have b1 := Below.chain hb0 hb1
      have r1 := range_below r0 hb1
      have p0 := (show w1.cell? ⟨w.heap.size + 1, 0, none⟩ = some (.int .i64 k) from cell_later hb1 (cell_later (below_one _) (by rw [World.cell?_alloc_at _ _ _ _ (by simp)]; rfl)))
      have p1 := (show w1.cell? ⟨w.heap.size + 1, 1, none⟩ = some (.int .i64 a) from cell_later hb1 (cell_later (below_one _) (by rw [World.cell?_alloc_at _ _ _ _ (by simp)]; rfl)))
      have p2 := (show w1.cell? ⟨w.heap.size + 1, 2, none⟩ = some (.int .i64 v) from cell_later hb1 (cell_later (below_one _) (by rw [World.cell?_alloc_at _ _ _ _ (by simp)]; rfl)))
      clear r0 t1 hb0 hb1
      go_wp2_with (refine wpList_loadB rfl _ rfl _ rfl b r1 hb ?_)
      refine (HP.out _).mono ?_
      rintro e w2 ⟨rfl, hb2⟩
      rw [HPQ.out]
      have u2 := there_below u1 hb2
      have b2 := Below.chain b1 hb2
      have K5 := loadVarB (World.rangeAt_setCells_same _ (w.heap.size + 1 + 1) 0 (ints zeroI) (by simpa [hz] using u2)) hz
      have K6 := below_cells (ints zeroI) _ (w.heap.size + 1 + 1) 0 b2 (by omega)
      clear u1 b1 hb2 r1 p0 p1 p2
      go_wp2_with (refine wpList_storeB rfl _ _ rfl _ zeroI rfl rfl u2 hz ?_)
      exact bodyPost_ret (v := mkV zeroI false) (res_cell2 Try.results31 rfl K5) rfl ⟨by rw [HF2.out]; rfl, K6⟩
    · have hm : makeB b k a v = true := by unfold possB at hp; simp only [Bool.and_eq_true] at hp; exact hp.2
      have HF2 : Hid (djV b k a v = mkV (doB b k a v) true) := by show _ = _; rw [HF.out]; unfold jobsV jobB; rw [hp]; rfl
      have hl := (cnt_good hb hg hm).2.1
      have HD := Lib.hid (fun w => do_c b k a v w hb hg hm)
      have HPQ := Lib.hid hp
      clear hg hp hm HF q0 q1 q2
      generalize doB b k a v = Y at *
      unfold mkV aggI jobV at *
      unfold zBA zB at *
      go_enter Try.func31, Try.ntmps31
      go_wp2_with (refine wpList_loadB rfl _ rfl _ rfl b r0 hb ?_)
      refine (IsBench_c b _ hb).mono ?_
      rintro e w1 ⟨rfl, hb1⟩
      rw [HQ.out]
      have u1 := there_below t1 hb1
      have b1 := Below.chain hb0 hb1
      have r1 := range_below r0 hb1
      have p0 := (show w1.cell? ⟨w.heap.size + 1, 0, none⟩ = some (.int .i64 k) from cell_later hb1 (cell_later (below_one _) (by rw [World.cell?_alloc_at _ _ _ _ (by simp)]; rfl)))
      have p1 := (show w1.cell? ⟨w.heap.size + 1, 1, none⟩ = some (.int .i64 a) from cell_later hb1 (cell_later (below_one _) (by rw [World.cell?_alloc_at _ _ _ _ (by simp)]; rfl)))
      have p2 := (show w1.cell? ⟨w.heap.size + 1, 2, none⟩ = some (.int .i64 v) from cell_later hb1 (cell_later (below_one _) (by rw [World.cell?_alloc_at _ _ _ _ (by simp)]; rfl)))
      clear r0 t1 hb0 hb1
      go_wp2_with (refine wpList_loadB rfl _ rfl _ rfl b r1 hb ?_)
      refine (HP.out _).mono ?_
      rintro e w2 ⟨rfl, hb2⟩
      rw [HPQ.out]
      have u2 := there_below u1 hb2
      have b2 := Below.chain b1 hb2
      have r2 := range_below r1 hb2
      have s0 := cell_later hb2 p0
      have s1 := cell_later hb2 p1
      have s2 := cell_later hb2 p2
      clear u1 b1 hb2 r1 p0 p1 p2
      go_wp2_with (refine wpList_loadB rfl _ rfl _ rfl b r2 hb ?_)
      refine (HD.out _).mono ?_
      rintro e w3 ⟨rfl, hb3⟩
      have u3 := there_below u2 hb3
      have b3 := Below.chain b2 hb3
      have K5 := loadVarB (World.rangeAt_setCells_same _ (w.heap.size + 1 + 1) 0 (ints Y) (by simpa [hl] using u3)) hl
      have K6 := below_cells (ints Y) _ (w.heap.size + 1 + 1) 0 b3 (by omega)
      clear u2 b2 hb3 r2 s0 s1 s2
      go_wp2_with (refine wpList_storeB rfl _ _ rfl _ Y rfl rfl u3 hl ?_)
      exact bodyPost_ret (v := mkV Y true) (res_cell2 Try.results31 rfl K5) rfl ⟨by rw [HF2.out]; rfl, K6⟩
end Go.Proofs.Ytfbnmkpkihfocaa
namespace Go.Proofs.Ytfbnmkpkihfocaa
open Go.RowKit
end Go.Proofs.Ytfbnmkpkihfocaa
namespace Go.Proofs.Ytfbnmkpkihfocaa
open Go.RowKit
set_option linter.unusedVariables false
set_option linter.unusedSimpArgs false
set_option maxRecDepth 100000
attribute [local go_sem ↓] Go.wp_at_zero Go.wp_at_succ
theorem djV_form {b : List Int} (hb : b.length = 19) (k a v : Int) : ∃ Y ok, djV b k a v = mkV Y ok ∧ Y.length = 19 := by
  unfold djV
  rcases hg : goodB b with _ | _
  · exact ⟨zeroI, false, rfl, by simp [zeroI]⟩
  · exact ⟨jobB b k a v, possB b k a v, rfl, jobB_len hb hg k a v⟩
end Go.Proofs.Ytfbnmkpkihfocaa
namespace Go.Proofs.Ytfbnmkpkihfocaa
open Go.RowKit
set_option linter.unusedVariables false
set_option maxRecDepth 100000
abbrev J3 : Type := Int × Int × Int
def flat3 (ps : List J3) : List Value := ps.flatMap fun p => [.int .i64 p.1, .int .i64 p.2.1, .int .i64 p.2.2]
theorem flat3_append (xs ys : List J3) : flat3 (xs ++ ys) = flat3 xs ++ flat3 ys := by simp [flat3]
theorem flat3_cons (p : J3) (ps : List J3) : flat3 (p :: ps) = .int .i64 p.1 :: .int .i64 p.2.1 :: .int .i64 p.2.2 :: flat3 ps := by simp [flat3]
theorem flat3_length (ps : List J3) : (flat3 ps).length = ps.length * 3 := by
  induction ps with
  | nil => rfl
  | cons p ps ih => rw [flat3_cons]; simp only [List.length_cons, ih]; omega
theorem flat3_at {ps : List J3} {k : Nat} {p : J3} (h : ps[k]? = some p) : (flat3 ps)[k * 3]? = some (.int .i64 p.1) ∧ (flat3 ps)[k * 3 + 1]? = some (.int .i64 p.2.1) ∧ (flat3 ps)[k * 3 + 2]? = some (.int .i64 p.2.2) := by
  induction ps generalizing k with
  | nil => simp at h
  | cons q ps ih =>
    rw [flat3_cons]
    cases k with
    | zero => simp at h; subst h; simp
    | succ k =>
      simp at h
      have := ih h
      refine ⟨?_, ?_, ?_⟩
      · rw [show (k + 1) * 3 = k * 3 + 3 by omega]; simpa using this.1
      · rw [show (k + 1) * 3 + 1 = k * 3 + 1 + 3 by omega]; simpa using this.2.1
      · rw [show (k + 1) * 3 + 2 = k * 3 + 2 + 3 by omega]; simpa using this.2.2
def Trips (w : World) (v : Value) (ps : List J3) : Prop := Sl w 3 v ps.length (flat3 ps)
theorem Trips.below {w w' : World} {v : Value} {ps : List J3} (h : Trips w v ps) (hb : Below w.heap.size w w') : Trips w' v ps := Sl.below h hb
theorem Trips.le {w : World} {v : Value} {ps : List J3} (h : Trips w v ps) : ps.length ≤ 9223372036854775807 := Sl.le h
theorem Trips.of_own {w : World} {lo : Nat} {e : TypeId} {v : Value} {ps : List J3} (h : w.ownsRow lo e 3 v ps.length (flat3 ps)) : Trips w v ps := Sl.of_own h
theorem Trips.parts {w : World} {v : Value} {ps : List J3} (h : Trips w v ps) : ∃ a c, v = .slice a ps.length c ∧ ps.length ≤ c ∧ c ≤ 9223372036854775807 ∧
    Hid (∀ k p, ps[k]? = some p → ∃ b off, a = some ⟨b, off, none⟩ ∧ w.cell? ⟨b, off + k * 3, none⟩ = some (.int .i64 p.1) ∧ w.cell? ⟨b, off + k * 3 + 1, none⟩ = some (.int .i64 p.2.1) ∧ w.cell? ⟨b, off + k * 3 + 2, none⟩ = some (.int .i64 p.2.2)) := by
  obtain ⟨a, c, rfl, h1, h2, h3, h4⟩ := h
  refine ⟨a, c, rfl, h1, by unfold maxLen at h2; omega, fun k p hk => ?_⟩
  have hlt : k < ps.length := (List.getElem?_eq_some_iff.1 hk).1
  obtain ⟨b, off, rfl, hc⟩ := h4 (by omega)
  have := flat3_at hk
  refine ⟨b, off, rfl, ?_, ?_, ?_⟩
  · rw [hc _ (by omega)]; exact this.1
  · rw [Nat.add_assoc, hc _ (by omega)]; exact this.2.1
  · rw [Nat.add_assoc, hc _ (by omega)]; exact this.2.2
theorem info_Job : (Try.prog.info? 54).map (fun i => (i.zero, i.size, i.bytes)) = some (some (.agg #[.int .i64 0, .int .i64 0, .int .i64 0]), 3, 24) := by kernel_rfl
def z3 : J3 := (0, 0, 0)
theorem flat3_rep (n : Nat) : flat3 (List.replicate n z3) = List.replicate (n * 3) (.int .i64 0) := by
  induction n with
  | zero => rfl
  | succ n ih =>
    rw [List.replicate_succ, flat3_cons, ih, show (n + 1) * 3 = n * 3 + 1 + 1 + 1 by omega, List.replicate_succ, List.replicate_succ, List.replicate_succ]; rfl
theorem made_three (x : Value) (n : Nat) : (madeCells #[x, x, x] n).toList = List.replicate n x := by
  unfold madeCells
  rw [Array.toList_map, Array.toList_range]
  apply List.ext_getElem (by simp)
  intro i h1 h2
  simp only [List.getElem_map, List.getElem_range, List.getElem_replicate]
  have h : i % (#[x, x, x] : Array Value).size = 0 ∨ i % (#[x, x, x] : Array Value).size = 1 ∨ i % (#[x, x, x] : Array Value).size = 2 := by
    have : (#[x, x, x] : Array Value).size = 3 := rfl
    rw [this]; omega
  rcases h with h | h | h <;> rw [h] <;> rfl
theorem set_three (l r : List Value) (a b c d e f : Value) {k : Nat} (hk : k = l.length) : (((l ++ a :: b :: c :: r).set k d).set (k + 1) e).set (k + 2) f = l ++ d :: e :: f :: r := by
  subst hk
  rw [set_mid l (b :: c :: r) a d rfl]
  have e1 : l ++ d :: b :: c :: r = (l ++ [d]) ++ b :: c :: r := by simp
  rw [e1, set_mid (l ++ [d]) (c :: r) b e (by simp)]
  have e2 : (l ++ [d]) ++ e :: c :: r = (l ++ [d] ++ [e]) ++ c :: r := by simp
  rw [e2, set_mid (l ++ [d] ++ [e]) r c f (by simp)]; simp
theorem set_trip {fs : List J3} {k n : Nat} (hk : k < n) {p : J3} {w : World} {lo g cap : Nat} {e : TypeId}
    (ho : w.ownsRow lo e 3 (.slice (some ⟨g, 0, none⟩) n cap) n (flat3 (fs ++ List.replicate (n - k) z3))) (hf : fs.length = k) :
    (w.cell? ⟨g, k * 3, none⟩ = some (.int .i64 0) ∧ w.cell? ⟨g, k * 3 + 1, none⟩ = some (.int .i64 0) ∧ w.cell? ⟨g, k * 3 + 2, none⟩ = some (.int .i64 0)) ∧ (w.frozen? ⟨g, k * 3, none⟩ = false ∧ w.frozen? ⟨g, k * 3 + 1, none⟩ = false ∧ w.frozen? ⟨g, k * 3 + 2, none⟩ = false) ∧
      (((w.setCell ⟨g, k * 3, none⟩ (.int .i64 p.1)).setCell ⟨g, k * 3 + 1, none⟩ (.int .i64 p.2.1)).setCell ⟨g, k * 3 + 2, none⟩ (.int .i64 p.2.2)).ownsRow lo e 3 (.slice (some ⟨g, 0, none⟩) n cap) n (flat3 ((fs ++ [p]) ++ List.replicate (n - (k + 1)) z3)) := by
  have h1 := ho.stored (k * 3) (.int .i64 p.1)
  have h2 := h1.1.stored (k * 3 + 1) (.int .i64 p.2.1)
  have h3 := h2.1.stored (k * 3 + 2) (.int .i64 p.2.2)
  have hp : (fs ++ List.replicate (n - k) z3)[k]? = some z3 := by
    rw [List.getElem?_append_right (by omega), hf, Nat.sub_self, List.getElem?_replicate, if_pos (by omega)]
  have hc := flat3_at hp
  refine ⟨⟨(ho.cellAt _ (by omega)).trans hc.1, (ho.cellAt _ (by omega)).trans hc.2.1, (ho.cellAt _ (by omega)).trans hc.2.2⟩, ⟨ho.frozenAt _, ho.frozenAt _, ho.frozenAt _⟩, ?_⟩
  have e2 : (((flat3 (fs ++ List.replicate (n - k) z3)).set (k * 3) (.int .i64 p.1)).set (k * 3 + 1) (.int .i64 p.2.1)).set (k * 3 + 2) (.int .i64 p.2.2) = flat3 ((fs ++ [p]) ++ List.replicate (n - (k + 1)) z3) := by
    rw [show n - k = (n - (k + 1)) + 1 by omega, List.replicate_succ, flat3_append, flat3_append, flat3_append, flat3_cons]
    rw [set_three _ _ _ _ _ _ _ _ (by rw [flat3_length, hf]), flat3_cons]; simp [flat3]
  rw [← e2]; exact h3.1
end Go.Proofs.Ytfbnmkpkihfocaa
