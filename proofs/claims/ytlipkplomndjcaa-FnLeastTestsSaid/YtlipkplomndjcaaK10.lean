/- Texts of this claim, gathered: Full, HelpFault, Vs, Draw, DrawT, Cft4. -/
import Derived.Test.YtlipkplomndjcaaK9
import Derived.Deep.RegionHeld3
namespace Go.Proofs.Ytlipkplomndjcaa
set_option linter.unusedVariables false
theorem firstAt_any (p : Int → Bool) (xs : List Int) : 0 ≤ firstAt p xs ↔ ∃ x ∈ xs, p x = true := by
  constructor
  · intro h
    by_cases hx : ∃ x ∈ xs, p x = true
    · exact hx
    · have : firstAt p xs = -1 := firstAt_none (k := xs.length) (Nat.le_refl _) (fun j x _ hj => by
        cases hp : p x
        · rfl
        · exact absurd ⟨x, List.mem_of_getElem? hj, hp⟩ hx)
      omega
  · rintro ⟨x, hx, hp⟩
    unfold firstAt
    cases h : xs.findIdx? p with
    | none =>
      rw [List.findIdx?_eq_none_iff] at h
      have := h x hx
      rw [hp] at this; cases this
    | some i => simp
theorem full_iff (xs : List Int) : fullB xs = true ↔ ∀ s ∈ allSt.drop 1, ∃ x ∈ xs, finds s.1 s.2 x = true := by
  rw [fullB_hidden, decide_eq_true_eq, List.length_eq_zero_iff, hiddenSt_eq, List.filter_eq_nil_iff]
  constructor
  · intro h s hs
    have := h s hs
    simp only [beq_iff_eq, decide_eq_false_iff_not, Decidable.not_not] at this
    exact (firstAt_any _ _).1 this
  · intro h s hs
    simp only [beq_iff_eq, decide_eq_false_iff_not, Decidable.not_not]
    exact (firstAt_any _ _).2 (h s hs)
theorem full_mono {xs ys : List Int} (h : ∀ x ∈ xs, x ∈ ys) (hf : fullB xs = true) : fullB ys = true := by
  rw [full_iff] at hf ⊢
  intro s hs
  obtain ⟨x, hx, hp⟩ := hf s hs
  exact ⟨x, h x hx, hp⟩
theorem least_in : ∀ (n : Nat) (l : List Int), l.length = n → fullB l = true → ∃ m, m.Sublist l ∧ leastL m = true := by
  intro n
  induction n using Nat.strongRecOn with
  | ind n ih =>
    intro l hn hf
    by_cases h : ∃ i, i < l.length ∧ fullB (l.eraseIdx i) = true
    · obtain ⟨i, hi, hfi⟩ := h
      obtain ⟨m, h1, h2⟩ := ih (l.eraseIdx i).length (by rw [List.length_eraseIdx]; simp [hi]; omega) (l.eraseIdx i) rfl hfi
      exact ⟨m, h1.trans (List.eraseIdx_sublist _ _), h2⟩
    · refine ⟨l, List.Sublist.refl _, ?_⟩
      rw [leastL_ok (fun i hi => ?_)]
      · exact hf
      · cases hb : fullB (l.eraseIdx i)
        · rfl
        · exact absurd ⟨i, hi, hb⟩ h
theorem loopE_sub : ∀ {m l : List Int}, m.Sublist l → ∀ part : List Int, part ++ m ∈ part :: loopE l part := by
  intro m l h
  induction h with
  | slnil => intro part; simp
  | cons x h ih =>
    intro part
    have := ih part
    rw [List.mem_cons] at this ⊢
    rcases this with e | e
    · exact .inl e
    · right; rw [loopE_cons]; exact List.mem_append_right _ e
  | cons_cons x h ih =>
    intro part
    have := ih (part ++ [x])
    rw [List.mem_cons]; right
    rw [loopE_cons]
    apply List.mem_append_left
    rw [List.append_assoc] at this
    exact this
theorem sub_loopE : ∀ (l part q : List Int), q ∈ part :: loopE l part → ∃ m, m.Sublist l ∧ q = part ++ m
  | [], part, q, h => by simp [loopE] at h; exact ⟨[], List.Sublist.refl _, by simp [h]⟩
  | x :: t, part, q, h => by
    rw [List.mem_cons] at h
    rcases h with e | h
    · exact ⟨[], List.nil_sublist _, by simp [e]⟩
    · rw [loopE_cons] at h
      rcases List.mem_append.1 h with h | h
      · obtain ⟨m, h1, h2⟩ := sub_loopE t (part ++ [x]) q h
        exact ⟨x :: m, h1.cons_cons x, by rw [h2]; simp⟩
      · obtain ⟨m, h1, h2⟩ := sub_loopE t part q (List.mem_cons_of_mem _ h)
        exact ⟨m, h1.cons x, h2⟩
theorem sub_ten {l : List Int} (h1 : l.Pairwise (· < ·)) (h2 : ∀ y ∈ l, digitB y = true) : l.Sublist tenI := by
  have e : l = tenI.filter fun y => decide (y ∈ l) := by
    apply eq_of_lt _ _ h1 (tenI_lt.filter _)
    intro x
    rw [List.mem_filter, decide_eq_true_eq]
    constructor
    · intro hx
      refine ⟨?_, hx⟩
      have := digitB_true (h2 x hx)
      obtain ⟨k, rfl⟩ := Int.eq_ofNat_of_zero_le this.1
      exact List.mem_of_getElem? (tenI_at (k := k) (by omega))
    · exact fun h => h.2
  rw [e]; exact List.filter_sublist
theorem setS_asc {l : List Int} (h : l.Pairwise (· < ·)) : setS l = l := eq_of_lt _ _ (setS_lt l) h (setS_mem l)
theorem setS_sub {xs : List Int} (ht : testB xs = true) : (setS xs).Sublist tenI := by
  refine sub_ten (setS_lt xs) (fun y hy => ?_)
  have := testB_set ht
  unfold testB at this
  simp only [Bool.and_eq_true, List.all_eq_true] at this
  exact this.2 y hy
theorem full_least {xs : List Int} (ht : testB xs = true) : (∃ l ∈ ltA, ∀ x ∈ l, x ∈ xs) ↔ fullB xs = true := by
  constructor
  · rintro ⟨l, hl, hs⟩
    unfold ltA at hl
    rw [List.mem_filter] at hl
    have hf : fullB (setS l) = true := by have := hl.2; unfold leastL at this; rw [Bool.and_eq_true] at this; exact this.2
    exact full_mono (fun x hx => hs x ((setS_mem l x).1 hx)) hf
  · intro hf
    obtain ⟨m, h1, h2⟩ := least_in _ (setS xs) rfl (full_mono (fun x hx => (setS_mem xs x).2 hx) hf)
    refine ⟨m, ?_, fun x hx => (setS_mem xs x).1 (h1.subset hx)⟩
    unfold ltA
    rw [List.mem_filter]
    refine ⟨?_, ?_⟩
    · have := loopE_sub (h1.trans (setS_sub ht)) []
      exact this
    · rw [setS_asc ((setS_lt xs).sublist h1)]; exact h2
/-- the shortest test is full, least, and a part of its set; where there is none the test is not full -/
theorem short_some {xs b : List Int} (h : shR xs = some b) : fullB b = true ∧ leastL b = true ∧ setS b = b ∧ ∀ x ∈ b, x ∈ xs := by
  have hB := bestA_is (subsL (setS xs)) (subsL_lex _ (setS_lt xs))
  unfold shR at h
  rw [h] at hB
  obtain ⟨h1, h2, h3⟩ := hB
  obtain ⟨m, hsub, e⟩ := sub_loopE (setS xs) [] b h1
  rw [List.nil_append] at e
  subst e
  refine ⟨h2, ?_, setS_asc ((setS_lt xs).sublist hsub), fun x hx => (setS_mem xs x).1 (hsub.subset hx)⟩
  rw [leastL_ok (fun i hi => ?_)]
  · exact h2
  · cases hf : fullB (b.eraseIdx i)
    · rfl
    · have hm : b.eraseIdx i ∈ subsL (setS xs) := loopE_sub ((List.eraseIdx_sublist _ _).trans hsub) []
      exact absurd (.inl (by rw [List.length_eraseIdx]; simp [hi]; omega)) (h3 _ hm hf)
theorem short_none {xs : List Int} (h : shR xs = none) : fullB xs = false := by
  have hB := bestA_is (subsL (setS xs)) (subsL_lex _ (setS_lt xs))
  unfold shR at h
  rw [h] at hB
  cases hf : fullB xs
  · rfl
  · have hm : setS xs ∈ subsL (setS xs) := loopE_sub (List.Sublist.refl _) []
    have := hB _ hm
    rw [full_mono (fun x hx => (setS_mem xs x).2 hx) hf] at this
    cases this
end Go.Proofs.Ytlipkplomndjcaa
namespace Go.Proofs.Ytlipkplomndjcaa
open Go.RowKit
set_option linter.unusedVariables false
set_option maxRecDepth 100000

end Go.Proofs.Ytlipkplomndjcaa
namespace Go.Proofs.Ytlipkplomndjcaa
open Go.RowKit
set_option linter.unusedVariables false
set_option maxRecDepth 100000
theorem vInts_c (v1 v2 : Value) (xs ys : List Int) (w : World) (h1 : Ints w v1 xs) (h2 : Ints w v2 ys) :
    Calls Try.prog 19 #[v1, v2] w fun e w' => e = .returned (.bool (decide (xs = ys))) ∧ Below w.heap.size w w' := by
  have hm1 := h1.le; have hm2 := h2.le
  obtain ⟨a1, c1, rfl, _, _, H1⟩ := h1.parts
  obtain ⟨a2, c2, rfl, _, _, H2⟩ := h2.parts
  by_cases hl : xs.length = ys.length
  · have hlb : ((xs.length : Int) != (ys.length : Int)) = false := by simp [hl]
    have HL := Lib.hid hl; clear hl
    go_enter Try.func19, Try.ntmps19
    go_wp2
    go_loopw [5] (fun i wr => ∃ k : Nat, k ≤ xs.length ∧ i = .int .i64 k ∧ Hid (∀ j, j < k → xs[j]? = ys[j]?) ∧ Hid (∃ n, wr = w.drewN n)) (fun i _ => xs.length - (intOf i).toNat)
    case atStart => exact ⟨0, by omega, rfl, fun j hj => by omega, ⟨0, rfl⟩⟩
    case round =>
      obtain ⟨k, hk, rfl, hsame, hw⟩ := hrel
      by_cases hlt : k < xs.length
      · have hlt2 : k < ys.length := by rw [← HL.out]; exact hlt
        obtain ⟨x, hx⟩ := elem_at hlt
        obtain ⟨y, hy⟩ := elem_at hlt2
        obtain ⟨b1, o1, rfl, g1⟩ := H1.out k x hx.out
        obtain ⟨b2, o2, rfl, g2⟩ := H2.out k y hy.out
        obtain ⟨n, rfl⟩ := hw.out
        clear h1 h2
        go_wp2
        go_quiet (fail)
        go_wp2
        · rename_i ht
          go_ret
          refine ⟨bool_ret ?_, below_drewN (below_drewN (Below.refl _ _))⟩
          symm; apply decide_eq_false; rintro rfl
          have := hx.out.symm.trans hy.out; simp at this ht; exact ht this
        · rename_i ht
          exact ⟨⟨k+1, by omega, by go_num, fun j hj => by
            by_cases hj2 : j < k
            · exact hsame.out j hj2
            · obtain rfl : j = k := by omega
              rw [hx.out, hy.out]; simp at ht; rw [ht], ⟨_, rfl⟩⟩, by simp [intOf]; omega⟩
      · obtain ⟨n, rfl⟩ := hw.out
        go_wp2
        go_ret
        refine ⟨bool_ret ?_, below_drewN (Below.refl _ _)⟩
        symm; apply decide_eq_true
        exact list_eq_of HL.out (by omega) hsame.out
  · have hlb : ((xs.length : Int) != (ys.length : Int)) = true := by simp; omega
    go_enter Try.func19, Try.ntmps19
    go_wp2
    go_ret
    refine ⟨bool_ret ?_, Below.refl _ _⟩
    symm; apply decide_eq_false; rintro rfl; exact hl rfl

theorem vGroups_c (u1 u2 : Value) (xss : List (List Int)) (B1 B2 : Nat) (w : World) (h1 : RdSS w B1 u1 xss) (h2 : RdSS w B2 u2 xss) :
    Calls Try.prog 51 #[u1, u2] w fun e w' => e = .returned (.bool true) ∧ Below w.heap.size w w' := by
  obtain ⟨a1, c1, rfl, hl1, H1⟩ := h1.parts
  obtain ⟨a2, c2, rfl, _, H2⟩ := h2.parts
  have hlb : ((xss.length : Int) != (xss.length : Int)) = false := by simp
  go_enter Try.func51, Try.ntmps51
  go_wp2
  go_loopw [5] (fun j wr => ∃ k : Nat, k ≤ xss.length ∧ j = .int .i64 (k : Int) ∧ Below w.heap.size w wr) (fun j _ => xss.length - (intOf j).toNat)
  case atStart => exact ⟨0, by omega, rfl, Below.refl _ _⟩
  case round =>
    obtain ⟨k, hk, rfl, hb⟩ := hrel
    by_cases hlt : k < xss.length
    · have hd : decide ((k : Int) < (xss.length : Int)) = true := by simp; omega
      obtain ⟨xs, hx⟩ := elem_at hlt
      obtain ⟨b1, o1, a1', c1', rfl, f1, i1⟩ := H1.out k xs hx.out
      obtain ⟨b2, o2, a2', c2', rfl, f2, i2⟩ := H2.out k xs hx.out
      have g1 := cell_later hb f1
      have g2 := cell_later hb f2
      have j1 := i1.below hb
      have j2 := i2.below hb
      clear f1 f2 i1 i2
      go_wp2_with fail
      go_region_held3 (fun w' => w'.cell? ⟨b1, o1 + k, none⟩ = some (.slice a1' xs.length c1') ∧ w'.cell? ⟨b2, o2 + k, none⟩ = some (.slice a2' xs.length c2'))
        (first | go_keep | (go_split_ands; exact ⟨cell_later hb2 (by assumption), cell_later hb2 (by assumption)⟩))
        (first | (go_at_call 19; refine (vInts_c _ _ xs xs _ j1.drew j2.drew).mono ?_; rintro e w' ⟨rfl, hb2⟩))
      have hb3 : Below w.heap.size w w' := Below.chain hb (Below.chain (Below.refl _ _).drew hb2)
      go_wp2
      go_roundw
      case rel => exact ⟨k + 1, by omega, by go_num, hb3⟩
      case measure => simp [intOf]; omega
    · obtain rfl : k = xss.length := by omega
      go_wp2
      go_ret
      exact ⟨rfl, hb⟩
theorem vHas_c (v : Value) (xs : List Int) (x : Int) (w : World) (h : Ints w v xs) :
    Calls Try.prog 52 #[v, .int .i64 x] w fun e w' => e = .returned (.bool (decide (x ∈ xs))) ∧ w = w' := by
  have hm1 := h.le
  obtain ⟨a1, c1, rfl, _, _, H1⟩ := h.parts
  clear h
  go_enter Try.func52, Try.ntmps52
  go_wp2
  go_loopw [5] (fun i wr => ∃ k : Nat, k ≤ xs.length ∧ i = .int .i64 k ∧ Hid (∀ (j : Nat) (y : Int), j < k → xs[j]? = some y → y ≠ x) ∧ w = wr) (fun i _ => xs.length - (intOf i).toNat)
  case atStart => exact ⟨0, by omega, rfl, fun j y hj => by omega, rfl⟩
  case round =>
    obtain ⟨k, hk, rfl, hno, rfl⟩ := hrel
    by_cases hlt : k < xs.length
    · obtain ⟨y, hy⟩ := elem_at hlt
      obtain ⟨b1, o1, rfl, g1⟩ := H1.out k y hy.out
      have hd : decide ((k : Int) < (xs.length : Int)) = true := by simp; omega
      by_cases he : y = x
      · subst he
        have hmem : decide (y ∈ xs) = true := decide_eq_true (List.mem_of_getElem? hy.out)
        have HM := Lib.hid hmem
        clear hmem
        go_wp2
        go_ret
        exact ⟨bool_ret HM.out.symm, rfl⟩
      · have heb : (y == x) = false := by simpa using he
        have HE := Lib.hid he
        clear he
        go_wp2
        go_roundw
        case rel => exact ⟨k + 1, by omega, by go_num, fun j z hj hz => by
          by_cases hj2 : j < k
          · exact hno.out j z hj2 hz
          · obtain rfl : j = k := by omega
            rw [hy.out] at hz; cases hz; exact HE.out, trivial⟩
        case measure => simp [intOf]; omega
    · have hd : decide ((k : Int) < (xs.length : Int)) = false := by simp; omega
      go_wp2
      go_ret
      refine ⟨bool_ret ?_, rfl⟩
      symm; apply decide_eq_false
      intro hm
      obtain ⟨j, hj⟩ := List.mem_iff_getElem?.1 hm
      have hjl := (List.getElem?_eq_some_iff.1 hj).1
      exact hno.out j x (by omega) hj rfl
end Go.Proofs.Ytlipkplomndjcaa
namespace Go.Proofs.Ytlipkplomndjcaa
open Go.RowKit
set_option linter.unusedVariables false
set_option linter.unusedSimpArgs false
set_option maxRecDepth 100000

theorem cell_c (g m : Nat) (w : World) (h : CurAt w g m) (hm : m + 20 < 4611686018427387904) :
    Calls Try.prog 83 #[.pointer (some ⟨g, 0, none⟩)] w (DrawI w g (m + 20) fun _ => True) := by
  have HC := Lib.hid h
  clear h
  go_enter Try.func83, Try.ntmps83
  go_wp2_with fail
  refine (pick_c 40 g m _ HC.out (by omega)).mono ?_
  rintro e w1 ⟨x, rfl, hx, hs⟩
  have HS := Lib.hid hs
  clear hs hx
  have A1 := Lib.hid (fun xs hp hl => amongL_c xs g (m + 2) w1 _ rfl HS.out.cur (by omega) hp hl)
  have O1 := Lib.hid (fun n => one_c n g (m + 2) w1 HS.out.cur (by omega))
  by_cases e0 : x = 0
  · subst e0
    go_wp2_with fail
    refine (A1.out [-1, 128, 4611686018427387904] (by decide) (by decide)).mono ?_
    rintro e w2 ⟨y, rfl, hy, hs⟩
    have HS2 := Lib.hid (HS.out.trans hs)
    clear hs hy
    go_wp2
    go_ret
    exact ⟨_, rfl, trivial, HS2.out.mono (by omega)⟩
  · by_cases e1 : x = 1 ∨ x = 2 ∨ x = 3
    · rcases e1 with rfl | rfl | rfl <;>
      · go_wp2_with fail
        refine (A1.out [0, 127, 64] (by decide) (by decide)).mono ?_
        rintro e w2 ⟨y, rfl, hy, hs⟩
        have HS2 := Lib.hid (HS.out.trans hs)
        clear hs hy
        go_wp2
        go_ret
        exact ⟨_, rfl, trivial, HS2.out.mono (by omega)⟩
    · have e1' : ¬ x = 1 := fun h => e1 (.inl h)
      have e2' : ¬ x = 2 := fun h => e1 (.inr (.inl h))
      have e3' : ¬ x = 3 := fun h => e1 (.inr (.inr h))
      clear e1
      go_wp2_with fail
      refine (O1.out 3).mono ?_
      rintro e w2 ⟨b, rfl, hs⟩
      have HS2 := Lib.hid (HS.out.trans hs)
      clear hs
      cases b with
      | true =>
        go_wp2_with fail
        refine (pick_c 128 g (m + 4) _ HS2.out.cur (by omega)).mono ?_
        rintro e w3 ⟨y, rfl, hy, hs⟩
        have HS3 := Lib.hid (HS2.out.trans hs)
        clear hs hy
        go_wp2
        go_ret
        exact ⟨_, rfl, trivial, HS3.out.mono (by omega)⟩
      | false =>
        go_wp2_with fail
        refine (pick_c 10 g (m + 4) _ HS2.out.cur (by omega)).mono ?_
        rintro e w3 ⟨y, rfl, hy, hs⟩
        have HS3 := Lib.hid (HS2.out.trans hs)
        have y0 := hy.1
        have y1 := hy.2 (by omega)
        clear hs hy
        go_wp2_with fail
        refine (l2Digit_c y y0 (by omega) _).mono ?_
        rintro e w4 ⟨rfl, hb⟩
        have HS4 := Lib.hid (HS3.out.below hb)
        clear hb
        go_wp2_with fail
        refine (one_c 5 g (m + 6) _ HS4.out.cur (by omega)).mono ?_
        rintro e w5 ⟨b, rfl, hs⟩
        have HS5 := Lib.hid (HS4.out.trans hs)
        clear hs
        cases b with
        | false =>
          go_wp2
          go_ret
          exact ⟨_, rfl, trivial, HS5.out.mono (by omega)⟩
        | true =>
          go_wp2_with fail
          refine (pick_c 7 g (m + 8) _ HS5.out.cur (by omega)).mono ?_
          rintro e w6 ⟨z, rfl, hz, hs⟩
          have HS6 := Lib.hid (HS5.out.trans hs)
          obtain ⟨k, rfl⟩ := Int.eq_ofNat_of_zero_le hz.1
          have z1 : k < 7 := by have := hz.2 (by omega); omega
          clear hs hz
          go_wp2
          go_ret
          exact ⟨_, rfl, trivial, HS6.out.mono (by omega)⟩

/-- What a draw of a slice of ints gives. -/
def DrawS (w : World) (g m n : Nat) (e : Ending) (w' : World) : Prop :=
  ∃ (v : Value) (xs : List Int), e = .returned v ∧ xs.length ≤ n ∧ w'.ownsRow w.heap.size 3 1 v xs.length (xs.map (Value.int .i64)) ∧ CStep w w' g m
theorem DrawS.mono {w : World} {g m m' n n' : Nat} {e : Ending} {w' : World} (h : DrawS w g m n e w') (hm : m ≤ m') (hn : n ≤ n') : DrawS w g m' n' e w' := by
  obtain ⟨v, xs, h1, h2, h3, h4⟩ := h
  exact ⟨v, xs, h1, by omega, h3, h4.mono hm⟩
/-- behind an append to a row of the call's own -/
theorem CStep.grown {a b c : World} {g m : Nat} {r : Option Nat} (h : CStep a b g m) (hg : b.grownBy c r) (hga : g < a.heap.size) (hr : ∀ k, r = some k → a.heap.size ≤ k) : CStep a c g m :=
  ⟨⟨hg.os.trans h.gr.os, hg.tape.trans h.gr.tape, hg.output.trans h.gr.output, Nat.le_trans h.gr.size hg.size, fun i hi hne => (hg.block i (Nat.lt_of_lt_of_le hi h.gr.size) (fun e => by
    have := hr i e.symm; omega)).trans (h.gr.block i hi hne)⟩, h.cur.grown hg (fun k hk => by have := hr k hk; omega)⟩
theorem row_start (w : World) (lo : Nat) (h : lo ≤ w.heap.size) : (w.alloc (.cells #[] 3)).ownsRow lo 3 1 (.slice (some ⟨w.heap.size, 0, none⟩) 0 0) ([] : List Int).length (([] : List Int).map (Value.int .i64)) :=
  World.ownsRow_lit (e := 3) (size := 1) (base := lo) w #[] 0 h (by decide) rfl
set_option maxHeartbeats 1000000 in
theorem row_c (g m : Nat) (w : World) (h : CurAt w g m) (hm : m + 150 < 4611686018427387904) :
    Calls Try.prog 114 #[.pointer (some ⟨g, 0, none⟩)] w (DrawS w g (m + 150) 7) := by
  have HC := Lib.hid h
  have hga := h.lt
  obtain ⟨i, hi, hz0, hz1, hz2⟩ := info_parts info_int
  have HO := Lib.hid (row_start w w.heap.size (Nat.le_refl _))
  clear h
  go_enter Try.func114, Try.ntmps114
  go_wp2_with fail
  refine (amongL_c [2, 3, 1, 4, 6, 0, 5, 2, 3] g m _ _ (by simp) (HC.out.alloc (.cells #[] 3)) (by omega) (by decide) (by decide)).mono ?_
  rintro e w1 ⟨x, rfl, hx, hs⟩
  have HS := Lib.hid ((((CStep.refl HC.out).alloc (.cells #[] 3)).trans hs))
  have ho := hs.row HO.out hga
  obtain ⟨x0, x1⟩ : 0 ≤ x ∧ x ≤ 6 := by
    simp only [List.mem_cons, List.not_mem_nil, or_false] at hx; omega
  obtain ⟨k, rfl⟩ := Int.eq_ofNat_of_zero_le x0
  have hk : k ≤ 6 := by omega
  clear hs hx x0 x1 HO
  go_wp2
  go_loopw [3, 4] (fun o j wr => ∃ (k : Nat) (xs : List Int), k ≤ 6 ∧ j = .int .i64 (k : Int) ∧ xs.length + k ≤ 6 ∧ wr.ownsRow w.heap.size 3 1 o xs.length (xs.map (Value.int .i64)) ∧ CStep w wr g (m + 2 + 20 * (6 - k))) (fun _ j _ => (intOf j).toNat)
  case atStart => exact ⟨k, [], hk, rfl, by simpa using hk, ho, HS.out.mono (by omega)⟩
  case round =>
    obtain ⟨k, xs, hk, rfl, hl, ho, hs⟩ := hrel
    have HS := Lib.hid hs
    have HO := Lib.hid ho
    clear hs ho
    by_cases hk0 : 0 < k
    · have hd : decide (0 < (k : Int)) = true := by simp; omega
      go_wp2_with fail
      refine (cell_c g _ _ HS.out.cur (by omega)).mono ?_
      rintro e w2 ⟨x, rfl, _, hs⟩
      have HS2 := Lib.hid (HS.out.trans hs)
      have HO2 := Lib.hid (hs.row HO.out hga)
      clear hs
      go_wp2_with (at_builtin; refine wpList_append_own_at _ rfl _ _ 24 rfl w.heap.size 3 i (.int .i64 0) 1 8 Try.underlying24 hi hz0 hz1 hz2 rfl (by decide) _ xs.length (xs.map (Value.int .i64)) rfl (HO2.out.alloc _) ⟨w2.heap.size, 0, none⟩ 1 1 [.int .i64 x] rfl rfl (news_new _ [.int .i64 x] _) (by simp [Value.oneCell']) (by unfold maxLen; omega) (by omega) (by have := HS2.out.gr.size; simp; omega) ?_)
      intro v' w3 ho5 hg5 _ _
      have HS3 := Lib.hid ((HS2.out.alloc _).grown hg5 hga (fun k hk => ((HO2.out.alloc (.cells #[.int .i64 x] 3)).lt k hk).1))
      have HO3 := Lib.hid ho5
      clear ho5 hg5
      go_wp2
      go_roundw
      case rel => exact ⟨k - 1, xs ++ [x], by omega, by go_num, by simp; omega, ownsRow_cast HO3.out (by simp) (ints_snoc _ _).symm, HS3.out.mono (by omega)⟩
      case measure => simp [intOf]; omega
    · obtain rfl : k = 0 := by omega
      clear hk0
      go_wp2_with fail
      refine (one_c 40 g _ _ HS.out.cur (by omega)).mono ?_
      rintro e w2 ⟨b, rfl, hs⟩
      have HS2 := Lib.hid (HS.out.trans hs)
      have HO2 := Lib.hid (hs.row HO.out hga)
      clear hs
      cases b with
      | false =>
        go_wp2
        go_ret
        exact ⟨_, xs, rfl, by omega, HO2.out, HS2.out.mono (by omega)⟩
      | true =>
        go_wp2
        go_ret
        exact ⟨_, [6, 6, 6, 6, 6, 6, 6], rfl, by decide, World.ownsRow_lit (e := 3) (size := 1) (base := w.heap.size) w2 #[.int .i64 6, .int .i64 6, .int .i64 6, .int .i64 6, .int .i64 6, .int .i64 6, .int .i64 6] 7 HS2.out.gr.size (by decide) rfl, (HS2.out.alloc _).mono (by omega)⟩
set_option maxHeartbeats 1000000 in
theorem digits_d (g m : Nat) (w : World) (h : CurAt w g m) (hm : m + 200 < 4611686018427387904) :
    Calls Try.prog 95 #[.pointer (some ⟨g, 0, none⟩)] w (DrawS w g (m + 200) 7) := by
  have HC := Lib.hid h
  have hga := h.lt
  obtain ⟨i, hi, hz0, hz1, hz2⟩ := info_parts info_int
  clear h
  go_enter Try.func95, Try.ntmps95
  go_wp2_with fail
  refine (one_c 6 g m _ HC.out (by omega)).mono ?_
  rintro e w1 ⟨b, rfl, hs⟩
  have HS := Lib.hid hs
  clear hs
  cases b with
  | true =>
    go_wp2_with fail
    refine (row_c g (m + 2) _ HS.out.cur (by omega)).mono ?_
    rintro e w2 ⟨v, xs, rfl, hl, ho, hs⟩
    have HS2 := Lib.hid (HS.out.trans hs)
    have HO2 := Lib.hid (own_lo ho HS.out.gr.size)
    clear hs ho
    go_wp2
    go_ret
    exact ⟨_, xs, rfl, hl, HO2.out, HS2.out.mono (by omega)⟩
  | false =>
    have HO := Lib.hid (row_start w1 w.heap.size HS.out.gr.size)
    have HS1 := Lib.hid (HS.out.alloc (.cells #[] 3))
    go_wp2_with fail
    refine (amongL_c [2, 3, 1, 4, 6] g (m + 2) _ _ (by simp) HS1.out.cur (by omega) (by decide) (by decide)).mono ?_
    rintro e w2 ⟨x, rfl, hx, hs⟩
    have HS2 := Lib.hid (HS1.out.trans hs)
    have ho := hs.row HO.out hga
    obtain ⟨x0, x1⟩ : 0 ≤ x ∧ x ≤ 6 := by
      simp only [List.mem_cons, List.not_mem_nil, or_false] at hx; omega
    obtain ⟨k, rfl⟩ := Int.eq_ofNat_of_zero_le x0
    have hk : k ≤ 6 := by omega
    clear hs hx x0 x1 HO HS1 HS
    go_wp2
    go_loopw [3, 4] (fun o j wr => ∃ (k : Nat) (xs : List Int), k ≤ 6 ∧ j = .int .i64 (k : Int) ∧ xs.length + k ≤ 6 ∧ wr.ownsRow w.heap.size 3 1 o xs.length (xs.map (Value.int .i64)) ∧ CStep w wr g (m + 4 + 20 * (6 - k))) (fun _ j _ => (intOf j).toNat)
    case atStart => exact ⟨k, [], hk, rfl, by simpa using hk, ho, HS2.out.mono (by omega)⟩
    case round =>
      obtain ⟨k, xs, hk, rfl, hl, ho, hs⟩ := hrel
      have HS := Lib.hid hs
      have HO := Lib.hid ho
      clear hs ho
      by_cases hk0 : 0 < k
      · have hd : decide (0 < (k : Int)) = true := by simp; omega
        go_wp2_with fail
        refine (amongL_c [0, 1, 2, 5, 6, 8, 9, 3, 4, 7] g _ _ _ (by simp) HS.out.cur (by omega) (by decide) (by decide)).mono ?_
        rintro e w2 ⟨x, rfl, hx, hs⟩
        obtain ⟨x0, x1⟩ : 0 ≤ x ∧ x ≤ 9 := by
          simp only [List.mem_cons, List.not_mem_nil, or_false] at hx; omega
        have HS2 := Lib.hid (HS.out.trans hs)
        have HO2 := Lib.hid (hs.row HO.out hga)
        clear hs hx
        go_wp2_with fail
        refine (l2Digit_c x x0 x1 _).mono ?_
        rintro e w3 ⟨rfl, hb⟩
        have HS3 := Lib.hid (HS2.out.below hb)
        have HO3 := Lib.hid (own_keep HO2.out hb)
        clear hb
        go_wp2_with (at_builtin; refine wpList_append_own_at _ rfl _ _ 24 rfl w.heap.size 3 i (.int .i64 0) 1 8 Try.underlying24 hi hz0 hz1 hz2 rfl (by decide) _ xs.length (xs.map (Value.int .i64)) rfl (HO3.out.alloc _) ⟨w3.heap.size, 0, none⟩ 1 1 [.int .i64 (dg x)] rfl rfl (news_new _ [.int .i64 (dg x)] _) (by simp [Value.oneCell']) (by unfold maxLen; omega) (by omega) (by have := HS3.out.gr.size; simp; omega) ?_)
        intro v' w4 ho5 hg5 _ _
        have HS4 := Lib.hid ((HS3.out.alloc _).grown hg5 hga (fun k hk => ((HO3.out.alloc (.cells #[.int .i64 (dg x)] 3)).lt k hk).1))
        have HO4 := Lib.hid ho5
        clear ho5 hg5
        go_wp2
        go_roundw
        case rel => exact ⟨k - 1, xs ++ [dg x], by omega, by go_num, by simp; omega, ownsRow_cast HO4.out (by simp) (ints_snoc _ _).symm, HS4.out.mono (by omega)⟩
        case measure => simp [intOf]; omega
      · obtain rfl : k = 0 := by omega
        clear hk0
        go_wp2
        go_ret
        exact ⟨_, xs, rfl, by omega, HO.out, HS.out.mono (by omega)⟩
/-- What a draw of a Fault gives. -/
def DrawF (w : World) (g m : Nat) (e : Ending) (w' : World) : Prop := ∃ d l : Int, e = .returned (.agg #[.int .i64 d, .int .i64 l]) ∧ CStep w w' g m
theorem CStep.store {a b : World} {g m : Nat} (h : CStep a b g m) (hga : g < a.heap.size) {p : Addr} (hp : a.heap.size ≤ p.block) (v : Value) : CStep a (b.setCell p v) g m :=
  ⟨⟨h.gr.os, h.gr.tape, h.gr.output, by have := h.gr.size; simp [World.setCell]; exact this, fun k hk hne => (Below.heap_setCell _ _ _ _ (by omega)).trans (h.gr.block k hk hne)⟩, h.cur.blocks fun k hk => Below.heap_setCell _ _ _ _ (by omega)⟩
theorem Bk.step {a b : World} {g m k t : Nat} {cs : Array Value} (h : Bk a k t cs) (hs : CStep a b g m) (hk : k ≠ g) : Bk b k t cs := h.keep (hs.gr.block k h.lt (fun e => hk (by cases e; rfl)))
theorem two_res {W : World} {b t : Nat} {a c : Value} (h : Bk W b t #[a, c]) (X Y : Value) :
    ((W.setCell ⟨b, 0, none⟩ X).setCell ⟨b, 1, none⟩ Y).cell? ⟨b, 0, none⟩ = some X ∧ ((W.setCell ⟨b, 0, none⟩ X).setCell ⟨b, 1, none⟩ Y).cell? ⟨b, 1, none⟩ = some Y := by
  have h2 := (h.set 0 X).set 1 Y
  exact ⟨h2.cell 0, h2.cell 1⟩
set_option maxHeartbeats 1000000 in
theorem fault3_c (g m : Nat) (w : World) (h : CurAt w g m) (hm : m + 30 < 4611686018427387904) :
    Calls Try.prog 78 #[.pointer (some ⟨g, 0, none⟩)] w (DrawF w g (m + 30)) := by
  have hga := h.lt
  have B0 := Lib.hid (Bk.new w 42 #[.int .i64 0, .int .i64 0])
  have B1 := Lib.hid (Bk.new (w.alloc (.cells #[.int .i64 0, .int .i64 0] 42)) 42 #[.int .i64 0, .int .i64 0])
  have HC := Lib.hid ((((CStep.refl h).alloc (.cells #[.int .i64 0, .int .i64 0] 42)).alloc (.cells #[.int .i64 0, .int .i64 0] 42)))
  clear h
  go_enter Try.func78, Try.ntmps78
  go_wp2_with fail
  refine (amongL_c [1, 2, 0, 3, 1, 5] g m _ _ (by simp) HC.out.cur (by omega) (by decide) (by decide)).mono ?_
  rintro e w1 ⟨x, rfl, hx, hs⟩
  have HS := Lib.hid (HC.out.trans hs)
  have b0 : Bk w1 w.heap.size 42 #[.int .i64 0, .int .i64 0] := (B0.out.alloc _).step hs (by omega)
  have b1 := B1.out.step hs (by simp; omega)
  rw [World.size_alloc] at b1
  obtain ⟨x0, x1⟩ : 0 ≤ x ∧ x ≤ 5 := by
    simp only [List.mem_cons, List.not_mem_nil, or_false] at hx; omega
  obtain ⟨k, rfl⟩ := Int.eq_ofNat_of_zero_le x0
  have hk : k ≤ 5 := by omega
  clear hs hx x0 x1 HC B0 B1
  go_wp2
  go_loopw [4] (fun j wr => ∃ (k : Nat) (d l : Int), k ≤ 5 ∧ j = .int .i64 (k : Int) ∧ Bk wr (w.heap.size + 1) 42 #[.int .i64 d, .int .i64 l] ∧ Bk wr w.heap.size 42 #[.int .i64 0, .int .i64 0] ∧ CStep w wr g (m + 2 + 4 * (5 - k))) (fun j _ => (intOf j).toNat)
  case atStart => exact ⟨k, 0, 0, hk, rfl, b1, b0, HS.out.mono (by omega)⟩
  case round =>
    obtain ⟨k, d, l, hk, rfl, b1, b0, hs⟩ := hrel
    have HS := Lib.hid hs
    have B0 := Lib.hid b0
    have B1 := Lib.hid b1
    clear hs b0 b1
    by_cases hk0 : 0 < k
    · have hd : decide (0 < (k : Int)) = true := by simp; omega
      go_wp2_with fail
      refine (pick_c 7 g _ _ HS.out.cur (by omega)).mono ?_
      rintro e w2 ⟨x, rfl, hx, hs⟩
      obtain ⟨b, rfl⟩ := Int.eq_ofNat_of_zero_le hx.1
      have z1 : b < 7 := by have := hx.2 (by omega); omega
      have HS2 := Lib.hid (HS.out.trans hs)
      have B02 := Lib.hid (B0.out.step hs (by omega))
      have B12 := Lib.hid (B1.out.step hs (by omega))
      have r0 : w2.cell? ⟨w.heap.size + 1, 0, none⟩ = some (.int .i64 d) := B12.out.cell 0
      have r1 : w2.cell? ⟨w.heap.size + 1, 1, none⟩ = some (.int .i64 l) := B12.out.cell 1
      clear hs hx B0 B1 HS
      rcases hq : (bits BinOp.and IntKind.i64 (bits BinOp.or IntKind.i64 d l) (wrap64 (2 ^ b)) != 0) with _ | _
      · go_wp2_with fail
        refine (one_c 3 g _ _ HS2.out.cur (by omega)).mono ?_
        rintro e w3 ⟨t, rfl, hs⟩
        have HS3 := Lib.hid (HS2.out.trans hs)
        have B03 := Lib.hid (B02.out.step hs (by omega))
        have B13 := Lib.hid (B12.out.step hs (by omega))
        have r0 : w3.cell? ⟨w.heap.size + 1, 0, none⟩ = some (.int .i64 d) := B13.out.cell 0
        have r1 : w3.cell? ⟨w.heap.size + 1, 1, none⟩ = some (.int .i64 l) := B13.out.cell 1
        have f0 : w3.frozen? ⟨w.heap.size + 1, 0, none⟩ = false := B13.out.frozen 0
        have f1 : w3.frozen? ⟨w.heap.size + 1, 1, none⟩ = false := B13.out.frozen 1
        clear hs B02 B12
        cases t with
        | true =>
          go_wp2
          go_roundw
          case rel => exact ⟨k - 1, _, _, by omega, by go_num, B13.out.set 1 _, B03.out.other (by simp) _, (HS3.out.store hga (by simp) _).mono (by omega)⟩
          case measure => simp [intOf]; omega
        | false =>
          go_wp2
          go_roundw
          case rel => exact ⟨k - 1, _, _, by omega, by go_num, B13.out.set 0 _, B03.out.other (by simp) _, (HS3.out.store hga (by simp) _).mono (by omega)⟩
          case measure => simp [intOf]; omega
      · go_wp2
        go_roundw
        case rel => exact ⟨k - 1, _, _, by omega, by go_num, B12.out, B02.out, HS2.out.mono (by omega)⟩
        case measure => simp [intOf]; omega
    · obtain rfl : k = 0 := by omega
      clear hk0
      go_wp2_with fail
      refine (pick_c 50 g _ _ HS.out.cur (by omega)).mono ?_
      rintro e w2 ⟨x, rfl, hx, hs⟩
      have HS2 := Lib.hid (HS.out.trans hs)
      have B02 := Lib.hid (B0.out.step hs (by omega))
      have B12 := Lib.hid (B1.out.step hs (by omega))
      clear hs hx B0 B1 HS
      by_cases e0 : x = 0
      · subst e0
        go_wp2_with fail
        refine (amongL_c [-1, 128, 127] g _ _ _ (by simp) HS2.out.cur (by omega) (by decide) (by decide)).mono ?_
        rintro e w3 ⟨y, rfl, hy, hs⟩
        have HS3 := Lib.hid (HS2.out.trans hs)
        have B03 := Lib.hid (B02.out.step hs (by omega))
        have B13 := Lib.hid (B12.out.step hs (by omega))
        have q0 : w3.cell? ⟨w.heap.size, 0, none⟩ = some (.int .i64 0) := B03.out.cell 0
        have q1 : w3.cell? ⟨w.heap.size, 1, none⟩ = some (.int .i64 0) := B03.out.cell 1
        have r0 : w3.cell? ⟨w.heap.size + 1, 0, none⟩ = some (.int .i64 d) := B13.out.cell 0
        have r1 : w3.cell? ⟨w.heap.size + 1, 1, none⟩ = some (.int .i64 l) := B13.out.cell 1
        have f0 : w3.frozen? ⟨w.heap.size + 1, 0, none⟩ = false := B13.out.frozen 0
        have g0 : w3.frozen? ⟨w.heap.size, 0, none⟩ = false := B03.out.frozen 0
        have g1 : w3.frozen? ⟨w.heap.size, 1, none⟩ = false := B03.out.frozen 1
        clear hs hy B02 B12
        go_wp2
        have CS : CStep w (w3.setCell ⟨w.heap.size + 1, 0, none⟩ (.int .i64 y)) g (m + 30) := (HS3.out.store hga (by simp) _).mono (by omega)
        obtain ⟨z0, z1⟩ := two_res (B03.out.other (p := ⟨w.heap.size + 1, 0, none⟩) (by simp) (.int .i64 y)) (.int .i64 y) (.int .i64 l)
        exact bodyPost_ret (v := .agg #[(.int .i64 y), (.int .i64 l)]) (by simp [results, Try.results78, go_sem, z0, z1]) rfl ⟨_, _, rfl, (CS.store hga (by simp) _).store hga (by simp) _⟩
      · by_cases e1 : x = 1
        · subst e1
          go_wp2_with fail
          refine (amongL_c [-1, 128, 127] g _ _ _ (by simp) HS2.out.cur (by omega) (by decide) (by decide)).mono ?_
          rintro e w3 ⟨y, rfl, hy, hs⟩
          have HS3 := Lib.hid (HS2.out.trans hs)
          have B03 := Lib.hid (B02.out.step hs (by omega))
          have B13 := Lib.hid (B12.out.step hs (by omega))
          have q0 : w3.cell? ⟨w.heap.size, 0, none⟩ = some (.int .i64 0) := B03.out.cell 0
          have q1 : w3.cell? ⟨w.heap.size, 1, none⟩ = some (.int .i64 0) := B03.out.cell 1
          have r0 : w3.cell? ⟨w.heap.size + 1, 0, none⟩ = some (.int .i64 d) := B13.out.cell 0
          have r1 : w3.cell? ⟨w.heap.size + 1, 1, none⟩ = some (.int .i64 l) := B13.out.cell 1
          have f1 : w3.frozen? ⟨w.heap.size + 1, 1, none⟩ = false := B13.out.frozen 1
          have g0 : w3.frozen? ⟨w.heap.size, 0, none⟩ = false := B03.out.frozen 0
          have g1 : w3.frozen? ⟨w.heap.size, 1, none⟩ = false := B03.out.frozen 1
          clear hs hy B02 B12
          go_wp2
          have CS : CStep w (w3.setCell ⟨w.heap.size + 1, 1, none⟩ (.int .i64 y)) g (m + 30) := (HS3.out.store hga (by simp) _).mono (by omega)
          obtain ⟨z0, z1⟩ := two_res (B03.out.other (p := ⟨w.heap.size + 1, 1, none⟩) (by simp) (.int .i64 y)) (.int .i64 d) (.int .i64 y)
          exact bodyPost_ret (v := .agg #[(.int .i64 d), (.int .i64 y)]) (by simp [results, Try.results78, go_sem, z0, z1]) rfl ⟨_, _, rfl, (CS.store hga (by simp) _).store hga (by simp) _⟩
        · have q0 : w2.cell? ⟨w.heap.size, 0, none⟩ = some (.int .i64 0) := B02.out.cell 0
          have q1 : w2.cell? ⟨w.heap.size, 1, none⟩ = some (.int .i64 0) := B02.out.cell 1
          have r0 : w2.cell? ⟨w.heap.size + 1, 0, none⟩ = some (.int .i64 d) := B12.out.cell 0
          have r1 : w2.cell? ⟨w.heap.size + 1, 1, none⟩ = some (.int .i64 l) := B12.out.cell 1
          have g0 : w2.frozen? ⟨w.heap.size, 0, none⟩ = false := B02.out.frozen 0
          have g1 : w2.frozen? ⟨w.heap.size, 1, none⟩ = false := B02.out.frozen 1
          go_wp2
          have CS : CStep w w2 g (m + 30) := HS2.out.mono (by omega)
          obtain ⟨z0, z1⟩ := two_res (B02.out) (.int .i64 d) (.int .i64 l)
          exact bodyPost_ret (v := .agg #[(.int .i64 d), (.int .i64 l)]) (by simp [results, Try.results78, go_sem, z0, z1]) rfl ⟨_, _, rfl, (CS.store hga (by simp) _).store hga (by simp) _⟩
end Go.Proofs.Ytlipkplomndjcaa
namespace Go.Proofs.Ytlipkplomndjcaa
open Go.RowKit
set_option linter.unusedVariables false
set_option linter.unusedSimpArgs false
set_option maxRecDepth 100000
def lenOf : Value → Nat
  | .slice _ n _ => n
  | _ => 0
set_option maxHeartbeats 2000000 in
theorem test7_c (g m : Nat) (w : World) (h : CurAt w g m) (hm : m + 300 < 4611686018427387904) :
    Calls Try.prog 142 #[.pointer (some ⟨g, 0, none⟩)] w (DrawS w g (m + 300) 11) := by
  have HC := Lib.hid h
  have hga := h.lt
  obtain ⟨i, hi, hz0, hz1, hz2⟩ := info_parts info_int
  have HO := Lib.hid (row_start w w.heap.size (Nat.le_refl _))
  clear h
  go_enter Try.func142, Try.ntmps142
  go_wp2_with fail
  refine (amongL_c [3, 2, 4, 1, 6, 0, 10, 5] g m _ _ (by simp) (HC.out.alloc (.cells #[] 3)) (by omega) (by decide) (by decide)).mono ?_
  rintro e w1 ⟨x, rfl, hx, hs⟩
  have HS := Lib.hid ((((CStep.refl HC.out).alloc (.cells #[] 3)).trans hs))
  have ho := hs.row HO.out hga
  obtain ⟨x0, x1⟩ : 0 ≤ x ∧ x ≤ 10 := by
    simp only [List.mem_cons, List.not_mem_nil, or_false] at hx; omega
  obtain ⟨k, rfl⟩ := Int.eq_ofNat_of_zero_le x0
  have hk : k ≤ 10 := by omega
  clear hs hx x0 x1 HO
  go_wp2
  go_loopw [3, 4] (fun o j wr => ∃ (k : Nat) (xs : List Int), k ≤ 10 ∧ j = .int .i64 (k : Int) ∧ xs.length + k ≤ 10 ∧ wr.ownsRow w.heap.size 3 1 o xs.length (xs.map (Value.int .i64)) ∧ CStep w wr g (m + 2 + 20 * (10 - k))) (fun _ j _ => (intOf j).toNat)
  case atStart => exact ⟨k, [], hk, rfl, by simpa using hk, ho, HS.out.mono (by omega)⟩
  case round =>
    obtain ⟨k, xs, hk, rfl, hl, ho, hs⟩ := hrel
    have HS := Lib.hid hs
    have HO := Lib.hid ho
    clear hs ho
    by_cases hk0 : 0 < k
    · have hd : decide (0 < (k : Int)) = true := by simp; omega
      go_wp2_with fail
      refine (pick_c 10 g _ _ HS.out.cur (by omega)).mono ?_
      rintro e w2 ⟨x1, rfl, _, hs⟩
      have HS2 := Lib.hid (HS.out.trans hs)
      have HO2 := Lib.hid (hs.row HO.out hga)
      clear hs HS HO
      go_wp2_with fail
      refine (pick_c 10 g _ _ HS2.out.cur (by omega)).mono ?_
      rintro e w3 ⟨x2, rfl, _, hs⟩
      have HS3 := Lib.hid (HS2.out.trans hs)
      have HO3 := Lib.hid (hs.row HO2.out hga)
      clear hs HS2 HO2
      go_wp2_with fail
      refine (pick_c 10 g _ _ HS3.out.cur (by omega)).mono ?_
      rintro e w4 ⟨x3, rfl, _, hs⟩
      have HS4 := Lib.hid (HS3.out.trans hs)
      have HO4 := Lib.hid (hs.row HO3.out hga)
      clear hs HS3 HO3
      go_wp2_with fail
      refine (amongL_c [x1, 8, 1, 2, x2, x3] g _ _ _ rfl HS4.out.cur (by omega) (by simp) (by simp)).mono ?_
      rintro e w5 ⟨x, rfl, _, hs⟩
      have HS5 := Lib.hid (HS4.out.trans hs)
      have HO5 := Lib.hid (hs.row HO4.out hga)
      clear hs HS4 HO4
      go_wp2_with (at_builtin; refine wpList_append_own_at _ rfl _ _ 24 rfl w.heap.size 3 i (.int .i64 0) 1 8 Try.underlying24 hi hz0 hz1 hz2 rfl (by decide) _ xs.length (xs.map (Value.int .i64)) rfl (HO5.out.alloc _) ⟨w5.heap.size, 0, none⟩ 1 1 [.int .i64 x] rfl rfl (news_new _ [.int .i64 x] _) (by simp [Value.oneCell']) (by unfold maxLen; omega) (by omega) (by have := HS5.out.gr.size; simp; omega) ?_)
      intro v' w6 ho5 hg5 _ _
      have HS6 := Lib.hid ((HS5.out.alloc _).grown hg5 hga (fun k hk => ((HO5.out.alloc (.cells #[.int .i64 x] 3)).lt k hk).1))
      have HO6 := Lib.hid ho5
      clear ho5 hg5
      go_wp2
      go_roundw
      case rel => exact ⟨k - 1, xs ++ [x], by omega, by go_num, by simp; omega, ownsRow_cast HO6.out (by simp) (ints_snoc _ _).symm, HS6.out.mono (by omega)⟩
      case measure => simp [intOf]; omega
    · obtain rfl : k = 0 := by omega
      clear hk0
      go_wp2_with fail
      refine (pick_c 40 g _ _ HS.out.cur (by omega)).mono ?_
      rintro e w2 ⟨x, rfl, _, hs⟩
      have HS2 := Lib.hid (HS.out.trans hs)
      have HO2 := Lib.hid (hs.row HO.out hga)
      clear hs HS HO
      by_cases e0 : x = 0
      · subst e0
        go_wp2_with fail
        refine (amongL_c [10, -1, 4611686018427387904] g _ _ _ rfl HS2.out.cur (by omega) (by decide) (by decide)).mono ?_
        rintro e w3 ⟨y, rfl, _, hs⟩
        have HS3 := Lib.hid (HS2.out.trans hs)
        have HO3 := Lib.hid (hs.row HO2.out hga)
        clear hs HS2 HO2
        go_wp2_with (at_builtin; refine wpList_append_own_at _ rfl _ _ 24 rfl w.heap.size 3 i (.int .i64 0) 1 8 Try.underlying24 hi hz0 hz1 hz2 rfl (by decide) _ xs.length (xs.map (Value.int .i64)) rfl (HO3.out.alloc _) ⟨w3.heap.size, 0, none⟩ 1 1 [.int .i64 y] rfl rfl (news_new _ [.int .i64 y] _) (by simp [Value.oneCell']) (by unfold maxLen; omega) (by omega) (by have := HS3.out.gr.size; simp; omega) ?_)
        intro v' w6 ho5 hg5 _ _
        have HS6 := Lib.hid ((HS3.out.alloc _).grown hg5 hga (fun k hk => ((HO3.out.alloc (.cells #[.int .i64 y] 3)).lt k hk).1))
        have HO6 := Lib.hid ho5
        clear ho5 hg5
        go_wp2
        go_ret
        exact ⟨_, xs ++ [y], rfl, by simp; omega, ownsRow_cast HO6.out (by simp) (ints_snoc _ _).symm, HS6.out.mono (by omega)⟩
      · by_cases e1 : x = 1
        · subst e1
          go_wp2
          go_loopw [3] (fun o wr => ∃ (xs : List Int), xs.length ≤ 11 ∧ wr.ownsRow w.heap.size 3 1 o xs.length (xs.map (Value.int .i64)) ∧ CStep w wr g (m + 2 + 20 * (10 - 0) + 2)) (fun o _ => 11 - lenOf o)
          case atStart => exact ⟨xs, by omega, HO2.out, HS2.out⟩
          case round =>
            obtain ⟨xs, hl, ho, hs⟩ := hrel
            obtain ⟨aa, cc, hvv, _, _, _⟩ := (Ints.of_own ho).parts
            subst hvv
            have HS3 := Lib.hid hs
            have HO3 := Lib.hid ho
            clear hs ho HS2 HO2
            by_cases hlt : xs.length < 11
            · have hd : decide ((xs.length : Int) < 11) = true := by simp; omega
              go_wp2_with (at_builtin; refine wpList_append_own_at _ rfl _ _ 24 rfl w.heap.size 3 i (.int .i64 0) 1 8 Try.underlying24 hi hz0 hz1 hz2 rfl (by decide) _ xs.length (xs.map (Value.int .i64)) rfl (HO3.out.alloc _) ⟨wr.heap.size, 0, none⟩ 1 1 [.int .i64 8] rfl rfl (news_new _ [.int .i64 8] _) (by simp [Value.oneCell']) (by unfold maxLen; omega) (by omega) (by have := HS3.out.gr.size; simp; omega) ?_)
              intro v' w6 ho5 hg5 _ _
              have HS6 := Lib.hid ((HS3.out.alloc _).grown hg5 hga (fun k hk => ((HO3.out.alloc (.cells #[.int .i64 8] 3)).lt k hk).1))
              obtain ⟨b, cap, rfl, _⟩ := own_form ho5 (by omega)
              have HO6 := Lib.hid ho5
              clear ho5 hg5
              go_wp2
              go_roundw
              case rel => exact ⟨xs ++ [8], by simp; omega, ownsRow_cast HO6.out (by simp) (ints_snoc _ _).symm, HS6.out⟩
              case measure => simp [lenOf]; omega
            · have hd : decide ((xs.length : Int) < 11) = false := by simp; omega
              go_wp2
              go_ret
              exact ⟨_, xs, rfl, hl, HO3.out, HS3.out.mono (by omega)⟩
        · go_wp2
          go_ret
          exact ⟨_, xs, rfl, by omega, HO2.out, HS2.out.mono (by omega)⟩
theorem DrawFoundStates_c (v : Value) (xs : List Nat) (w : World) (h : Code w v xs) :
    Calls Try.prog 76 #[v] w fun e w' => ∃ (u : Value) (ys : List Int), e = .returned u ∧ ys.length ≤ 11 ∧ w'.ownsRow w.heap.size 3 1 u ys.length (ys.map (Value.int .i64)) ∧ Below w.heap.size w w' := by
  have HK := Lib.hid (cur_new h)
  obtain ⟨a, c, rfl, _⟩ := h
  go_enter Try.func76, Try.ntmps76
  go_wp2_with fail
  refine (test7_c w.heap.size 0 _ HK.out (by omega)).mono ?_
  rintro e w1 ⟨u, ys, rfl, hl, ho, hs⟩
  have HS := Lib.hid hs
  have HO := Lib.hid (own_lo ho (lo' := w.heap.size) (by simp))
  clear hs ho
  go_wp2
  go_ret
  exact ⟨_, ys, rfl, hl, HO.out, draw_below HS.out⟩
theorem ints_take {w : World} {a : Option Addr} {c : Nat} {xs : List Int} (h : Ints w (.slice a xs.length c) xs) (n : Nat) (hn : n ≤ xs.length) : Ints w (.slice a n c) (xs.take n) := by
  obtain ⟨a', c', e, h1, h2, h3, h4⟩ := h
  cases e
  have hl : (xs.take n).length = n := by rw [List.length_take]; omega
  refine ⟨a, c, by rw [hl], by rw [hl]; omega, h2, by rw [List.length_map, Nat.mul_one], fun hn0 => ?_⟩
  rw [hl] at hn0 ⊢
  obtain ⟨b, off, e, hc⟩ := h4 (by omega)
  refine ⟨b, off, e, fun j hj => ?_⟩
  rw [hc j (by omega), List.map_take, List.getElem?_take, if_pos (by omega)]
/-- one of the first numbers of those that are written where they are asked for, a few more now and then -/
theorem amongT_c (xs : List Int) (n : Nat) (b g m : Nat) (w : World) (h : CurAt w g m) (hm : m + 2 < 4611686018427387904) (hv : Ints w (.slice (some ⟨b, 0, none⟩) xs.length xs.length) xs) (hne : b ≠ g) (hn0 : 0 < n) (hn : n ≤ xs.length) :
    Calls Try.prog 79 #[.pointer (some ⟨g, 0, none⟩), .slice (some ⟨b, 0, none⟩) n xs.length] w (DrawI w g (m + 2) fun x => x ∈ xs) :=
  (among_c _ (xs.take n) g m _ h hm (ints_take hv n hn) (by simpa [Value.ownBlock] using hne) (by rw [List.length_take]; omega)).mono fun e w' ⟨x, he, hx, hs⟩ => ⟨x, he, List.mem_of_mem_take hx, hs⟩
theorem div11 {x : Int} (h0 : 0 ≤ x) (h1 : x < 24) : Int.tdiv x 11 = 0 ∨ Int.tdiv x 11 = 1 ∨ Int.tdiv x 11 = 2 := by
  rw [Int.tdiv_eq_ediv_of_nonneg h0]; omega
theorem DrawCountFullTests_c (v : Value) (xs : List Nat) (w : World) (h : Code w v xs) :
    Calls Try.prog 72 #[v] w fun e w' => ∃ x : Int, e = .returned (.int .i64 x) ∧ Below w.heap.size w w' := by
  have HK := Lib.hid (cur_new h)
  obtain ⟨a, c, rfl, _⟩ := h
  have HI := Lib.hid (ints_lit (w.alloc (.cells #[.slice a xs.length c, .int .i64 0, .int .u64 0] 88)) [3, 2, 4, 10, 5, 0, 11, -1] (by decide))
  rw [World.size_alloc] at HI
  go_enter Try.func72, Try.ntmps72
  go_wp2_with fail
  refine (pick_c 24 w.heap.size 0 _ (HK.out.alloc _) (by omega)).mono ?_
  rintro e w1 ⟨x, rfl, hx, hs⟩
  have HS : Hid (CStep (w.alloc (.cells #[.slice a xs.length c, .int .i64 0, .int .u64 0] 88)) w1 w.heap.size 2) := ((CStep.refl HK.out).alloc _).trans hs
  have HI2 : Hid (Ints w1 (.slice (some ⟨w.heap.size + 1, 0, none⟩) 8 8) [3, 2, 4, 10, 5, 0, 11, -1]) := HI.out.grown hs.gr (.inr (by simp [Value.ownBlock]))
  have hx0 := hx.1
  have hx1 := hx.2 (by omega)
  clear hs hx
  rcases div11 hx0 hx1 with hq | hq | hq
  · go_wp2_with fail
    refine (amongT_c [3, 2, 4, 10, 5, 0, 11, -1] 6 (w.heap.size + 1) w.heap.size 2 _ HS.out.cur (by omega) HI2.out (by omega) (by decide) (by decide)).mono ?_
    rintro e w2 ⟨y, rfl, _, hs⟩
    have HS2 := Lib.hid (HS.out.trans hs)
    clear hs
    go_wp2
    go_ret
    exact ⟨_, rfl, draw_below HS2.out⟩
  · go_wp2_with fail
    refine (amongT_c [3, 2, 4, 10, 5, 0, 11, -1] 7 (w.heap.size + 1) w.heap.size 2 _ HS.out.cur (by omega) HI2.out (by omega) (by decide) (by decide)).mono ?_
    rintro e w2 ⟨y, rfl, _, hs⟩
    have HS2 := Lib.hid (HS.out.trans hs)
    clear hs
    go_wp2
    go_ret
    exact ⟨_, rfl, draw_below HS2.out⟩
  · go_wp2_with fail
    refine (amongT_c [3, 2, 4, 10, 5, 0, 11, -1] 8 (w.heap.size + 1) w.heap.size 2 _ HS.out.cur (by omega) HI2.out (by omega) (by decide) (by decide)).mono ?_
    rintro e w2 ⟨y, rfl, _, hs⟩
    have HS2 := Lib.hid (HS.out.trans hs)
    clear hs
    go_wp2
    go_ret
    exact ⟨_, rfl, draw_below HS2.out⟩
end Go.Proofs.Ytlipkplomndjcaa
namespace Go.Proofs.Ytlipkplomndjcaa
open Go.RowKit
set_option linter.unusedVariables false
set_option maxRecDepth 100000
def cfB (k : Int) (n : Nat) : Nat := ((List.range n).filter fun s => cfP k (digsL tenI s)).length
theorem cfB_succ (k : Int) (n : Nat) : cfB k (n + 1) = cfB k n + if cfP k (digsL tenI n) then 1 else 0 := by
  unfold cfB
  rw [List.range_succ, List.filter_append, List.length_append]
  cases h : cfP k (digsL tenI n) <;> simp [h]
theorem cfB_le (k : Int) (n : Nat) : cfB k n ≤ n := by unfold cfB; exact Nat.le_trans (List.length_filter_le _ _) (by simp)
theorem digs_testT (s : Nat) : testB (digsL tenI s) = true := by
  unfold testB digsL pick
  rw [List.length_map, decide_eq_true (show (prtL tenI.length s tenI.length).length ≤ 10 from prtL_le 10 s 10), Bool.true_and, List.all_eq_true]
  intro y hy
  rw [List.mem_map] at hy
  obtain ⟨x, hx, rfl⟩ := hy
  obtain ⟨p, rfl, hp⟩ := prtL_mem hx
  have h : ∀ q : Fin 10, digitB (tenI.getD ((q.1 : Int)).toNat 0) = true := by decide
  exact h ⟨p, hp⟩
theorem sCountFullTests_c (k : Int) (w : World) : Calls Try.prog 74 #[.int .i64 k] w fun e w' => e = .returned (cfV k) ∧ Below w.heap.size w w' := by
  rcases hq : inB k 0 10 with _ | _
  · have HF := Lib.hid (show cfV k = .tuple #[.int .i64 0, .bool false] by simp [cfV, hq])
    have HQ := Lib.hid hq; clear hq
    go_enter Try.func74, Try.ntmps74
    go_wp2_with fail
    refine (l1In_c k 0 10 _).mono ?_
    rintro e w1 ⟨rfl, rfl⟩
    rw [HQ.out]
    go_wp2
    go_ret2
    exact ⟨by rw [HF.out]; rfl, by (repeat (first | exact Below.refl _ _ | exact (Below.refl _ _).drew | assumption | exact below_one _ | refine Below.chain ?_ (by assumption) | refine Below.drew ?_ | refine Below.alc ?_ _ | refine below_drewN ?_ | (refine Below.setCell ?_ ?_ _) | exact Nat.le_refl _ | (simp; done) | (simp; omega)))⟩
  · have HF := Lib.hid (show cfV k = .tuple #[.int .i64 (cfB k 1024 : Nat), .bool true] by simp [cfV, hq, cfA_bits, cfB])
    have HQ := Lib.hid hq; clear hq
    go_enter Try.func74, Try.ntmps74
    go_wp2_with fail
    refine (l1In_c k 0 10 _).mono ?_
    rintro e w1 ⟨rfl, rfl⟩
    rw [HQ.out]
    go_wp2
    go_loopw [4, 5] (fun m j wr => ∃ s : Nat, s ≤ 1024 ∧ j = .int .i64 (s : Int) ∧ m = .int .i64 (cfB k s : Nat) ∧ Below w.heap.size w wr) (fun _ j _ => 1025 - (intOf j).toNat)
    case atStart => exact ⟨0, by omega, rfl, rfl, by (repeat (first | exact Below.refl _ _ | exact (Below.refl _ _).drew | assumption | exact below_one _ | refine Below.chain ?_ (by assumption) | refine Below.drew ?_ | refine Below.alc ?_ _ | refine below_drewN ?_ | (refine Below.setCell ?_ ?_ _) | exact Nat.le_refl _ | (simp; done) | (simp; omega)))⟩
    case round =>
      obtain ⟨s, hs, rfl, rfl, hb⟩ := hrel
      by_cases hlt : s < 1024
      · have hd : decide ((s : Int) < 1024) = true := by simp; omega
        have hS := cfB_succ k s
        have hle := cfB_le k s
        have ht := digs_testT s
        generalize cfB k s = c at *
        have HS := Lib.hid hS; clear hS
        go_wp2_with fail
        refine (l7Ten_c _).mono ?_
        rintro e w2 ⟨u, rfl, ho, hb2⟩
        go_wp2_with fail
        refine (l7Digits_c u tenI s _ (Ints.of_own ho) (by decide) hlt).mono ?_
        rintro e w3 ⟨u2, rfl, ho3, hb3⟩
        have hb4 := Below.chain hb (Below.chain hb2 hb3)
        have hI := Ints.of_own ho3
        generalize digsL tenI s = xs at *
        obtain ⟨a, c2, rfl, _, _, _⟩ := hI.parts
        clear ho ho3 hb hb2 hb3
        rcases h1 : ((xs.length : Int) == k) with _ | _
        · have h1d : decide ((xs.length : Int) = k) = false := by simpa using h1
          have HS2 := Lib.hid (show cfB k (s + 1) = c by rw [HS.out]; unfold cfP; rw [h1]; rfl)
          clear HS
          go_wp2
          go_roundw
          case rel => exact ⟨s + 1, by omega, by go_num, by rw [HS2.out], hb4⟩
          case measure => simp [intOf]; omega
        · have h1d : decide ((xs.length : Int) = k) = true := by simpa using h1
          go_wp2_with fail
          refine (l7Full_c _ xs _ hI ht).mono ?_
          rintro e w4 ⟨rfl, hb5⟩
          have hb6 := Below.chain hb4 hb5
          clear hb4 hb5 hI
          rcases h2 : fullB xs with _ | _
          · have HS2 := Lib.hid (show cfB k (s + 1) = c by rw [HS.out]; unfold cfP; rw [h1, h2]; rfl)
            clear HS
            go_wp2
            go_roundw
            case rel => exact ⟨s + 1, by omega, by go_num, by rw [HS2.out], hb6⟩
            case measure => simp [intOf]; omega
          · have HS2 := Lib.hid (show cfB k (s + 1) = c + 1 by rw [HS.out]; unfold cfP; rw [h1, h2]; rfl)
            clear HS
            go_wp2
            go_roundw
            case rel => exact ⟨s + 1, by omega, by go_num, by rw [HS2.out]; exact int_val (by omega), hb6⟩
            case measure => simp [intOf]; omega
      · obtain rfl : s = 1024 := by omega
        go_wp2
        go_ret2
        exact ⟨by rw [HF.out]; rfl, hb⟩
end Go.Proofs.Ytlipkplomndjcaa
