/- Texts of this claim, gathered: State, States, States2, Frac, Cft, Cft2. -/
import Derived.Test.YtlipkplomndjcaaK4
import Derived.Deep.RegionHeld3
namespace Go.Proofs.Ytlipkplomndjcaa
open Go.RowKit
set_option linter.unusedVariables false

theorem IsState_c (bar kind : Int) (w : World) : Calls Try.prog 184 #[.agg #[.int .i64 bar, .int .i64 kind]] w fun e w' => e = .returned (.bool (stateB bar kind)) ∧ Below w.heap.size w w' := by
  by_cases h0 : kind = 0
  · subst h0
    go_enter Try.func184, Try.ntmps184
    go_wp2_with (go_at_call 84; refine (within_c _ _ _ _).mono ?_; rintro e w' ⟨rfl, rfl⟩)
    all_goals (go_ret; exact ⟨bool_ret (by simp_all [stateB, inB]; try omega), below_one _⟩)
  · have h1 : (kind != 0) = true := by simpa using h0
    go_enter Try.func184, Try.ntmps184
    go_wp2_with (go_at_call 84; refine (within_c _ _ _ _).mono ?_; rintro e w' ⟨rfl, rfl⟩)
    all_goals (go_ret; exact ⟨bool_ret (by simp_all [stateB, inB]; try omega), below_one _⟩)
def faultV (bar kind : Int) : Value := .agg #[.int .i64 (stD bar kind), .int .i64 (stL bar kind)]
theorem Sfault_c (bar kind : Int) (h : stateB bar kind = true) (w : World) : Calls Try.prog 185 #[.agg #[.int .i64 bar, .int .i64 kind]] w fun e w' => e = .returned (faultV bar kind) ∧ Below w.heap.size w w' := by
  rcases stateB_cases h with ⟨rfl, rfl⟩ | ⟨rfl, h0, h1⟩ | ⟨rfl, h0, h1⟩
  · go_enter Try.func185, Try.ntmps185
    go_wp2
    exact bodyPost_ret (v := faultV 0 0) (by simp [results, Try.results185, go_sem, faultV, stD, stL]) rfl ⟨rfl, (below_one _).alloc (by simp) _⟩
  · rcases bar_cases h0 h1 with rfl | rfl | rfl | rfl | rfl | rfl | rfl
    all_goals
      clear h0 h1 h
      go_enter Try.func185, Try.ntmps185
      go_wp2
      refine bodyPost_ret (v := faultV _ 1) (by simp [results, Try.results185, go_sem, faultV, stD, stL]) rfl ⟨rfl, ?_⟩
      repeat (first | exact below_one _ | apply Below.setCell | apply Below.alloc | simp)
  · rcases bar_cases h0 h1 with rfl | rfl | rfl | rfl | rfl | rfl | rfl
    all_goals
      clear h0 h1 h
      go_enter Try.func185, Try.ntmps185
      go_wp2
      refine bodyPost_ret (v := faultV _ 2) (by simp [results, Try.results185, go_sem, faultV, stD, stL]) rfl ⟨rfl, ?_⟩
      repeat (first | exact below_one _ | apply Below.setCell | apply Below.alloc | simp)
theorem isTest_c (v : Value) (xs : List Int) (w : World) (hv : Ints w v xs) : Calls Try.prog 141 #[v] w fun e w' => e = .returned (.bool (testB xs)) ∧ Below w.heap.size w w' := by
  obtain ⟨a, c, hvv, hc1, hc2, HC⟩ := hv.parts
  by_cases h : xs.length ≤ 10
  · subst hvv
    go_enter Try.func141, Try.ntmps141
    go_wp2_with (go_at_call 85; refine (areAllInt_c _ xs 86 digitB _ hv (fun _ _ => by kernel_rfl) (fun x w' => isDigit_c x w')).mono ?_; rintro e w' ⟨rfl, hb⟩)
    go_ret
    exact ⟨bool_ret (by simp [testB, h]), by assumption⟩
  · subst hvv
    go_enter Try.func141, Try.ntmps141
    go_wp2_with fail
    go_ret
    exact ⟨bool_ret (by simp [testB]; omega), Below.refl _ _⟩
/-- the place of the first digit of a test that finds a state, or -1 -/
def placeOf (bar kind : Int) (xs : List Int) : Int := firstAt (finds bar kind) xs
theorem finding_c (v : Value) (xs : List Int) (bar kind : Int) (w : World) (hv : Ints w v xs) (hs : stateB bar kind = true) (ht : testB xs = true) :
    Calls Try.prog 178 #[.agg #[.int .i64 bar, .int .i64 kind], v] w fun e w' => e = .returned (.int .i64 (placeOf bar kind xs)) ∧ Below w.heap.size w w' := by
  have bd := stDL_bd hs
  go_enter Try.func178, Try.ntmps178
  go_wp2_with fail
  refine (Sfault_c bar kind hs _).mono ?_
  rintro e w1 ⟨rfl, hb1⟩
  unfold faultV
  go_wp2_with fail
  refine (IndexFuncInt_c v xs 186 #[.pointer (some ⟨w1.heap.size, 0, none⟩)] (finds bar kind) _ ?_ (fun _ _ => by kernel_rfl) ?_).mono ?_
  · exact Ints.below (Ints.below (Ints.below hv (below_one _)) hb1) (below_one _)
  · intro x w2 hx hb2
    have hd : 0 ≤ x ∧ x ≤ 9 := by
      simp only [testB, Bool.and_eq_true, List.all_eq_true] at ht
      exact digitB_true (ht.2 x hx)
    have hx0 := hd.1; have hx1 := hd.2
    have bdx := dg_bd x
    have c0 : w2.cell? ⟨w1.heap.size, 0, none⟩ = some (.int .i64 (stD bar kind)) := by
      rw [(bcell hb2).1 _ _ (by simp), World.cell?_alloc_at _ _ _ _ rfl]; rfl
    have c1 : w2.cell? ⟨w1.heap.size, 1, none⟩ = some (.int .i64 (stL bar kind)) := by
      rw [(bcell hb2).1 _ _ (by simp), World.cell?_alloc_at _ _ _ _ rfl]; rfl
    have hix := fun w => index_dig x hx0 hx1 w
    clear hv hb1 hb2 hs ht hx hd
    go_enter Try.func186, Try.ntmps186
    go_wp2_with fail
    go_region_held3 (fun w' => w'.cell? ⟨w1.heap.size, 0, none⟩ = some (.int .i64 (stD bar kind)) ∧ w'.cell? ⟨w1.heap.size, 1, none⟩ = some (.int .i64 (stL bar kind)))
      (first | go_keep | (go_split_ands; exact ⟨cell_later (by assumption) (by assumption), cell_later (by assumption) (by assumption)⟩))
      (first | (go_at_call 87; refine (digitCells_c _).mono ?_; rintro e w' ⟨rfl, hb⟩) | (go_at_call 91; refine (shown_c _ _ _ (by omega) (by omega) (by omega) (by omega) (by omega) (by omega) _).mono ?_; rintro e w' ⟨rfl, hb⟩))
    go_wp2
    go_ret
    exact ⟨rfl, by (repeat (first | exact Below.refl _ _ | exact (Below.refl _ _).drew | assumption | exact below_one _ | refine Below.chain ?_ (by assumption) | refine Below.drew ?_ | refine Below.alc ?_ _ | refine below_drewN ?_ | (refine Below.setCell ?_ ?_ _) | exact Nat.le_refl _ | (simp; done) | (simp; omega)))⟩
  · rintro e w3 ⟨rfl, hb3⟩
    go_wp2
    go_ret
    exact ⟨rfl, ((((below_one _).trans (hb1.mono (by simp))).alloc (by have := hb1.size; simp at this; omega) _).trans (hb3.mono (by have := hb1.size; simp at this ⊢; omega)))⟩
/-- what both texts of FirstFinding return -/
def ffOk (xs : List Int) (bar kind : Int) : Bool := testB xs && (stateB bar kind && decide (0 ≤ placeOf bar kind xs))
def ffN (xs : List Int) (bar kind : Int) : Int := if ffOk xs bar kind then placeOf bar kind xs else 0
def firstFindingV (xs : List Int) (bar kind : Int) : Value := .tuple #[.int .i64 (ffN xs bar kind), .bool (ffOk xs bar kind)]

theorem l7Fault_c (bar kind : Int) (h : stateB bar kind = true) (w : World) : Calls Try.prog 183 #[.agg #[.int .i64 bar, .int .i64 kind]] w fun e w' => e = .returned (faultV bar kind) ∧ Below w.heap.size w w' := by
  rcases stateB_cases h with ⟨rfl, rfl⟩ | ⟨rfl, h0, h1⟩ | ⟨rfl, h0, h1⟩
  · go_enter Try.func183, Try.ntmps183
    go_wp2
    exact bodyPost_ret (v := faultV 0 0) (by simp [results, Try.results183, go_sem, faultV, stD, stL]) rfl ⟨rfl, (below_one _).alloc (by simp) _⟩
  · rcases bar_cases h0 h1 with rfl | rfl | rfl | rfl | rfl | rfl | rfl
    all_goals
      clear h0 h1 h
      go_enter Try.func183, Try.ntmps183
      go_wp2
      refine bodyPost_ret (v := faultV _ 1) (by simp [results, Try.results183, go_sem, faultV, stD, stL]) rfl ⟨rfl, ?_⟩
      repeat (first | exact below_one _ | apply Below.setCell | apply Below.alloc | simp)
  · rcases bar_cases h0 h1 with rfl | rfl | rfl | rfl | rfl | rfl | rfl
    all_goals
      clear h0 h1 h
      go_enter Try.func183, Try.ntmps183
      go_wp2
      refine bodyPost_ret (v := faultV _ 2) (by simp [results, Try.results183, go_sem, faultV, stD, stL]) rfl ⟨rfl, ?_⟩
      repeat (first | exact below_one _ | apply Below.setCell | apply Below.alloc | simp)
theorem testB_digit {xs : List Int} (ht : testB xs = true) {k : Nat} {x : Int} (hx : xs[k]? = some x) : 0 ≤ x ∧ x ≤ 9 := by
  simp only [testB, Bool.and_eq_true, List.all_eq_true] at ht
  exact digitB_true (ht.2 x (List.mem_of_getElem? hx))
theorem l7Place_c (v : Value) (xs : List Int) (bar kind : Int) (w : World) (hv : Ints w v xs) (hs : stateB bar kind = true) (ht : testB xs = true) :
    Calls Try.prog 175 #[v, .agg #[.int .i64 bar, .int .i64 kind]] w fun e w' => e = .returned (.int .i64 (placeOf bar kind xs)) ∧ Below w.heap.size w w' := by
  have bd := stDL_bd hs
  have hm := hv.le
  obtain ⟨a, c, rfl, hc1, hc2, HC⟩ := hv.parts
  clear hv
  go_enter Try.func175, Try.ntmps175
  go_wp2_with fail
  refine (l7Fault_c bar kind hs _).mono ?_
  rintro e w1 ⟨rfl, hb1⟩
  unfold faultV
  have hz1 : w.heap.size < w1.heap.size := by have := hb1.size; simp at this; omega
  go_wp2_with fail
  go_loopw [6, 7] (fun i q wr => ∃ k : Nat, k ≤ xs.length ∧ i = .int .i64 k ∧ Hid (∀ j x, j < k → xs[j]? = some x → finds bar kind x = false) ∧ Below w.heap.size w wr ∧
      wr.cell? ⟨w1.heap.size, 0, none⟩ = some (.int .i64 (stD bar kind)) ∧ wr.cell? ⟨w1.heap.size, 1, none⟩ = some (.int .i64 (stL bar kind))) (fun i _ _ => xs.length - (intOf i).toNat)
  case atStart => exact ⟨0, by omega, rfl, fun j x hj => by omega, by (repeat (first | exact Below.refl _ _ | exact (Below.refl _ _).drew | assumption | exact below_one _ | refine Below.chain ?_ (by assumption) | refine Below.drew ?_ | refine Below.alc ?_ _ | refine below_drewN ?_ | (refine Below.setCell ?_ ?_ _) | exact Nat.le_refl _ | (simp; done) | (simp; omega))), by rw [World.cell?_alloc_at _ _ _ _ rfl]; rfl, by rw [World.cell?_alloc_at _ _ _ _ rfl]; rfl⟩
  case round =>
    obtain ⟨k, hk, rfl, hbef, hb, g0, g1⟩ := hrel
    by_cases hlt : k < xs.length
    · obtain ⟨x, hx⟩ := elem_at hlt
      obtain ⟨b, off, rfl, h0⟩ := HC.out k x hx.out
      have hblt : b < w.heap.size := World.block_lt_of_cell? w _ h0
      have h1 : wr.cell? ⟨b, off + k, none⟩ = some (.int .i64 x) := ((bcell hb).1 _ _ hblt).trans h0
      have hxd := testB_digit ht hx.out
      have bdx := dg_bd x
      clear h0 hb1
      go_wp2_with fail
      refine (l2Digit_c x hxd.1 hxd.2 _).mono ?_
      rintro e w2 ⟨rfl, hb2⟩
      have g02 := cell_later hb2 g0
      have g12 := cell_later hb2 g1
      go_wp2_with fail
      refine (l3Shown_c _ _ _ bd.1 bd.2.1 bd.2.2.1 bd.2.2.2 bdx.1 bdx.2 _).mono ?_
      rintro e w3 ⟨rfl, hb3⟩
      have g03 := cell_later hb3 g02
      have g13 := cell_later hb3 g12
      clear g0 g1 g02 g12
      have hb4 : Below w.heap.size w w3 := by (repeat (first | exact Below.refl _ _ | exact (Below.refl _ _).drew | assumption | exact below_one _ | refine Below.chain ?_ (by assumption) | refine Below.drew ?_ | refine Below.alc ?_ _ | refine below_drewN ?_ | (refine Below.setCell ?_ ?_ _) | exact Nat.le_refl _ | (simp; done) | (simp; omega)))
      rcases hf : finds bar kind x with _ | _
      · have ht2 : (shC (stD bar kind) (stL bar kind) (dg x) != dg x) = false := hf
        have HP := Lib.hid hf; clear hf
        go_wp2
        go_roundw
        case rel => exact ⟨k + 1, by omega, by go_num, fun j y hj hy => by
          by_cases hj2 : j < k
          · exact hbef.out j y hj2 hy
          · obtain rfl : j = k := by omega
            rw [hx.out] at hy; obtain rfl := Option.some.inj hy; exact HP.out, hb4, g03, g13⟩
        case measure => simp [intOf]; omega
      · have ht2 : (shC (stD bar kind) (stL bar kind) (dg x) != dg x) = true := hf
        have HP := Lib.hid hf; clear hf
        go_wp2
        go_ret
        exact ⟨int_ret (firstAt_some hx.out HP.out hbef.out).symm, hb4⟩
    · go_wp2
      go_ret
      exact ⟨int_ret (firstAt_none (by omega) hbef.out).symm, hb⟩
end Go.Proofs.Ytlipkplomndjcaa
namespace Go.Proofs.Ytlipkplomndjcaa
open Go.RowKit
set_option linter.unusedVariables false
set_option maxRecDepth 100000

theorem info_State : (Try.prog.info? 150).map (fun i => (i.zero, i.size, i.bytes)) = some (some (.agg #[.int .i64 0, .int .i64 0]), 2, 16) := by kernel_rfl

theorem states_c (fn : Nat) (cap : Array Value) (q : Int × Int → Bool) (w : World) (hf : CallsIt fn)
    (hp : ∀ (bar kind : Int) (w' : World), stateB bar kind = true → Below w.heap.size w w' → Calls Try.prog fn (#[.agg #[.int .i64 bar, .int .i64 kind]] ++ cap) w' fun e w'' => e = .returned (.bool (q (bar, kind))) ∧ Below w'.heap.size w' w'') :
    Calls Try.prog 176 #[.func (.func fn) #[] cap] w fun e w' => ∃ v, e = .returned v ∧ w'.ownsRow w.heap.size 150 2 v (allSt.filter q).length (flat2 (allSt.filter q)) ∧ Below w.heap.size w w' := by
  obtain ⟨i, hi, hz0, hz1, hz2⟩ := info_parts info_State
  have hf' : ∀ (bs : Array Value) (w : World), (callFunc fn bs).run Try.prog w = .ok (.enter fn bs) w := hf
  go_enter Try.func176, Try.ntmps176
  go_wp2
  go_loopw [3, 4, 5, 6] (fun v i _ _ wr => ∃ k : Nat, k ≤ 3 ∧ i = .int .i64 k ∧ wr.ownsRow w.heap.size 150 2 v (gridTo q (7 * k)).length (flat2 (gridTo q (7 * k))) ∧ Below w.heap.size w wr) (fun _ i _ _ _ => 3 - (intOf i).toNat)
  case atStart => exact ⟨0, by omega, rfl, World.ownsRow_nil _ _ _ _, Below.refl _ _⟩
  case round =>
    obtain ⟨k, hk, rfl, ho, hb⟩ := hrel
    by_cases hlt : k ≤ 2
    · have hd : decide ((k : Int) ≤ 2) = true := by simp; omega
      go_wp2
      go_loopw [3, 11, 5, 6] (fun v i _ _ wr => ∃ b : Nat, b ≤ 7 ∧ i = .int .i64 b ∧ wr.ownsRow w.heap.size 150 2 v (gridTo q (7 * k + b)).length (flat2 (gridTo q (7 * k + b))) ∧ Below w.heap.size w wr) (fun _ i _ _ _ => 7 - (intOf i).toNat)
      case atStart => exact ⟨0, by omega, rfl, ho, hb⟩
      case round =>
        obtain ⟨b, hbl, rfl, ho2, hb2⟩ := hrel
        clear ho hb
        by_cases hlt2 : b < 7
        · have hd2 : decide ((b : Int) < 7) = true := by simp; omega
          have hg := grid_at (show k < 3 by omega) hlt2
          have hs := gridTo_succ q hg
          have hle := gridTo_le q (7 * k + b)
          generalize gridTo q (7 * k + b) = cur at *
          have HS := Lib.hid hs; clear hs hg
          go_wp2_with fail
          refine (IsState_c (b : Int) (k : Int) _).mono ?_
          rintro e w1 ⟨rfl, hb3⟩
          rcases hst : stateB (b : Int) (k : Int) with _ | _
          · have HT := Lib.hid hst; clear hst
            go_wp2
            go_roundw
            case rel => exact ⟨b + 1, by omega, by go_num, by
              have e1 : gridTo q (7 * k + (b + 1)) = cur := by rw [← Nat.add_assoc, HS.out]; simp [stB, HT.out]
              rw [e1]
              exact (ho2.alloc _).kept (Below.gr hb3) (by cases Value.ownBlock _ <;> simp), by (repeat (first | exact Below.refl _ _ | exact (Below.refl _ _).drew | assumption | exact below_one _ | refine Below.chain ?_ (by assumption) | refine Below.drew ?_ | refine Below.alc ?_ _ | refine below_drewN ?_ | (refine Below.setCell ?_ ?_ _) | exact Nat.le_refl _ | (simp; done) | (simp; omega)))⟩
            case measure => simp [intOf]; omega
          · have HT := Lib.hid hst; clear hst
            have c0 : w1.cell? ⟨wr.heap.size, 0, none⟩ = some (.int .i64 b) := by
              rw [(bcell hb3).1 _ _ (by simp), World.cell?_alloc_at _ _ _ _ rfl]; rfl
            have c1 : w1.cell? ⟨wr.heap.size, 1, none⟩ = some (.int .i64 k) := by
              rw [(bcell hb3).1 _ _ (by simp), World.cell?_alloc_at _ _ _ _ rfl]; rfl
            have hb4 : Below w.heap.size w w1 := by (repeat (first | exact Below.refl _ _ | exact (Below.refl _ _).drew | assumption | exact below_one _ | refine Below.chain ?_ (by assumption) | refine Below.drew ?_ | refine Below.alc ?_ _ | refine below_drewN ?_ | (refine Below.setCell ?_ ?_ _) | exact Nat.le_refl _ | (simp; done) | (simp; omega)))
            have ho3 : w1.ownsRow w.heap.size 150 2 _ cur.length (flat2 cur) := (ho2.alloc _).kept (Below.gr hb3) (by cases Value.ownBlock _ <;> simp)
            clear ho2 hb3 hb2
            go_wp2_with fail
            refine (hp (b : Int) (k : Int) _ HT.out hb4).mono ?_
            rintro e w2 ⟨rfl, hb5⟩
            have d0 : w2.cell? ⟨wr.heap.size, 0, none⟩ = some (.int .i64 b) := cell_later hb5 c0
            have d1 : w2.cell? ⟨wr.heap.size, 1, none⟩ = some (.int .i64 k) := cell_later hb5 c1
            have hb6 : Below w.heap.size w w2 := by (repeat (first | exact Below.refl _ _ | exact (Below.refl _ _).drew | assumption | exact below_one _ | refine Below.chain ?_ (by assumption) | refine Below.drew ?_ | refine Below.alc ?_ _ | refine below_drewN ?_ | (refine Below.setCell ?_ ?_ _) | exact Nat.le_refl _ | (simp; done) | (simp; omega)))
            have ho4 : w2.ownsRow w.heap.size 150 2 _ cur.length (flat2 cur) := ho3.kept (Below.gr hb5) (by cases Value.ownBlock _ <;> simp)
            clear ho3 hb5 hb4 c0 c1
            rcases hq : q ((b : Int), (k : Int)) with _ | _
            · have HQ := Lib.hid hq; clear hq
              go_wp2
              go_roundw
              case rel => exact ⟨b + 1, by omega, by go_num, by
                have e1 : gridTo q (7 * k + (b + 1)) = cur := by rw [← Nat.add_assoc, HS.out]; simp [stB, HQ.out]
                rw [e1]; exact ho4, hb6⟩
              case measure => simp [intOf]; omega
            · have HQ := Lib.hid hq; clear hq
              go_wp2_with (at_builtin; refine wpList_append_own _ rfl _ _ 135 rfl w.heap.size 150 i (.agg #[.int .i64 0, .int .i64 0]) 2 16 Try.underlying135 hi hz0 hz1 hz2 rfl (by decide) _ cur.length (flat2 cur) rfl (ho4.alloc _) ⟨w2.heap.size, 0, none⟩ 1 1 [.int .i64 b, .int .i64 k] rfl rfl (news_new _ [.int .i64 b, .int .i64 k] _) (by simp [Value.oneCell']) (by unfold maxLen; omega) (by omega) (by have := hb6.size; simp; omega) ?_)
              intro v' w3 ho5 hg5 _
              have hb7 : Below w.heap.size w w3 := (Below.alc hb6 _).grown hg5 (by have := hb6.size; simp; omega) (fun g hg => (ho4.lt g hg).1)
              clear ho4 hb6 hg5
              go_wp2
              go_roundw
              case rel => exact ⟨b + 1, by omega, by go_num, by
                have e1 : gridTo q (7 * k + (b + 1)) = cur ++ [((b : Int), (k : Int))] := by rw [← Nat.add_assoc, HS.out]; simp [stB, HQ.out, HT.out]
                rw [e1]; exact ownsRow_cast ho5 (by simp) (flat2_snoc _ _ _).symm, hb7⟩
              case measure => simp [intOf]; omega
        · obtain rfl : b = 7 := by omega
          go_wp2
          go_roundw
          case rel => exact ⟨k + 1, by omega, by go_num, by rw [show 7 * (k + 1) = 7 * k + 7 by omega]; exact ho2, hb2⟩
          case measure => simp [intOf]; omega
    · obtain rfl : k = 3 := by omega
      go_wp2
      go_ret
      have e := gridTo_all q
      exact ⟨_, rfl, by rw [← e]; exact ho, hb⟩

/-- the states that a test finds, and those that it does not find -/
def foundSt (xs : List Int) : List (Int × Int) := allSt.filter fun s => decide (0 ≤ placeOf s.1 s.2 xs)
def hiddenSt (xs : List Int) : List (Int × Int) := allSt.filter fun s => s.2 != 0 && decide (placeOf s.1 s.2 xs < 0)
theorem allSt_length : allSt.length = 15 := by decide
theorem shC_zero {c : Int} (h0 : 0 ≤ c) (h1 : c ≤ 127) : shC 0 0 c = c := by
  have : ∀ n : Fin 128, ((n.1 &&& 127) ||| 0 : Nat) = n.1 := by decide +kernel
  obtain ⟨n, rfl⟩ := Int.eq_ofNat_of_zero_le h0
  have := this ⟨n, by omega⟩
  simp only [shC, Int.toNat_natCast, Int.toNat_zero] at this ⊢
  exact congrArg Int.ofNat this
theorem placeOf_good (xs : List Int) : placeOf 0 0 xs = -1 := by
  unfold placeOf
  apply firstAt_none (k := xs.length) (Nat.le_refl _)
  intro j x _ _
  have := dg_bd x
  simp [finds, stD, stL, shC_zero this.1 this.2]
theorem allSt_cons : allSt = (0, 0) :: allSt.drop 1 := by decide
theorem allSt_kind : ∀ s ∈ allSt.drop 1, (s.2 != 0) = true := by decide
theorem foundSt_eq (xs : List Int) : foundSt xs = (allSt.drop 1).filter fun s => decide (0 ≤ placeOf s.1 s.2 xs) == true := by
  unfold foundSt
  rw [allSt_cons, List.filter_cons]
  simp [placeOf_good]
theorem hiddenSt_eq (xs : List Int) : hiddenSt xs = (allSt.drop 1).filter fun s => decide (0 ≤ placeOf s.1 s.2 xs) == false := by
  unfold hiddenSt
  rw [allSt_cons, List.filter_cons]
  simp only [bne_self_eq_false, Bool.false_and, Bool.false_eq_true, if_false, List.drop_succ_cons, List.drop_zero]
  apply List.filter_congr
  intro s hs
  rw [allSt_kind s hs]
  by_cases h : placeOf s.1 s.2 xs < 0
  · simp [h]
  · simp [h]; omega
theorem found_hidden (xs : List Int) : (foundSt xs).length + (hiddenSt xs).length = 14 := by
  rw [foundSt_eq, hiddenSt_eq]
  have h : ∀ (l : List (Int × Int)) (p : Int × Int → Bool), (l.filter fun s => p s == true).length + (l.filter fun s => p s == false).length = l.length := by
    intro l p
    induction l with
    | nil => rfl
    | cons a l ih => cases hp : p a <;> simp [hp] at ih ⊢ <;> omega
  rw [h]; decide
def fullB (xs : List Int) : Bool := decide ((foundSt xs).length = 14)
theorem fullB_hidden (xs : List Int) : fullB xs = decide ((hiddenSt xs).length = 0) := by
  have := found_hidden xs
  unfold fullB
  by_cases h : (hiddenSt xs).length = 0
  · rw [decide_eq_true h, decide_eq_true (by omega)]
  · rw [decide_eq_false h, decide_eq_false (by omega)]

theorem found_c (v : Value) (xs : List Int) (w : World) (hv : Ints w v xs) (ht : testB xs = true) :
    Calls Try.prog 165 #[v] w fun e w' => ∃ u, e = .returned u ∧ w'.ownsRow w.heap.size 150 2 u (foundSt xs).length (flat2 (foundSt xs)) ∧ Below w.heap.size w w' := by
  obtain ⟨a, c, rfl, _, _, _⟩ := hv.parts
  have hc : ∀ w' : World, Below (w.alloc (.cells #[.slice a xs.length c] 24)).heap.size (w.alloc (.cells #[.slice a xs.length c] 24)) w' → w'.cell? ⟨w.heap.size, 0, none⟩ = some (.slice a xs.length c) := fun w' hb => by
    rw [(bcell hb).1 _ _ (by simp), World.cell?_alloc_at _ _ _ _ rfl]; rfl
  have HC := Lib.hid hc; clear hc
  go_enter Try.func165, Try.ntmps165
  go_wp2_with fail
  refine (states_c 177 #[.pointer (some ⟨w.heap.size, 0, none⟩)] (fun s => decide (0 ≤ placeOf s.1 s.2 xs)) _ (fun _ _ => by kernel_rfl) ?_).mono ?_
  · intro bar kind w1 hst hb
    have hc := HC.out w1 hb
    have hz : w.heap.size < w1.heap.size := World.block_lt_of_cell? w1 _ hc
    have hv1 : Ints w1 _ xs := (hv.below (below_one _)).below hb
    go_enter Try.func177, Try.ntmps177
    go_wp2_with fail
    refine (finding_c _ xs bar kind _ (hv1.below (below_one _)) hst ht).mono ?_
    rintro e w2 ⟨rfl, hb2⟩
    go_wp2
    go_ret
    exact ⟨bool_ret (by simp), by (repeat (first | exact Below.refl _ _ | exact (Below.refl _ _).drew | assumption | exact below_one _ | refine Below.chain ?_ (by assumption) | refine Below.drew ?_ | refine Below.alc ?_ _ | refine below_drewN ?_ | (refine Below.setCell ?_ ?_ _) | exact Nat.le_refl _ | (simp; done) | (simp; omega)))⟩
  · rintro e w1 ⟨u, rfl, ho, hb⟩
    have ho' : w1.ownsRow w.heap.size 150 2 u (foundSt xs).length (flat2 (foundSt xs)) := own_lo ho (by simp)
    go_wp2
    go_ret
    exact ⟨u, rfl, ho', (below_one _).trans (hb.mono (by simp))⟩
theorem isFull_c (v : Value) (xs : List Int) (w : World) (hv : Ints w v xs) (ht : testB xs = true) :
    Calls Try.prog 140 #[v] w fun e w' => e = .returned (.bool (fullB xs)) ∧ Below w.heap.size w w' := by
  go_enter Try.func140, Try.ntmps140
  go_wp2_with fail
  refine (found_c v xs _ hv ht).mono ?_
  rintro e w1 ⟨u, rfl, ho, hb⟩
  obtain ⟨a, c, rfl, _⟩ := (Sl.of_own ho).slice
  go_wp2
  go_ret
  refine ⟨bool_ret ?_, hb⟩
  unfold fullB
  rw [Bool.eq_iff_iff]; simp; omega
/-- what the reference's list of all states has behind its first k kinds and b bars -/
def allTo (m : Nat) : List (Int × Int) := (0, 0) :: (grid.drop 7).take m
theorem allTo_succ_fin : ∀ (k : Fin 2) (b : Fin 7), allTo (7 * k.1 + b.1 + 1) = allTo (7 * k.1 + b.1) ++ [((b.1 : Int), (k.1 : Int) + 1)] := by decide
theorem allTo_le (m : Nat) : (allTo m).length ≤ 15 := by
  unfold allTo
  simp [grid]; omega
theorem l7All_c (w : World) : Calls Try.prog 174 #[] w fun e w' => ∃ v, e = .returned v ∧ w'.ownsRow w.heap.size 150 2 v allSt.length (flat2 allSt) ∧ Below w.heap.size w w' := by
  obtain ⟨i, hi, hz0, hz1, hz2⟩ := info_parts info_State
  have ho0 := World.ownsRow_lit (e := 150) (size := 2) (base := w.heap.size) w #[.int .i64 0, .int .i64 0] 1 (Nat.le_refl _) (by decide) rfl
  go_enter Try.func174, Try.ntmps174
  go_wp2
  go_loopw [1, 2, 3] (fun v i _ wr => ∃ k : Nat, k ≤ 2 ∧ i = .int .i64 ((k : Int) + 1) ∧ wr.ownsRow w.heap.size 150 2 v (allTo (7 * k)).length (flat2 (allTo (7 * k))) ∧ Below w.heap.size w wr) (fun _ i _ _ => 4 - (intOf i).toNat)
  case atStart => exact ⟨0, by omega, rfl, ho0, below_one _⟩
  case round =>
    obtain ⟨k, hk, rfl, ho, hb⟩ := hrel
    clear ho0
    by_cases hlt : k < 2
    · have hd : decide ((k : Int) + 1 ≤ 2) = true := by simp; omega
      go_wp2
      go_loopw [1, 3] (fun v i wr => ∃ b : Nat, b ≤ 7 ∧ i = .int .i64 b ∧ wr.ownsRow w.heap.size 150 2 v (allTo (7 * k + b)).length (flat2 (allTo (7 * k + b))) ∧ Below w.heap.size w wr) (fun _ i _ => 7 - (intOf i).toNat)
      case atStart => exact ⟨0, by omega, rfl, ho, hb⟩
      case round =>
        obtain ⟨b, hbl, rfl, ho2, hb2⟩ := hrel
        clear ho hb
        by_cases hlt2 : b < 7
        · have hd2 : decide ((b : Int) < 7) = true := by simp; omega
          have hs := allTo_succ_fin ⟨k, hlt⟩ ⟨b, hlt2⟩
          have hle := allTo_le (7 * k + b)
          simp only at hs
          generalize allTo (7 * k + b) = cur at *
          have HS := Lib.hid hs; clear hs
          go_wp2_with (at_builtin; refine wpList_append_own _ rfl _ _ 135 rfl w.heap.size 150 i (.agg #[.int .i64 0, .int .i64 0]) 2 16 Try.underlying135 hi hz0 hz1 hz2 rfl (by decide) _ cur.length (flat2 cur) rfl (ho2.alloc _) ⟨wr.heap.size, 0, none⟩ 1 1 [.int .i64 b, .int .i64 ((k : Int) + 1)] rfl rfl (news_new _ [.int .i64 b, .int .i64 ((k : Int) + 1)] _) (by simp [Value.oneCell']) (by unfold maxLen; omega) (by omega) (by have := hb2.size; simp; omega) ?_)
          intro v' w3 ho5 hg5 _
          have hb7 : Below w.heap.size w w3 := (Below.alc hb2 _).grown hg5 (by have := hb2.size; simp; omega) (fun g hg => (ho2.lt g hg).1)
          clear ho2 hb2 hg5
          go_wp2
          go_roundw
          case rel => exact ⟨b + 1, by omega, by go_num, by rw [← Nat.add_assoc, HS.out]; exact ownsRow_cast ho5 (by simp) (flat2_snoc _ _ _).symm, hb7⟩
          case measure => simp [intOf]; omega
        · obtain rfl : b = 7 := by omega
          go_wp2
          go_roundw
          case rel => exact ⟨k + 1, by omega, by go_num, by rw [show 7 * (k + 1) = 7 * k + 7 by omega]; exact ho2, hb2⟩
          case measure => simp [intOf]; omega
    · obtain rfl : k = 2 := by omega
      go_wp2
      go_ret
      exact ⟨_, rfl, ho, hb⟩
/-- the states but the good one that a test finds (f), or does not find, among the first m -/
def l7F (xs : List Int) (f : Bool) (m : Nat) : List (Int × Int) := ((allSt.drop 1).take m).filter fun s => decide (0 ≤ placeOf s.1 s.2 xs) == f
theorem l7F_zero (xs : List Int) (f : Bool) : l7F xs f 0 = [] := rfl
theorem l7F_le (xs : List Int) (f : Bool) (m : Nat) : (l7F xs f m).length ≤ 14 :=
  Nat.le_trans (List.length_filter_le _ _) (by rw [List.length_take]; simp [allSt, grid]; omega)
theorem l7F_succ (xs : List Int) (f : Bool) {m : Nat} {s : Int × Int} (hs : allSt[m + 1]? = some s) : l7F xs f (m + 1) = l7F xs f m ++ if decide (0 ≤ placeOf s.1 s.2 xs) == f then [s] else [] := by
  have hs2 : (allSt.drop 1)[m]? = some s := by rw [List.getElem?_drop, Nat.add_comm]; exact hs
  unfold l7F
  rw [take_snoc hs2, List.filter_append]
  cases hq : (decide (0 ≤ placeOf s.1 s.2 xs) == f) <;> simp [hq]
theorem l7F_found (xs : List Int) : l7F xs true 14 = foundSt xs := by rw [foundSt_eq]; rfl
theorem l7F_hidden (xs : List Int) : l7F xs false 14 = hiddenSt xs := by rw [hiddenSt_eq]; rfl
theorem allSt_ok : ∀ s ∈ allSt, stateB s.1 s.2 = true := by decide
theorem l7Found_c (v : Value) (xs : List Int) (f : Bool) (w : World) (hv : Ints w v xs) (ht : testB xs = true) :
    Calls Try.prog 163 #[v, .bool f] w fun e w' => ∃ u, e = .returned u ∧ w'.ownsRow w.heap.size 150 2 u (l7F xs f 14).length (flat2 (l7F xs f 14)) ∧ Below w.heap.size w w' := by
  obtain ⟨i, hi, hz0, hz1, hz2⟩ := info_parts info_State
  have ho0 := World.ownsRow_lit (e := 150) (size := 2) (base := w.heap.size) w #[] 0 (Nat.le_refl _) (by decide) rfl
  go_enter Try.func163, Try.ntmps163
  go_wp2_with fail
  refine (l7All_c _).mono ?_
  rintro e w1 ⟨u, rfl, hoA, hbA⟩
  obtain ⟨g, cap, hu, hg0, hg1, _, _⟩ := own_form hoA (by rw [allSt_length]; omega)
  have hA : Pairs w1 u allSt := Pairs.of_own hoA
  have ho1 := ho0.kept (Below.gr hbA) (by cases Value.ownBlock _ <;> simp)
  have hb1 : Below w.heap.size w w1 := (below_one _).trans (hbA.mono (by simp))
  have hl15 : allSt.length = 15 := allSt_length
  rw [hl15] at hu
  subst hu
  have hgw : w.heap.size < g := by simp at hg0; omega
  have hm := hv.le
  clear hoA hbA ho0 hg0 hl15
  go_wp2
  go_loopw [5, 7] (fun o j wr => ∃ k : Nat, k ≤ 14 ∧ j = .int .i64 ((k : Int) + 1) ∧ wr.ownsRow w.heap.size 150 2 o (l7F xs f k).length (flat2 (l7F xs f k)) ∧ Below w.heap.size w wr ∧ Pairs wr (.slice (some ⟨g, 0, none⟩) 15 cap) allSt ∧ o.ownBlock ≠ some g ∧ g < wr.heap.size) (fun _ j _ => 16 - (intOf j).toNat)
  case atStart => exact ⟨0, by omega, rfl, ho1, hb1, hA, by simp [Value.ownBlock]; omega, hg1⟩
  case round =>
    obtain ⟨k, hk, rfl, ho, hb, hP, hne, hgl⟩ := hrel
    clear ho1 hb1 hA
    by_cases hlt : k < 14
    · have hlt15 : (k : Int) + 1 < 15 := by omega
      obtain ⟨s, hs⟩ := elem_at (show k + 1 < allSt.length by rw [allSt_length]; omega)
      have hok := allSt_ok s (List.mem_of_getElem? hs.out)
      obtain ⟨a0, c0, he, _, _, HA⟩ := hP.parts
      obtain ⟨b2, off2, e2, g0, g1⟩ := HA.out _ _ hs.out
      obtain ⟨rfl, rfl⟩ : b2 = g ∧ off2 = 0 := by
        rw [e2] at he; injection he with h1 _ _; injection h1 with h1; injection h1 with h1 h2 _; exact ⟨h1.symm, h2.symm⟩
      clear he HA e2
      simp only [Nat.zero_add] at g0 g1
      obtain ⟨bar, kind⟩ := s
      have hv1 : Ints wr v xs := hv.below hb
      have hsc := l7F_succ xs f hs.out
      have hle := l7F_le xs f k
      generalize l7F xs f k = cur at *
      have HS := Lib.hid hsc; clear hsc
      have hd : decide ((k : Int) + 1 < 15) = true := by simp; omega
      go_wp2_with fail
      refine (l7Place_c v xs bar kind _ hv1 hok ht).mono ?_
      rintro e w2 ⟨rfl, hb2⟩
      have g02 := cell_later hb2 g0
      have g12 := cell_later hb2 g1
      have hb3 : Below w.heap.size w w2 := by (repeat (first | exact Below.refl _ _ | exact (Below.refl _ _).drew | assumption | exact below_one _ | refine Below.chain ?_ (by assumption) | refine Below.drew ?_ | refine Below.alc ?_ _ | refine below_drewN ?_ | (refine Below.setCell ?_ ?_ _) | exact Nat.le_refl _ | (simp; done) | (simp; omega)))
      have ho2 := ho.kept (Below.gr hb2) (by cases Value.ownBlock _ <;> simp)
      have hP2 := hP.below hb2
      have hgl2 : b2 < w2.heap.size := Nat.lt_of_lt_of_le hgl hb2.size
      clear ho hb hP hgl g0 g1 hb2 hv1
      rcases hq : (decide (0 ≤ placeOf bar kind xs) == f) with _ | _
      · have hS2 : l7F xs f (k + 1) = cur := by rw [HS.out]; simp [hq]
        have HS2 := Lib.hid hS2; clear hS2 HS
        go_wp2
        go_roundw
        case rel => exact ⟨k + 1, by omega, by go_num, by rw [HS2.out]; exact ho2, hb3, hP2, hne, hgl2⟩
        case measure => simp [intOf]; omega
      · have hS2 : l7F xs f (k + 1) = cur ++ [(bar, kind)] := by rw [HS.out]; simp [hq]
        have HS2 := Lib.hid hS2; clear hS2 HS
        go_wp2_with (at_builtin; refine wpList_append_own_at _ rfl _ _ 135 rfl w.heap.size 150 i (.agg #[.int .i64 0, .int .i64 0]) 2 16 Try.underlying135 hi hz0 hz1 hz2 rfl (by decide) _ cur.length (flat2 cur) rfl (ho2.alloc _) ⟨w2.heap.size, 0, none⟩ 1 1 [.int .i64 bar, .int .i64 kind] rfl rfl (news_new _ [.int .i64 bar, .int .i64 kind] _) (by simp [Value.oneCell']) (by unfold maxLen; omega) (by omega) (by have := hb3.size; simp; omega) ?_)
        intro v' w3 ho5 hg5 _ hat
        have hb7 : Below w.heap.size w w3 := (Below.alc hb3 _).grown hg5 (by have := hb3.size; simp; omega) (fun g hg => (ho2.lt g hg).1)
        have hP3 : Pairs w3 (.slice (some ⟨b2, 0, none⟩) 15 cap) allSt := (hP2.below (below_one _)).grown hg5 (.inr (by simpa [Value.ownBlock] using (Ne.symm hne)))
        have hne3 : v'.ownBlock ≠ some b2 := by
          rcases hat with h | h
          · rw [h]; exact hne
          · rw [h]; simp; omega
        have hgl3 : b2 < w3.heap.size := Nat.lt_of_lt_of_le (by simp; omega) hg5.size
        clear ho2 hb3 hP2 hne hgl2 hg5 hat g02 g12
        go_wp2
        go_roundw
        case rel => exact ⟨k + 1, by omega, by go_num, by rw [HS2.out]; exact ownsRow_cast ho5 (by simp) (flat2_snoc _ _ _).symm, hb7, hP3, hne3, hgl3⟩
        case measure => simp [intOf]; omega
    · obtain rfl : k = 14 := by omega
      go_wp2
      go_ret
      exact ⟨_, rfl, ho, hb⟩
theorem l7Full_c (v : Value) (xs : List Int) (w : World) (hv : Ints w v xs) (ht : testB xs = true) :
    Calls Try.prog 136 #[v] w fun e w' => e = .returned (.bool (fullB xs)) ∧ Below w.heap.size w w' := by
  go_enter Try.func136, Try.ntmps136
  go_wp2_with fail
  refine (l7Found_c v xs false _ hv ht).mono ?_
  rintro e w1 ⟨u, rfl, ho, hb⟩
  obtain ⟨a, c, rfl, _⟩ := (Sl.of_own ho).slice
  go_wp2
  go_ret
  refine ⟨bool_ret ?_, hb⟩
  rw [fullB_hidden, ← l7F_hidden, Bool.eq_iff_iff]; simp
/-- what both texts of IsFullTest return -/
def isFullV (xs : List Int) : Value := .tuple #[.bool (testB xs && fullB xs), .bool (testB xs)]
theorem IsFullTest_c (v : Value) (xs : List Int) (w : World) (hv : Ints w v xs) :
    Calls Try.prog 77 #[v] w fun e w' => e = .returned (isFullV xs) ∧ Below w.heap.size w w' := by
  rcases ht : testB xs with _ | _
  · have HF0 : isFullV xs = .tuple #[.bool false, .bool false] := by simp [isFullV, ht]
    have HF := Lib.hid HF0; clear HF0; have HT := Lib.hid ht; clear ht
    go_enter Try.func77, Try.ntmps77
    go_wp2_with fail
    refine (isTest_c v xs _ hv).mono ?_
    rintro e w1 ⟨rfl, hb1⟩
    rw [HT.out]
    go_wp2
    go_ret2
    exact ⟨by rw [HF.out]; rfl, by (repeat (first | exact Below.refl _ _ | exact (Below.refl _ _).drew | assumption | exact below_one _ | refine Below.chain ?_ (by assumption) | refine Below.drew ?_ | refine Below.alc ?_ _ | refine below_drewN ?_ | (refine Below.setCell ?_ ?_ _) | exact Nat.le_refl _ | (simp; done) | (simp; omega)))⟩
  · have HF0 : isFullV xs = .tuple #[.bool (fullB xs), .bool true] := by simp [isFullV, ht]
    have HF := Lib.hid HF0; clear HF0; have HT := Lib.hid ht; clear ht
    go_enter Try.func77, Try.ntmps77
    go_wp2_with fail
    refine (isTest_c v xs _ hv).mono ?_
    rintro e w1 ⟨rfl, hb1⟩
    rw [HT.out]
    go_wp2_with fail
    refine (isFull_c v xs _ (hv.below hb1) HT.out).mono ?_
    rintro e w2 ⟨rfl, hb2⟩
    go_wp2
    go_ret2
    exact ⟨by rw [HF.out]; rfl, by (repeat (first | exact Below.refl _ _ | exact (Below.refl _ _).drew | assumption | exact below_one _ | refine Below.chain ?_ (by assumption) | refine Below.drew ?_ | refine Below.alc ?_ _ | refine below_drewN ?_ | (refine Below.setCell ?_ ?_ _) | exact Nat.le_refl _ | (simp; done) | (simp; omega)))⟩
end Go.Proofs.Ytlipkplomndjcaa
namespace Go.Proofs.Ytlipkplomndjcaa
open Go.RowKit
set_option linter.unusedVariables false
set_option maxRecDepth 100000
/-- a list that is told if the test is valid, else none -/
def toldSt (xs : List Int) (l : List (Int × Int)) : List (Int × Int) := if testB xs then l else []
theorem toldSt_le (xs : List Int) (l : List (Int × Int)) (h : l.length ≤ 15) : (toldSt xs l).length ≤ 15 := by
  unfold toldSt; split
  · exact h
  · simp
theorem foundSt_le (xs : List Int) : (foundSt xs).length ≤ 15 := Nat.le_trans (List.length_filter_le _ _) (by decide)
theorem hiddenSt_le (xs : List Int) : (hiddenSt xs).length ≤ 15 := Nat.le_trans (List.length_filter_le _ _) (by decide)
/-- the post of both texts: a slice of the call's own with the list, and the bool -/
def StPost (w : World) (xs : List Int) (l : List (Int × Int)) (e : Ending) (w' : World) : Prop :=
  ∃ u, e = .returned (.tuple #[u, .bool (testB xs)]) ∧ w'.ownsRow w.heap.size 150 2 u (toldSt xs l).length (flat2 (toldSt xs l)) ∧ Below w.heap.size w w'
theorem StPost.no {w w' : World} {xs : List Int} {l : List (Int × Int)} {u : Value} (ht : testB xs = false) (ho : w'.ownsRow w.heap.size 150 2 u 0 []) (hb : Below w.heap.size w w') : StPost w xs l (.returned (.tuple #[u, .bool false])) w' := by
  refine ⟨u, by rw [ht], ?_, hb⟩
  simpa [toldSt, ht, flat2_nil] using ho
theorem StPost.yes {w w' : World} {xs : List Int} {l : List (Int × Int)} {u : Value} (ht : testB xs = true) (ho : w'.ownsRow w.heap.size 150 2 u l.length (flat2 l)) (hb : Below w.heap.size w w') : StPost w xs l (.returned (.tuple #[u, .bool true])) w' := by
  refine ⟨u, by rw [ht], ?_, hb⟩
  simpa [toldSt, ht] using ho
end Go.Proofs.Ytlipkplomndjcaa
namespace Go.Proofs.Ytlipkplomndjcaa
open Go.RowKit
set_option linter.unusedVariables false
set_option maxRecDepth 100000
def fracN (a b : Nat) : Int := ((a / Nat.gcd a b : Nat) : Int)
def fracD (a b : Nat) : Int := ((b / Nat.gcd a b : Nat) : Int)
def fracV (a b : Nat) : Value := .agg #[.int .i64 (fracN a b), .int .i64 (fracD a b)]
theorem wrapK (n : Int) : IntKind.i64.wrap n = wrap64 n := by
  simp only [IntKind.wrap, IntKind.bits, IntKind.signed, wrap64]; simp; split <;> omega
end Go.Proofs.Ytlipkplomndjcaa
namespace Go.Proofs.Ytlipkplomndjcaa
open Go.RowKit
set_option linter.unusedVariables false
set_option maxRecDepth 100000
def cfP (k : Int) (xs : List Int) : Bool := ((xs.length : Int) == k) && fullB xs
def cfN (k : Int) (done : List (List Int)) : Nat := (done.filter (cfP k)).length
theorem cfN_snoc (k : Int) (done : List (List Int)) (part : List Int) : cfN k (done ++ [part]) = cfN k done + if cfP k part then 1 else 0 := by
  unfold cfN; rw [List.filter_append, List.length_append]
  cases h : cfP k part <;> simp [h]
structure CfI (kb m : Nat) (k : Int) (done : List (List Int)) (w : World) : Prop where
  ck : w.cell? ⟨kb, 0, none⟩ = some (.int .i64 k)
  cm : w.cell? ⟨m, 0, none⟩ = some (.int .i64 (IntKind.i64.wrap (cfN k done : Nat)))
  fm : w.frozen? ⟨m, 0, none⟩ = false
  ne : kb ≠ m
theorem wrap_succ (n : Nat) : IntKind.i64.wrap (IntKind.i64.wrap (n : Int) + 1) = IntKind.i64.wrap ((n + 1 : Nat) : Int) := by
  simp only [IntKind.wrap, IntKind.bits, IntKind.signed]; simp; omega
theorem cf_doer (kb m : Nat) (k : Int) (S : List Int) (hS : ∀ y ∈ S, digitB y = true) : Doer (fun _ j => j = m) (CfI kb m k) 139 #[.pointer (some ⟨kb, 0, none⟩), .pointer (some ⟨m, 0, none⟩)] S where
  calls := fun bs w => by kernel_rfl
  keepI := fun done w w' h hb => ⟨cell_later hb h.ck, cell_later hb h.cm, by rw [hb.frozen (p := ⟨m, 0, none⟩) (World.block_lt_of_cell? _ _ h.cm)]; exact h.fm, h.ne⟩
  keepD := fun done w w' h hb j hj => hj
  ltD := fun done w j h hj => by rw [hj]; exact World.block_lt_of_cell? _ _ h.cm
  run := by
    intro done part v w hpl hps hI hv hd
    have ht : testB part = true := by
      unfold testB
      rw [decide_eq_true hpl, Bool.true_and, List.all_eq_true]
      exact fun y hy => hS y (hps y hy)
    have hle := hv.le
    obtain ⟨a, c, rfl, _, _, _⟩ := hv.parts
    have g0 := hI.ck
    have g1 := hI.cm
    have g2 := hI.fm
    have hne := hI.ne
    have HN := Lib.hid (cfN_snoc k done part)
    have HW := Lib.hid (wrap_succ (cfN k done))
    have hFr : Hid (∀ w', Below w.heap.size w w' → ∀ x, Fr (fun _ j => j = m) w (w'.setCell ⟨m, 0, none⟩ x)) := fun w' hb x =>
      ⟨hb.os, hb.tape, hb.output, by simp; exact hb.size, fun j hj hne => by rw [heap_setCell_other _ _ _ _ hne]; exact hb.block j hj, fun j hj => .inl hj⟩
    rcases h1 : ((part.length : Int) == k) with _ | _
    · have h1d : decide ((part.length : Int) = k) = false := by simpa using h1
      have HC := Lib.hid (show cfN k (done ++ [part]) = cfN k done by rw [HN.out]; unfold cfP; rw [h1]; rfl)
      have HI := Lib.hid hI
      clear hI
      go_enter Try.func139, Try.ntmps139
      go_wp2
      refine bodyPost_end (results_none rfl _ _ _) rfl ?_
      exact ⟨rfl, ⟨HI.out.ck, by rw [HC.out]; exact HI.out.cm, HI.out.fm, HI.out.ne⟩, Fr.refl _⟩
    · have h1d : decide ((part.length : Int) = k) = true := by simpa using h1
      rcases h2 : fullB part with _ | _
      · have HC := Lib.hid (show cfN k (done ++ [part]) = cfN k done by rw [HN.out]; unfold cfP; rw [h1, h2]; rfl)
        have HI := Lib.hid hI; have H2 := Lib.hid h2
        clear hI h2
        go_enter Try.func139, Try.ntmps139
        go_wp2_with fail
        refine (isFull_c _ part _ hv ht).mono ?_
        rintro e w1 ⟨rfl, hb1⟩
        rw [H2.out]
        have HB := Lib.hid hb1
        have r0 := cell_later hb1 g0
        clear hb1
        go_wp2
        refine bodyPost_end (results_none rfl _ _ _) rfl ?_
        have hb := HB.out
        exact ⟨rfl, ⟨cell_later hb HI.out.ck, by rw [HC.out]; exact cell_later hb HI.out.cm, by rw [hb.frozen (p := ⟨m, 0, none⟩) (World.block_lt_of_cell? _ _ HI.out.cm)]; exact HI.out.fm, HI.out.ne⟩, ⟨hb.os, hb.tape, hb.output, hb.size, fun j hj _ => hb.block j hj, fun j hj => .inl hj⟩⟩
      · have HC := Lib.hid (show cfN k (done ++ [part]) = cfN k done + 1 by rw [HN.out]; unfold cfP; rw [h1, h2]; rfl)
        have HI := Lib.hid hI; have H2 := Lib.hid h2
        clear hI h2
        generalize IntKind.i64.wrap (cfN k done : Nat) = X at *
        go_enter Try.func139, Try.ntmps139
        go_wp2_with fail
        refine (isFull_c _ part _ hv ht).mono ?_
        rintro e w1 ⟨rfl, hb1⟩
        rw [H2.out]
        have r0 := cell_later hb1 g0
        have r1 := cell_later hb1 g1
        have r2 := (hb1.frozen (p := ⟨m, 0, none⟩) (World.block_lt_of_cell? _ _ g1)).trans g2
        have HB := Lib.hid hb1
        clear hb1
        go_wp2
        refine bodyPost_end (results_none rfl _ _ _) rfl ?_
        refine ⟨rfl, ⟨?_, ?_, ?_, hne⟩, hFr.out _ HB.out _⟩
        · rw [World.cell?_setCell_other _ _ _ _ (by intro e; injection e with e1; exact hne e1.symm)]; exact r0
        · rw [World.cell?_setCell_same _ _ _ r1, HC.out, ← HW.out]
          first | rfl | rw [wrapK]
        · rw [World.frozen?_setCell]; exact r2
/-- how many parts of a set that are full have so many digits: by the bits of a number, or by leaving the last one open -/
def cfA (k : Int) : Nat := cfN k (subsL tenI)
def cfV (k : Int) : Value := .tuple #[.int .i64 (if inB k 0 10 then (cfA k : Int) else 0), .bool (inB k 0 10)]
theorem loopE_len : ∀ (l part : List Int), (loopE l part).length + 1 = 2 ^ l.length
  | [], _ => rfl
  | x :: t, part => by
    have h1 := loopE_len t (part ++ [x])
    have h2 := loopE_len t part
    simp only [loopE, List.length_append, List.length_cons, Nat.pow_succ] at h1 h2 ⊢
    omega
theorem cfA_le (k : Int) : cfA k ≤ 1024 := by
  unfold cfA cfN
  refine Nat.le_trans (List.length_filter_le _ _) ?_
  have := loopE_len tenI []
  unfold subsL
  simp only [List.length_cons]
  rw [this]; decide
def tenA : Array Value := #[.int .i64 0, .int .i64 1, .int .i64 2, .int .i64 3, .int .i64 4, .int .i64 5, .int .i64 6, .int .i64 7, .int .i64 8, .int .i64 9]
theorem tenA_eq : tenA.toList = ints tenI := rfl
theorem allDigits_c (w : World) : Calls Try.prog 131 #[] w fun e w' => ∃ u, e = .returned u ∧ w'.ownsRow w.heap.size 3 1 u 10 (ints tenI) ∧ Below w.heap.size w w' := by
  have ho := World.ownsRow_lit (e := 3) (size := 1) (base := w.heap.size) w tenA 10 (Nat.le_refl _) (by decide) rfl
  rw [tenA_eq] at ho
  unfold tenA at ho
  go_enter Try.func131, Try.ntmps131
  go_wp2
  go_ret
  exact ⟨_, rfl, ho, below_one _⟩
theorem l7Ten_c (w : World) : Calls Try.prog 135 #[] w fun e w' => ∃ u, e = .returned u ∧ w'.ownsRow w.heap.size 3 1 u 10 (ints tenI) ∧ Below w.heap.size w w' := by
  have ho := World.ownsRow_lit (e := 3) (size := 1) (base := w.heap.size) w tenA 10 (Nat.le_refl _) (by decide) rfl
  rw [tenA_eq] at ho
  unfold tenA at ho
  go_enter Try.func135, Try.ntmps135
  go_wp2
  go_ret
  exact ⟨_, rfl, ho, below_one _⟩
theorem CountFullTests_c (k : Int) (w : World) : Calls Try.prog 73 #[.int .i64 k] w fun e w' => e = .returned (cfV k) ∧ Below w.heap.size w w' := by
  rcases hq : inB k 0 10 with _ | _
  · have HF := Lib.hid (show cfV k = .tuple #[.int .i64 0, .bool false] by simp [cfV, hq])
    have HQ := Lib.hid hq; clear hq
    go_enter Try.func73, Try.ntmps73
    go_wp2_with fail
    refine (within_c k 0 10 _).mono ?_
    rintro e w1 ⟨rfl, rfl⟩
    rw [HQ.out]
    go_wp2
    go_ret2
    exact ⟨by rw [HF.out]; rfl, by (repeat (first | exact Below.refl _ _ | exact (Below.refl _ _).drew | assumption | exact below_one _ | refine Below.chain ?_ (by assumption) | refine Below.drew ?_ | refine Below.alc ?_ _ | refine below_drewN ?_ | (refine Below.setCell ?_ ?_ _) | exact Nat.le_refl _ | (simp; done) | (simp; omega)))⟩
  · have HF := Lib.hid (show cfV k = .tuple #[.int .i64 (cfA k : Nat), .bool true] by simp [cfV, hq])
    have HQ := Lib.hid hq; clear hq
    have hA := cfA_le k
    go_enter Try.func73, Try.ntmps73
    go_wp2_with fail
    refine (within_c k 0 10 _).mono ?_
    rintro e w1 ⟨rfl, rfl⟩
    rw [HQ.out]
    have q0 : ((w.alloc (.cells #[.int .i64 k] 3)).alloc (.cells #[.int .i64 0] 3)).cell? ⟨w.heap.size, 0, none⟩ = some (.int .i64 k) := cell_later (below_one _) (by rw [World.cell?_alloc_at _ _ _ _ rfl]; rfl)
    have q1 : ((w.alloc (.cells #[.int .i64 k] 3)).alloc (.cells #[.int .i64 0] 3)).cell? ⟨w.heap.size + 1, 0, none⟩ = some (.int .i64 0) := by rw [World.cell?_alloc_at _ _ _ _ (by simp)]; rfl
    have q2 : ((w.alloc (.cells #[.int .i64 k] 3)).alloc (.cells #[.int .i64 0] 3)).frozen? ⟨w.heap.size + 1, 0, none⟩ = false := by
      have := World.frozen?_alloc_new (w.alloc (.cells #[.int .i64 k] 3)) #[.int .i64 0] 3 0
      rwa [World.size_alloc] at this
    have hb0 : Below w.heap.size w ((w.alloc (.cells #[.int .i64 k] 3)).alloc (.cells #[.int .i64 0] 3)) := by (repeat (first | exact Below.refl _ _ | exact (Below.refl _ _).drew | assumption | exact below_one _ | refine Below.chain ?_ (by assumption) | refine Below.drew ?_ | refine Below.alc ?_ _ | refine below_drewN ?_ | (refine Below.setCell ?_ ?_ _) | exact Nat.le_refl _ | (simp; done) | (simp; omega)))
    go_wp2_with fail
    refine (allDigits_c _).mono ?_
    rintro e w2 ⟨u, rfl, ho, hb2⟩
    have hI0 : CfI w.heap.size (w.heap.size + 1) k [] w2 := ⟨cell_later hb2 q0, by rw [cell_later hb2 q1]; rfl, by rw [hb2.frozen (p := ⟨w.heap.size + 1, 0, none⟩) (World.block_lt_of_cell? _ _ q1)]; exact q2, by omega⟩
    have hv : Ints w2 u tenI := Ints.of_own ho
    have hlt := ho.lt
    have hb3 := Below.chain hb0 hb2
    clear q0 q1 q2 hb0 hb2 ho
    go_wp2_with fail
    refine (subsets_c (cf_doer w.heap.size (w.heap.size + 1) k tenI (by decide)) (by decide) u w2 [] hI0 hv (fun g hg => ⟨fun hd => by have := (hlt g hg).1; simp at this; omega, (hlt g hg).2⟩)).mono ?_
    rintro e w3 ⟨rfl, hI3, hF3⟩
    have hb4 : Below w.heap.size w w3 := ⟨hF3.os.trans hb3.os, hF3.tape.trans hb3.tape, hF3.output.trans hb3.output, Nat.le_trans hb3.size hF3.size, fun j hj => (hF3.block j (Nat.lt_of_lt_of_le hj hb3.size) (by omega)).trans (hb3.block j hj)⟩
    have g1 := hI3.cm
    rw [List.nil_append] at g1
    have hw : IntKind.i64.wrap (cfN k (subsL tenI) : Nat) = ((cfA k : Nat) : Int) := by
      rw [IntWalk.i64_in _ (by have : cfN k (subsL tenI) = cfA k := rfl; omega)]; rfl
    rw [hw] at g1
    clear hI3 hF3 hb3 hlt hv hI0 hw
    go_wp2
    go_ret2
    exact ⟨by rw [HF.out]; rfl, hb4⟩
end Go.Proofs.Ytlipkplomndjcaa
namespace Go.Proofs.Ytlipkplomndjcaa
open Go.RowKit
set_option linter.unusedVariables false
set_option maxRecDepth 100000
def bitB (s j : Nat) : Bool := (s / 2 ^ j) % 2 == 1
theorem bit_i64 (s j : Nat) (hs : s < 1024) : bits BinOp.and IntKind.i64 ((s : Int) / 2 ^ j) 1 = ((s / 2 ^ j % 2 : Nat) : Int) := by
  have h := Nat.div_le_self s (2 ^ j)
  have e : ((s : Int) / 2 ^ j) = ((s / 2 ^ j : Nat) : Int) := by simp
  rw [e, show (1 : Int) = ((1 : Nat) : Int) from rfl, i64_and_nat _ _ (by omega) (by omega), Nat.and_one_is_mod]
def prtL (n s i : Nat) : List Int := ((List.range i).filter fun j => bitB s (n - 1 - j)).map fun j => ((j : Nat) : Int)
theorem prtL_succ (n s i : Nat) : prtL n s (i + 1) = prtL n s i ++ if bitB s (n - 1 - i) then [(i : Int)] else [] := by
  unfold prtL
  rw [List.range_succ, List.filter_append, List.map_append]
  cases h : bitB s (n - 1 - i) <;> simp [h]
theorem prtL_le (n s i : Nat) : (prtL n s i).length ≤ i := by
  unfold prtL; rw [List.length_map]; exact Nat.le_trans (List.length_filter_le _ _) (by simp)
theorem l5Part_c (n s : Nat) (w : World) (hn : n ≤ 10) (hs : s < 1024) : Calls Try.prog 162 #[.int .i64 (n : Int), .int .i64 (s : Int)] w fun e w' => ∃ u, e = .returned u ∧ w'.ownsRow w.heap.size 3 1 u (prtL n s n).length (ints (prtL n s n)) ∧ Below w.heap.size w w' := by
  obtain ⟨inf, hi, hz0, hz1, hz2⟩ := info_parts info_int
  have ho0 := World.ownsRow_lit (e := 3) (size := 1) (base := w.heap.size) w #[] 0 (Nat.le_refl _) (by decide) rfl
  go_enter Try.func162, Try.ntmps162
  go_wp2
  go_loopw [5, 6] (fun o j wr => ∃ i : Nat, i ≤ n ∧ j = .int .i64 (i : Int) ∧ wr.ownsRow w.heap.size 3 1 o (prtL n s i).length (ints (prtL n s i)) ∧ Below w.heap.size w wr) (fun _ j _ => n - (intOf j).toNat)
  case atStart => exact ⟨0, by omega, rfl, ho0, by (repeat (first | exact Below.refl _ _ | exact (Below.refl _ _).drew | assumption | exact below_one _ | refine Below.chain ?_ (by assumption) | refine Below.drew ?_ | refine Below.alc ?_ _ | refine below_drewN ?_ | (refine Below.setCell ?_ ?_ _) | exact Nat.le_refl _ | (simp; done) | (simp; omega)))⟩
  case round =>
    obtain ⟨i, hi1, rfl, ho, hb⟩ := hrel
    clear ho0
    by_cases hlt : i < n
    · have hd : decide ((i : Int) < (n : Int)) = true := by simp; omega
      have hS := prtL_succ n s i
      have hle := prtL_le n s i
      have hnn : ¬ ((n : Int) - 1 - (i : Int) < 0) := by omega
      generalize prtL n s i = cur at *
      have HS := Lib.hid hS; clear hS
      have hbit := bit_i64 s (n - 1 - i) hs
      rcases hq : bitB s (n - 1 - i) with _ | _
      · have h1 : s / 2 ^ (n - 1 - i) % 2 = 0 := by unfold bitB at hq; simp at hq; omega
        rw [h1] at hbit
        have HS2 := Lib.hid (show prtL n s (i + 1) = cur by rw [HS.out, hq]; simp)
        clear HS hq h1
        go_wp2
        go_roundw
        case rel => exact ⟨i + 1, by omega, by go_num, by rw [HS2.out]; exact ho, hb⟩
        case measure => simp [intOf]; omega
      · have h1 : s / 2 ^ (n - 1 - i) % 2 = 1 := by unfold bitB at hq; simpa using hq
        rw [h1] at hbit
        have HS2 := Lib.hid (show prtL n s (i + 1) = cur ++ [(i : Int)] by rw [HS.out, hq]; simp)
        clear HS hq h1
        go_wp2_with (at_builtin; refine wpList_append_own_at _ rfl _ _ 24 rfl w.heap.size 3 inf (.int .i64 0) 1 8 Try.underlying24 hi hz0 hz1 hz2 rfl (by decide) _ cur.length (ints cur) rfl (ho.alloc _) ⟨wr.heap.size, 0, none⟩ 1 1 [.int .i64 i] rfl rfl (news_new _ [.int .i64 i] _) (by simp [Value.oneCell']) (by unfold maxLen; omega) (by omega) (by have := hb.size; simp; omega) ?_)
        intro v' w3 ho5 hg5 _ _
        have hb7 : Below w.heap.size w w3 := (Below.alc hb _).grown hg5 (by have := hb.size; simp; omega) (fun g hg => (ho.lt g hg).1)
        clear ho hb hg5
        go_wp2
        go_roundw
        case rel => exact ⟨i + 1, by omega, by go_num, by rw [HS2.out]; exact ownsRow_cast ho5 (by simp) (by simp), hb7⟩
        case measure => simp [intOf]; omega
    · obtain rfl : i = n := by omega
      go_wp2
      go_ret
      exact ⟨_, rfl, ho, hb⟩
theorem prtL_mem {n s i : Nat} {x : Int} (h : x ∈ prtL n s i) : ∃ p : Nat, x = (p : Int) ∧ p < i := by
  unfold prtL at h
  simp only [List.mem_map, List.mem_filter, List.mem_range] at h
  obtain ⟨p, ⟨hp, _⟩, rfl⟩ := h
  exact ⟨p, rfl, hp⟩
def pick (list : List Int) (ps : List Int) : List Int := ps.map fun i => list.getD i.toNat 0
def digsL (list : List Int) (s : Nat) : List Int := pick list (prtL list.length s list.length)
theorem l7Digits_c (v : Value) (list : List Int) (s : Nat) (w : World) (hv : Ints w v list) (hn : list.length ≤ 10) (hs : s < 1024) : Calls Try.prog 134 #[v, .int .i64 (s : Int)] w fun e w' => ∃ u, e = .returned u ∧ w'.ownsRow w.heap.size 3 1 u (digsL list s).length (ints (digsL list s)) ∧ Below w.heap.size w w' := by
  obtain ⟨inf, hi, hz0, hz1, hz2⟩ := info_parts info_int
  have ho0 := World.ownsRow_lit (e := 3) (size := 1) (base := w.heap.size) w #[] 0 (Nat.le_refl _) (by decide) rfl
  have hb0 := below_one (w := w) (.cells #[] 3)
  obtain ⟨a, c, rfl, _, _, HL⟩ := hv.parts
  clear hv
  go_enter Try.func134, Try.ntmps134
  go_wp2_with fail
  refine (l5Part_c list.length s _ hn hs).mono ?_
  rintro e w1 ⟨u, rfl, hou, hb1⟩
  have ho1 := own_keep ho0 hb1
  have hb2 := Below.chain hb0 hb1
  have hM : Hid (∀ x ∈ prtL list.length s list.length, ∃ p : Nat, x = (p : Int) ∧ p < list.length) := fun x hx => prtL_mem hx
  have hple := prtL_le list.length s list.length
  have HD : Hid (digsL list s = pick list (prtL list.length s list.length)) := rfl
  generalize prtL list.length s list.length = ps at *
  obtain ⟨a2, c2, rfl, _, _, HP⟩ := (Ints.of_own hou).parts
  have hPl := hou.lt
  simp only [World.size_alloc] at hPl
  have hP1 := Ints.of_own hou
  have hdis0 : ∀ g, (Value.slice (some ⟨w.heap.size, 0, none⟩) 0 0).ownBlock = some g → g = w.heap.size ∨ w1.heap.size ≤ g := fun g hg => .inl (by simp [Value.ownBlock] at hg; exact hg.symm)
  clear hou ho0 hb0 hb1
  go_wp2
  go_loopw [5, 7] (fun o j wr => ∃ i : Nat, i ≤ ps.length ∧ j = .int .i64 (i : Int) ∧ wr.ownsRow w.heap.size 3 1 o i (ints (pick list (ps.take i))) ∧ Below w.heap.size w wr ∧ Hid (Ints wr (.slice a2 ps.length c2) ps) ∧ Hid (∀ g, o.ownBlock = some g → g = w.heap.size ∨ w1.heap.size ≤ g) ∧ w1.heap.size ≤ wr.heap.size) (fun _ j _ => ps.length - (intOf j).toNat)
  case atStart => exact ⟨0, by omega, rfl, ho1, hb2, hP1, hdis0, Nat.le_refl _⟩
  case round =>
    obtain ⟨i, hi1, rfl, ho, hb, hI, hdis, hsz⟩ := hrel
    clear ho1 hb2 hP1 hdis0
    by_cases hlt : i < ps.length
    · have hd : decide ((i : Int) < (ps.length : Int)) = true := by simp; omega
      obtain ⟨x, hx⟩ := elem_at hlt
      obtain ⟨p, rfl, hpl⟩ := hM.out x (List.mem_of_getElem? hx.out)
      obtain ⟨y, hy⟩ := elem_at hpl
      obtain ⟨a3, c3, e3, _, _, HPr⟩ := hI.out.parts
      injection e3 with e3 _ e4
      subst e3 e4
      obtain ⟨b1, o1, rfl, g1⟩ := HPr.out i _ hx.out
      obtain ⟨b2, o2, rfl, f2⟩ := HL.out p y hy.out
      have g2 := cell_later hb f2
      have HS : Hid (pick list (ps.take (i + 1)) = pick list (ps.take i) ++ [y]) := by
        show _ = _
        unfold pick
        rw [take_snoc hx.out, List.map_append]
        have := hy.out
        simp [List.getD, this]
      clear HPr f2
      generalize hcur : pick list (ps.take i) = cur at *
      go_wp2_with (at_builtin; refine wpList_append_own_at _ rfl _ _ 24 rfl w.heap.size 3 inf (.int .i64 0) 1 8 Try.underlying24 hi hz0 hz1 hz2 rfl (by decide) _ i (ints cur) rfl (ho.alloc _) ⟨wr.heap.size, 0, none⟩ 1 1 [.int .i64 y] rfl rfl (news_new _ [.int .i64 y] _) (by simp [Value.oneCell']) (by unfold maxLen; omega) (by omega) (by have := hb.size; simp; omega) ?_)
      intro v' w3 ho5 hg5 _ hat
      have hb7 : Below w.heap.size w w3 := (Below.alc hb _).grown hg5 (by have := hb.size; simp; omega) (fun g hg => (ho.lt g hg).1)
      have hI7 : Hid (Ints w3 (.slice (some ⟨b1, o1, none⟩) ps.length c2) ps) := Ints.grown (hI.out.below (below_one _)) hg5 (by
        right; intro e
        have h1 := hPl b1 rfl
        rcases hdis.out b1 e.symm with h2 | h2 <;> omega)
      have hd7 : Hid (∀ g, v'.ownBlock = some g → g = w.heap.size ∨ w1.heap.size ≤ g) := fun g hg => by
        rcases hat with h | h
        · exact hdis.out g (by rw [← h]; exact hg)
        · right
          rw [hg] at h
          injection h with h
          (try simp at h); omega
      have hsz7 : w1.heap.size ≤ w3.heap.size := Nat.le_trans (by simp; omega) hg5.size
      clear ho hb hg5 hI hdis g1 g2 hat
      go_wp2
      go_roundw
      case rel => exact ⟨i + 1, by omega, by go_num, by rw [HS.out]; exact ownsRow_cast ho5 rfl (by simp), hb7, hI7, hd7, hsz7⟩
      case measure => simp [intOf]; omega
    · obtain rfl : i = ps.length := by omega
      rw [List.take_length] at ho
      have hl : (digsL list s).length = ps.length := by rw [HD.out]; simp [pick]
      have HO : Hid (wr.ownsRow w.heap.size 3 1 u5 (digsL list s).length (ints (digsL list s))) := ownsRow_cast ho hl.symm (by rw [HD.out])
      clear ho hl
      go_wp2
      go_ret
      exact ⟨_, rfl, HO.out, hb⟩
end Go.Proofs.Ytlipkplomndjcaa
