/- Texts of this claim, gathered: States, States2, Frac, Cft, Cft2, Cft3. -/
import Derived.Test.YtlipkplomndjcaaGreatK3
namespace Go.Proofs.YtlipkplomndjcaaGreat
open Go.RowKit
set_option linter.unusedVariables false
set_option maxRecDepth 100000

theorem info_State : (Tryz.prog.info? 35).map (fun i => (i.zero, i.size, i.bytes)) = some (some (.agg #[.int .i64 0, .int .i64 0]), 2, 16) := by kernel_rfl

theorem states_c (fn : Nat) (cap : Array Value) (q : Int × Int → Bool) (w : World) (hf : CallsIt fn)
    (hp : ∀ (bar kind : Int) (w' : World), stateB bar kind = true → Below w.heap.size w w' → Calls Tryz.prog fn (#[.agg #[.int .i64 bar, .int .i64 kind]] ++ cap) w' fun e w'' => e = .returned (.bool (q (bar, kind))) ∧ Below w'.heap.size w' w'') :
    Calls Tryz.prog 48 #[.func (.func fn) #[] cap] w fun e w' => ∃ v, e = .returned v ∧ w'.ownsRow w.heap.size 35 2 v (allSt.filter q).length (flat2 (allSt.filter q)) ∧ Below w.heap.size w w' := by
  obtain ⟨i, hi, hz0, hz1, hz2⟩ := info_parts info_State
  have hf' : ∀ (bs : Array Value) (w : World), (callFunc fn bs).run Tryz.prog w = .ok (.enter fn bs) w := hf
  go_enter Tryz.func48, Tryz.ntmps48
  go_wp2
  go_loopw [3, 4, 5, 6] (fun v i _ _ wr => ∃ k : Nat, k ≤ 3 ∧ i = .int .i64 k ∧ wr.ownsRow w.heap.size 35 2 v (gridTo q (7 * k)).length (flat2 (gridTo q (7 * k))) ∧ Below w.heap.size w wr) (fun _ i _ _ _ => 3 - (intOf i).toNat)
  case atStart => exact ⟨0, by omega, rfl, World.ownsRow_nil _ _ _ _, Below.refl _ _⟩
  case round =>
    obtain ⟨k, hk, rfl, ho, hb⟩ := hrel
    by_cases hlt : k ≤ 2
    · have hd : decide ((k : Int) ≤ 2) = true := by simp; omega
      go_wp2
      go_loopw [3, 11, 5, 6] (fun v i _ _ wr => ∃ b : Nat, b ≤ 7 ∧ i = .int .i64 b ∧ wr.ownsRow w.heap.size 35 2 v (gridTo q (7 * k + b)).length (flat2 (gridTo q (7 * k + b))) ∧ Below w.heap.size w wr) (fun _ i _ _ _ => 7 - (intOf i).toNat)
      case atStart => exact ⟨0, by omega, rfl, ho, hb⟩
      case round =>
        obtain ⟨b, hbl, rfl, ho2, hb2⟩ := hrel
        clear ho hb
        by_cases hlt2 : b < 7
        · have hd2 : decide ((b : Int) < 7) = true := by simp; omega
          have hg := grid_at (show k < 3 by omega) hlt2
          have hs := gridTo_succ q hg
          have hle := gridTo_le q (7 * k + b)
          generalize gridTo q (7 * k + b) = cur at *
          have HS := Lib.hid hs; clear hs hg
          go_wp2_with fail
          refine (IsState_c (b : Int) (k : Int) _).mono ?_
          rintro e w1 ⟨rfl, hb3⟩
          rcases hst : stateB (b : Int) (k : Int) with _ | _
          · have HT := Lib.hid hst; clear hst
            go_wp2
            go_roundw
            case rel => exact ⟨b + 1, by omega, by go_num, by
              have e1 : gridTo q (7 * k + (b + 1)) = cur := by rw [← Nat.add_assoc, HS.out]; simp [stB, HT.out]
              rw [e1]
              exact (ho2.alloc _).kept (Below.gr hb3) (by cases Value.ownBlock _ <;> simp), by (repeat (first | exact Below.refl _ _ | exact (Below.refl _ _).drew | assumption | exact below_one _ | refine Below.chain ?_ (by assumption) | refine Below.drew ?_ | refine Below.alc ?_ _ | refine below_drewN ?_ | (refine Below.setCell ?_ ?_ _) | exact Nat.le_refl _ | (simp; done) | (simp; omega)))⟩
            case measure => simp [intOf]; omega
          · have HT := Lib.hid hst; clear hst
            have c0 : w1.cell? ⟨wr.heap.size, 0, none⟩ = some (.int .i64 b) := by
              rw [(bcell hb3).1 _ _ (by simp), World.cell?_alloc_at _ _ _ _ rfl]; rfl
            have c1 : w1.cell? ⟨wr.heap.size, 1, none⟩ = some (.int .i64 k) := by
              rw [(bcell hb3).1 _ _ (by simp), World.cell?_alloc_at _ _ _ _ rfl]; rfl
            have hb4 : Below w.heap.size w w1 := by (repeat (first | exact Below.refl _ _ | exact (Below.refl _ _).drew | assumption | exact below_one _ | refine Below.chain ?_ (by assumption) | refine Below.drew ?_ | refine Below.alc ?_ _ | refine below_drewN ?_ | (refine Below.setCell ?_ ?_ _) | exact Nat.le_refl _ | (simp; done) | (simp; omega)))
            have ho3 : w1.ownsRow w.heap.size 35 2 _ cur.length (flat2 cur) := (ho2.alloc _).kept (Below.gr hb3) (by cases Value.ownBlock _ <;> simp)
            clear ho2 hb3 hb2
            go_wp2_with fail
            refine (hp (b : Int) (k : Int) _ HT.out hb4).mono ?_
            rintro e w2 ⟨rfl, hb5⟩
            have d0 : w2.cell? ⟨wr.heap.size, 0, none⟩ = some (.int .i64 b) := cell_later hb5 c0
            have d1 : w2.cell? ⟨wr.heap.size, 1, none⟩ = some (.int .i64 k) := cell_later hb5 c1
            have hb6 : Below w.heap.size w w2 := by (repeat (first | exact Below.refl _ _ | exact (Below.refl _ _).drew | assumption | exact below_one _ | refine Below.chain ?_ (by assumption) | refine Below.drew ?_ | refine Below.alc ?_ _ | refine below_drewN ?_ | (refine Below.setCell ?_ ?_ _) | exact Nat.le_refl _ | (simp; done) | (simp; omega)))
            have ho4 : w2.ownsRow w.heap.size 35 2 _ cur.length (flat2 cur) := ho3.kept (Below.gr hb5) (by cases Value.ownBlock _ <;> simp)
            clear ho3 hb5 hb4 c0 c1
            rcases hq : q ((b : Int), (k : Int)) with _ | _
            · have HQ := Lib.hid hq; clear hq
              go_wp2
              go_roundw
              case rel => exact ⟨b + 1, by omega, by go_num, by
                have e1 : gridTo q (7 * k + (b + 1)) = cur := by rw [← Nat.add_assoc, HS.out]; simp [stB, HQ.out]
                rw [e1]; exact ho4, hb6⟩
              case measure => simp [intOf]; omega
            · have HQ := Lib.hid hq; clear hq
              go_wp2_with (at_builtin; refine wpList_append_own _ rfl _ _ 26 rfl w.heap.size 35 i (.agg #[.int .i64 0, .int .i64 0]) 2 16 Tryz.underlying26 hi hz0 hz1 hz2 rfl (by decide) _ cur.length (flat2 cur) rfl (ho4.alloc _) ⟨w2.heap.size, 0, none⟩ 1 1 [.int .i64 b, .int .i64 k] rfl rfl (news_new _ [.int .i64 b, .int .i64 k] _) (by simp [Value.oneCell']) (by unfold maxLen; omega) (by omega) (by have := hb6.size; simp; omega) ?_)
              intro v' w3 ho5 hg5 _
              have hb7 : Below w.heap.size w w3 := (Below.alc hb6 _).grown hg5 (by have := hb6.size; simp; omega) (fun g hg => (ho4.lt g hg).1)
              clear ho4 hb6 hg5
              go_wp2
              go_roundw
              case rel => exact ⟨b + 1, by omega, by go_num, by
                have e1 : gridTo q (7 * k + (b + 1)) = cur ++ [((b : Int), (k : Int))] := by rw [← Nat.add_assoc, HS.out]; simp [stB, HQ.out, HT.out]
                rw [e1]; exact ownsRow_cast ho5 (by simp) (flat2_snoc _ _ _).symm, hb7⟩
              case measure => simp [intOf]; omega
        · obtain rfl : b = 7 := by omega
          go_wp2
          go_roundw
          case rel => exact ⟨k + 1, by omega, by go_num, by rw [show 7 * (k + 1) = 7 * k + 7 by omega]; exact ho2, hb2⟩
          case measure => simp [intOf]; omega
    · obtain rfl : k = 3 := by omega
      go_wp2
      go_ret
      have e := gridTo_all q
      exact ⟨_, rfl, by rw [← e]; exact ho, hb⟩

/-- the states that a test finds, and those that it does not find -/
def foundSt (xs : List Int) : List (Int × Int) := allSt.filter fun s => decide (0 ≤ placeOf s.1 s.2 xs)
def hiddenSt (xs : List Int) : List (Int × Int) := allSt.filter fun s => s.2 != 0 && decide (placeOf s.1 s.2 xs < 0)
theorem allSt_length : allSt.length = 15 := by decide
theorem shC_zero {c : Int} (h0 : 0 ≤ c) (h1 : c ≤ 127) : shC 0 0 c = c := by
  have : ∀ n : Fin 128, ((n.1 &&& 127) ||| 0 : Nat) = n.1 := by decide +kernel
  obtain ⟨n, rfl⟩ := Int.eq_ofNat_of_zero_le h0
  have := this ⟨n, by omega⟩
  simp only [shC, Int.toNat_natCast, Int.toNat_zero] at this ⊢
  exact congrArg Int.ofNat this
theorem placeOf_good (xs : List Int) : placeOf 0 0 xs = -1 := by
  unfold placeOf
  apply firstAt_none (k := xs.length) (Nat.le_refl _)
  intro j x _ _
  have := dg_bd x
  simp [finds, stD, stL, shC_zero this.1 this.2]
theorem allSt_cons : allSt = (0, 0) :: allSt.drop 1 := by decide
theorem allSt_kind : ∀ s ∈ allSt.drop 1, (s.2 != 0) = true := by decide
theorem foundSt_eq (xs : List Int) : foundSt xs = (allSt.drop 1).filter fun s => decide (0 ≤ placeOf s.1 s.2 xs) == true := by
  unfold foundSt
  rw [allSt_cons, List.filter_cons]
  simp [placeOf_good]
theorem hiddenSt_eq (xs : List Int) : hiddenSt xs = (allSt.drop 1).filter fun s => decide (0 ≤ placeOf s.1 s.2 xs) == false := by
  unfold hiddenSt
  rw [allSt_cons, List.filter_cons]
  simp only [bne_self_eq_false, Bool.false_and, Bool.false_eq_true, if_false, List.drop_succ_cons, List.drop_zero]
  apply List.filter_congr
  intro s hs
  rw [allSt_kind s hs]
  by_cases h : placeOf s.1 s.2 xs < 0
  · simp [h]
  · simp [h]; omega
theorem found_hidden (xs : List Int) : (foundSt xs).length + (hiddenSt xs).length = 14 := by
  rw [foundSt_eq, hiddenSt_eq]
  have h : ∀ (l : List (Int × Int)) (p : Int × Int → Bool), (l.filter fun s => p s == true).length + (l.filter fun s => p s == false).length = l.length := by
    intro l p
    induction l with
    | nil => rfl
    | cons a l ih => cases hp : p a <;> simp [hp] at ih ⊢ <;> omega
  rw [h]; decide
def fullB (xs : List Int) : Bool := decide ((foundSt xs).length = 14)
theorem fullB_hidden (xs : List Int) : fullB xs = decide ((hiddenSt xs).length = 0) := by
  have := found_hidden xs
  unfold fullB
  by_cases h : (hiddenSt xs).length = 0
  · rw [decide_eq_true h, decide_eq_true (by omega)]
  · rw [decide_eq_false h, decide_eq_false (by omega)]

theorem found_c (v : Value) (xs : List Int) (w : World) (hv : Ints w v xs) (ht : testB xs = true) :
    Calls Tryz.prog 45 #[v] w fun e w' => ∃ u, e = .returned u ∧ w'.ownsRow w.heap.size 35 2 u (foundSt xs).length (flat2 (foundSt xs)) ∧ Below w.heap.size w w' := by
  obtain ⟨a, c, rfl, _, _, _⟩ := hv.parts
  have hc : ∀ w' : World, Below (w.alloc (.cells #[.slice a xs.length c] 24)).heap.size (w.alloc (.cells #[.slice a xs.length c] 24)) w' → w'.cell? ⟨w.heap.size, 0, none⟩ = some (.slice a xs.length c) := fun w' hb => by
    rw [(bcell hb).1 _ _ (by simp), World.cell?_alloc_at _ _ _ _ rfl]; rfl
  have HC := Lib.hid hc; clear hc
  go_enter Tryz.func45, Tryz.ntmps45
  go_wp2_with fail
  refine (states_c 93 #[.pointer (some ⟨w.heap.size, 0, none⟩)] (fun s => decide (0 ≤ placeOf s.1 s.2 xs)) _ (fun _ _ => by kernel_rfl) ?_).mono ?_
  · intro bar kind w1 hst hb
    have hc := HC.out w1 hb
    have hz : w.heap.size < w1.heap.size := World.block_lt_of_cell? w1 _ hc
    have hv1 : Ints w1 _ xs := (hv.below (below_one _)).below hb
    go_enter Tryz.func93, Tryz.ntmps93
    go_wp2_with fail
    refine (finding_c _ xs bar kind _ (hv1.below (below_one _)) hst ht).mono ?_
    rintro e w2 ⟨rfl, hb2⟩
    go_wp2
    go_ret
    exact ⟨bool_ret (by simp), by (repeat (first | exact Below.refl _ _ | exact (Below.refl _ _).drew | assumption | exact below_one _ | refine Below.chain ?_ (by assumption) | refine Below.drew ?_ | refine Below.alc ?_ _ | refine below_drewN ?_ | (refine Below.setCell ?_ ?_ _) | exact Nat.le_refl _ | (simp; done) | (simp; omega)))⟩
  · rintro e w1 ⟨u, rfl, ho, hb⟩
    have ho' : w1.ownsRow w.heap.size 35 2 u (foundSt xs).length (flat2 (foundSt xs)) := own_lo ho (by simp)
    go_wp2
    go_ret
    exact ⟨u, rfl, ho', (below_one _).trans (hb.mono (by simp))⟩
theorem isFull_c (v : Value) (xs : List Int) (w : World) (hv : Ints w v xs) (ht : testB xs = true) :
    Calls Tryz.prog 51 #[v] w fun e w' => e = .returned (.bool (fullB xs)) ∧ Below w.heap.size w w' := by
  go_enter Tryz.func51, Tryz.ntmps51
  go_wp2_with fail
  refine (found_c v xs _ hv ht).mono ?_
  rintro e w1 ⟨u, rfl, ho, hb⟩
  obtain ⟨a, c, rfl, _⟩ := (Sl.of_own ho).slice
  go_wp2
  go_ret
  refine ⟨bool_ret ?_, hb⟩
  unfold fullB
  rw [Bool.eq_iff_iff]; simp; omega
/-- what the reference's list of all states has behind its first k kinds and b bars -/
def allTo (m : Nat) : List (Int × Int) := (0, 0) :: (grid.drop 7).take m
theorem allTo_succ_fin : ∀ (k : Fin 2) (b : Fin 7), allTo (7 * k.1 + b.1 + 1) = allTo (7 * k.1 + b.1) ++ [((b.1 : Int), (k.1 : Int) + 1)] := by decide
theorem allTo_le (m : Nat) : (allTo m).length ≤ 15 := by
  unfold allTo
  simp [grid]; omega
theorem l7All_c (w : World) : Calls Tryz.prog 80 #[] w fun e w' => ∃ v, e = .returned v ∧ w'.ownsRow w.heap.size 35 2 v allSt.length (flat2 allSt) ∧ Below w.heap.size w w' := by
  obtain ⟨i, hi, hz0, hz1, hz2⟩ := info_parts info_State
  have ho0 := World.ownsRow_lit (e := 35) (size := 2) (base := w.heap.size) w #[.int .i64 0, .int .i64 0] 1 (Nat.le_refl _) (by decide) rfl
  go_enter Tryz.func80, Tryz.ntmps80
  go_wp2
  go_loopw [1, 2, 3] (fun v i _ wr => ∃ k : Nat, k ≤ 2 ∧ i = .int .i64 ((k : Int) + 1) ∧ wr.ownsRow w.heap.size 35 2 v (allTo (7 * k)).length (flat2 (allTo (7 * k))) ∧ Below w.heap.size w wr) (fun _ i _ _ => 4 - (intOf i).toNat)
  case atStart => exact ⟨0, by omega, rfl, ho0, below_one _⟩
  case round =>
    obtain ⟨k, hk, rfl, ho, hb⟩ := hrel
    clear ho0
    by_cases hlt : k < 2
    · have hd : decide ((k : Int) + 1 ≤ 2) = true := by simp; omega
      go_wp2
      go_loopw [1, 3] (fun v i wr => ∃ b : Nat, b ≤ 7 ∧ i = .int .i64 b ∧ wr.ownsRow w.heap.size 35 2 v (allTo (7 * k + b)).length (flat2 (allTo (7 * k + b))) ∧ Below w.heap.size w wr) (fun _ i _ => 7 - (intOf i).toNat)
      case atStart => exact ⟨0, by omega, rfl, ho, hb⟩
      case round =>
        obtain ⟨b, hbl, rfl, ho2, hb2⟩ := hrel
        clear ho hb
        by_cases hlt2 : b < 7
        · have hd2 : decide ((b : Int) < 7) = true := by simp; omega
          have hs := allTo_succ_fin ⟨k, hlt⟩ ⟨b, hlt2⟩
          have hle := allTo_le (7 * k + b)
          simp only at hs
          generalize allTo (7 * k + b) = cur at *
          have HS := Lib.hid hs; clear hs
          go_wp2_with (at_builtin; refine wpList_append_own _ rfl _ _ 26 rfl w.heap.size 35 i (.agg #[.int .i64 0, .int .i64 0]) 2 16 Tryz.underlying26 hi hz0 hz1 hz2 rfl (by decide) _ cur.length (flat2 cur) rfl (ho2.alloc _) ⟨wr.heap.size, 0, none⟩ 1 1 [.int .i64 b, .int .i64 ((k : Int) + 1)] rfl rfl (news_new _ [.int .i64 b, .int .i64 ((k : Int) + 1)] _) (by simp [Value.oneCell']) (by unfold maxLen; omega) (by omega) (by have := hb2.size; simp; omega) ?_)
          intro v' w3 ho5 hg5 _
          have hb7 : Below w.heap.size w w3 := (Below.alc hb2 _).grown hg5 (by have := hb2.size; simp; omega) (fun g hg => (ho2.lt g hg).1)
          clear ho2 hb2 hg5
          go_wp2
          go_roundw
          case rel => exact ⟨b + 1, by omega, by go_num, by rw [← Nat.add_assoc, HS.out]; exact ownsRow_cast ho5 (by simp) (flat2_snoc _ _ _).symm, hb7⟩
          case measure => simp [intOf]; omega
        · obtain rfl : b = 7 := by omega
          go_wp2
          go_roundw
          case rel => exact ⟨k + 1, by omega, by go_num, by rw [show 7 * (k + 1) = 7 * k + 7 by omega]; exact ho2, hb2⟩
          case measure => simp [intOf]; omega
    · obtain rfl : k = 2 := by omega
      go_wp2
      go_ret
      exact ⟨_, rfl, ho, hb⟩
/-- the states but the good one that a test finds (f), or does not find, among the first m -/
def l7F (xs : List Int) (f : Bool) (m : Nat) : List (Int × Int) := ((allSt.drop 1).take m).filter fun s => decide (0 ≤ placeOf s.1 s.2 xs) == f
theorem l7F_zero (xs : List Int) (f : Bool) : l7F xs f 0 = [] := rfl
theorem l7F_le (xs : List Int) (f : Bool) (m : Nat) : (l7F xs f m).length ≤ 14 :=
  Nat.le_trans (List.length_filter_le _ _) (by rw [List.length_take]; simp [allSt, grid]; omega)
theorem l7F_succ (xs : List Int) (f : Bool) {m : Nat} {s : Int × Int} (hs : allSt[m + 1]? = some s) : l7F xs f (m + 1) = l7F xs f m ++ if decide (0 ≤ placeOf s.1 s.2 xs) == f then [s] else [] := by
  have hs2 : (allSt.drop 1)[m]? = some s := by rw [List.getElem?_drop, Nat.add_comm]; exact hs
  unfold l7F
  rw [take_snoc hs2, List.filter_append]
  cases hq : (decide (0 ≤ placeOf s.1 s.2 xs) == f) <;> simp [hq]
theorem l7F_found (xs : List Int) : l7F xs true 14 = foundSt xs := by rw [foundSt_eq]; rfl
theorem l7F_hidden (xs : List Int) : l7F xs false 14 = hiddenSt xs := by rw [hiddenSt_eq]; rfl
theorem allSt_ok : ∀ s ∈ allSt, stateB s.1 s.2 = true := by decide
theorem l7Found_c (v : Value) (xs : List Int) (f : Bool) (w : World) (hv : Ints w v xs) (ht : testB xs = true) :
    Calls Tryz.prog 47 #[v, .bool f] w fun e w' => ∃ u, e = .returned u ∧ w'.ownsRow w.heap.size 35 2 u (l7F xs f 14).length (flat2 (l7F xs f 14)) ∧ Below w.heap.size w w' := by
  obtain ⟨i, hi, hz0, hz1, hz2⟩ := info_parts info_State
  have ho0 := World.ownsRow_lit (e := 35) (size := 2) (base := w.heap.size) w #[] 0 (Nat.le_refl _) (by decide) rfl
  go_enter Tryz.func47, Tryz.ntmps47
  go_wp2_with fail
  refine (l7All_c _).mono ?_
  rintro e w1 ⟨u, rfl, hoA, hbA⟩
  obtain ⟨g, cap, hu, hg0, hg1, _, _⟩ := own_form hoA (by rw [allSt_length]; omega)
  have hA : Pairs w1 u allSt := Pairs.of_own hoA
  have ho1 := ho0.kept (Below.gr hbA) (by cases Value.ownBlock _ <;> simp)
  have hb1 : Below w.heap.size w w1 := (below_one _).trans (hbA.mono (by simp))
  have hl15 : allSt.length = 15 := allSt_length
  rw [hl15] at hu
  subst hu
  have hgw : w.heap.size < g := by simp at hg0; omega
  have hm := hv.le
  clear hoA hbA ho0 hg0 hl15
  go_wp2
  go_loopw [5, 7] (fun o j wr => ∃ k : Nat, k ≤ 14 ∧ j = .int .i64 ((k : Int) + 1) ∧ wr.ownsRow w.heap.size 35 2 o (l7F xs f k).length (flat2 (l7F xs f k)) ∧ Below w.heap.size w wr ∧ Pairs wr (.slice (some ⟨g, 0, none⟩) 15 cap) allSt ∧ o.ownBlock ≠ some g ∧ g < wr.heap.size) (fun _ j _ => 16 - (intOf j).toNat)
  case atStart => exact ⟨0, by omega, rfl, ho1, hb1, hA, by simp [Value.ownBlock]; omega, hg1⟩
  case round =>
    obtain ⟨k, hk, rfl, ho, hb, hP, hne, hgl⟩ := hrel
    clear ho1 hb1 hA
    by_cases hlt : k < 14
    · have hlt15 : (k : Int) + 1 < 15 := by omega
      obtain ⟨s, hs⟩ := elem_at (show k + 1 < allSt.length by rw [allSt_length]; omega)
      have hok := allSt_ok s (List.mem_of_getElem? hs.out)
      obtain ⟨a0, c0, he, _, _, HA⟩ := hP.parts
      obtain ⟨b2, off2, e2, g0, g1⟩ := HA.out _ _ hs.out
      obtain ⟨rfl, rfl⟩ : b2 = g ∧ off2 = 0 := by
        rw [e2] at he; injection he with h1 _ _; injection h1 with h1; injection h1 with h1 h2 _; exact ⟨h1.symm, h2.symm⟩
      clear he HA e2
      simp only [Nat.zero_add] at g0 g1
      obtain ⟨bar, kind⟩ := s
      have hv1 : Ints wr v xs := hv.below hb
      have hsc := l7F_succ xs f hs.out
      have hle := l7F_le xs f k
      generalize l7F xs f k = cur at *
      have HS := Lib.hid hsc; clear hsc
      have hd : decide ((k : Int) + 1 < 15) = true := by simp; omega
      go_wp2_with fail
      refine (l7Place_c v xs bar kind _ hv1 hok ht).mono ?_
      rintro e w2 ⟨rfl, hb2⟩
      have g02 := cell_later hb2 g0
      have g12 := cell_later hb2 g1
      have hb3 : Below w.heap.size w w2 := by (repeat (first | exact Below.refl _ _ | exact (Below.refl _ _).drew | assumption | exact below_one _ | refine Below.chain ?_ (by assumption) | refine Below.drew ?_ | refine Below.alc ?_ _ | refine below_drewN ?_ | (refine Below.setCell ?_ ?_ _) | exact Nat.le_refl _ | (simp; done) | (simp; omega)))
      have ho2 := ho.kept (Below.gr hb2) (by cases Value.ownBlock _ <;> simp)
      have hP2 := hP.below hb2
      have hgl2 : b2 < w2.heap.size := Nat.lt_of_lt_of_le hgl hb2.size
      clear ho hb hP hgl g0 g1 hb2 hv1
      rcases hq : (decide (0 ≤ placeOf bar kind xs) == f) with _ | _
      · have hS2 : l7F xs f (k + 1) = cur := by rw [HS.out]; simp [hq]
        have HS2 := Lib.hid hS2; clear hS2 HS
        go_wp2
        go_roundw
        case rel => exact ⟨k + 1, by omega, by go_num, by rw [HS2.out]; exact ho2, hb3, hP2, hne, hgl2⟩
        case measure => simp [intOf]; omega
      · have hS2 : l7F xs f (k + 1) = cur ++ [(bar, kind)] := by rw [HS.out]; simp [hq]
        have HS2 := Lib.hid hS2; clear hS2 HS
        go_wp2_with (at_builtin; refine wpList_append_own_at _ rfl _ _ 26 rfl w.heap.size 35 i (.agg #[.int .i64 0, .int .i64 0]) 2 16 Tryz.underlying26 hi hz0 hz1 hz2 rfl (by decide) _ cur.length (flat2 cur) rfl (ho2.alloc _) ⟨w2.heap.size, 0, none⟩ 1 1 [.int .i64 bar, .int .i64 kind] rfl rfl (news_new _ [.int .i64 bar, .int .i64 kind] _) (by simp [Value.oneCell']) (by unfold maxLen; omega) (by omega) (by have := hb3.size; simp; omega) ?_)
        intro v' w3 ho5 hg5 _ hat
        have hb7 : Below w.heap.size w w3 := (Below.alc hb3 _).grown hg5 (by have := hb3.size; simp; omega) (fun g hg => (ho2.lt g hg).1)
        have hP3 : Pairs w3 (.slice (some ⟨b2, 0, none⟩) 15 cap) allSt := (hP2.below (below_one _)).grown hg5 (.inr (by simpa [Value.ownBlock] using (Ne.symm hne)))
        have hne3 : v'.ownBlock ≠ some b2 := by
          rcases hat with h | h
          · rw [h]; exact hne
          · rw [h]; simp; omega
        have hgl3 : b2 < w3.heap.size := Nat.lt_of_lt_of_le (by simp; omega) hg5.size
        clear ho2 hb3 hP2 hne hgl2 hg5 hat g02 g12
        go_wp2
        go_roundw
        case rel => exact ⟨k + 1, by omega, by go_num, by rw [HS2.out]; exact ownsRow_cast ho5 (by simp) (flat2_snoc _ _ _).symm, hb7, hP3, hne3, hgl3⟩
        case measure => simp [intOf]; omega
    · obtain rfl : k = 14 := by omega
      go_wp2
      go_ret
      exact ⟨_, rfl, ho, hb⟩
theorem l7Full_c (v : Value) (xs : List Int) (w : World) (hv : Ints w v xs) (ht : testB xs = true) :
    Calls Tryz.prog 52 #[v] w fun e w' => e = .returned (.bool (fullB xs)) ∧ Below w.heap.size w w' := by
  go_enter Tryz.func52, Tryz.ntmps52
  go_wp2_with fail
  refine (l7Found_c v xs false _ hv ht).mono ?_
  rintro e w1 ⟨u, rfl, ho, hb⟩
  obtain ⟨a, c, rfl, _⟩ := (Sl.of_own ho).slice
  go_wp2
  go_ret
  refine ⟨bool_ret ?_, hb⟩
  rw [fullB_hidden, ← l7F_hidden, Bool.eq_iff_iff]; simp
/-- what both texts of IsFullTest return -/
def isFullV (xs : List Int) : Value := .tuple #[.bool (testB xs && fullB xs), .bool (testB xs)]
theorem IsFullTest_c (v : Value) (xs : List Int) (w : World) (hv : Ints w v xs) :
    Calls Tryz.prog 11 #[v] w fun e w' => e = .returned (isFullV xs) ∧ Below w.heap.size w w' := by
  rcases ht : testB xs with _ | _
  · have HF0 : isFullV xs = .tuple #[.bool false, .bool false] := by simp [isFullV, ht]
    have HF := Lib.hid HF0; clear HF0; have HT := Lib.hid ht; clear ht
    go_enter Tryz.func11, Tryz.ntmps11
    go_wp2_with fail
    refine (isTest_c v xs _ hv).mono ?_
    rintro e w1 ⟨rfl, hb1⟩
    rw [HT.out]
    go_wp2
    go_ret2
    exact ⟨by rw [HF.out]; rfl, by (repeat (first | exact Below.refl _ _ | exact (Below.refl _ _).drew | assumption | exact below_one _ | refine Below.chain ?_ (by assumption) | refine Below.drew ?_ | refine Below.alc ?_ _ | refine below_drewN ?_ | (refine Below.setCell ?_ ?_ _) | exact Nat.le_refl _ | (simp; done) | (simp; omega)))⟩
  · have HF0 : isFullV xs = .tuple #[.bool (fullB xs), .bool true] := by simp [isFullV, ht]
    have HF := Lib.hid HF0; clear HF0; have HT := Lib.hid ht; clear ht
    go_enter Tryz.func11, Tryz.ntmps11
    go_wp2_with fail
    refine (isTest_c v xs _ hv).mono ?_
    rintro e w1 ⟨rfl, hb1⟩
    rw [HT.out]
    go_wp2_with fail
    refine (isFull_c v xs _ (hv.below hb1) HT.out).mono ?_
    rintro e w2 ⟨rfl, hb2⟩
    go_wp2
    go_ret2
    exact ⟨by rw [HF.out]; rfl, by (repeat (first | exact Below.refl _ _ | exact (Below.refl _ _).drew | assumption | exact below_one _ | refine Below.chain ?_ (by assumption) | refine Below.drew ?_ | refine Below.alc ?_ _ | refine below_drewN ?_ | (refine Below.setCell ?_ ?_ _) | exact Nat.le_refl _ | (simp; done) | (simp; omega)))⟩
theorem sIsFullTest_c (v : Value) (xs : List Int) (w : World) (hv : Ints w v xs) :
    Calls Tryz.prog 12 #[v] w fun e w' => e = .returned (isFullV xs) ∧ Below w.heap.size w w' := by
  rcases ht : testB xs with _ | _
  · have HF0 : isFullV xs = .tuple #[.bool false, .bool false] := by simp [isFullV, ht]
    have HF := Lib.hid HF0; clear HF0; have HT := Lib.hid ht; clear ht
    go_enter Tryz.func12, Tryz.ntmps12
    go_wp2_with fail
    refine (l7Test_c v xs _ hv).mono ?_
    rintro e w1 ⟨rfl, hb1⟩
    rw [HT.out]
    go_wp2
    go_ret2
    exact ⟨by rw [HF.out]; rfl, by (repeat (first | exact Below.refl _ _ | exact (Below.refl _ _).drew | assumption | exact below_one _ | refine Below.chain ?_ (by assumption) | refine Below.drew ?_ | refine Below.alc ?_ _ | refine below_drewN ?_ | (refine Below.setCell ?_ ?_ _) | exact Nat.le_refl _ | (simp; done) | (simp; omega)))⟩
  · have HF0 : isFullV xs = .tuple #[.bool (fullB xs), .bool true] := by simp [isFullV, ht]
    have HF := Lib.hid HF0; clear HF0; have HT := Lib.hid ht; clear ht
    go_enter Tryz.func12, Tryz.ntmps12
    go_wp2_with fail
    refine (l7Test_c v xs _ hv).mono ?_
    rintro e w1 ⟨rfl, hb1⟩
    rw [HT.out]
    go_wp2_with fail
    refine (l7Full_c v xs _ (hv.below hb1) HT.out).mono ?_
    rintro e w2 ⟨rfl, hb2⟩
    go_wp2
    go_ret2
    exact ⟨by rw [HF.out]; rfl, by (repeat (first | exact Below.refl _ _ | exact (Below.refl _ _).drew | assumption | exact below_one _ | refine Below.chain ?_ (by assumption) | refine Below.drew ?_ | refine Below.alc ?_ _ | refine below_drewN ?_ | (refine Below.setCell ?_ ?_ _) | exact Nat.le_refl _ | (simp; done) | (simp; omega)))⟩
end Go.Proofs.YtlipkplomndjcaaGreat
namespace Go.Proofs.YtlipkplomndjcaaGreat
open Go.RowKit
set_option linter.unusedVariables false
set_option maxRecDepth 100000
/-- a list that is told if the test is valid, else none -/
def toldSt (xs : List Int) (l : List (Int × Int)) : List (Int × Int) := if testB xs then l else []
theorem toldSt_le (xs : List Int) (l : List (Int × Int)) (h : l.length ≤ 15) : (toldSt xs l).length ≤ 15 := by
  unfold toldSt; split
  · exact h
  · simp
theorem foundSt_le (xs : List Int) : (foundSt xs).length ≤ 15 := Nat.le_trans (List.length_filter_le _ _) (by decide)
theorem hiddenSt_le (xs : List Int) : (hiddenSt xs).length ≤ 15 := Nat.le_trans (List.length_filter_le _ _) (by decide)
/-- the post of both texts: a slice of the call's own with the list, and the bool -/
def StPost (w : World) (xs : List Int) (l : List (Int × Int)) (e : Ending) (w' : World) : Prop :=
  ∃ u, e = .returned (.tuple #[u, .bool (testB xs)]) ∧ w'.ownsRow w.heap.size 35 2 u (toldSt xs l).length (flat2 (toldSt xs l)) ∧ Below w.heap.size w w'
theorem StPost.no {w w' : World} {xs : List Int} {l : List (Int × Int)} {u : Value} (ht : testB xs = false) (ho : w'.ownsRow w.heap.size 35 2 u 0 []) (hb : Below w.heap.size w w') : StPost w xs l (.returned (.tuple #[u, .bool false])) w' := by
  refine ⟨u, by rw [ht], ?_, hb⟩
  simpa [toldSt, ht, flat2_nil] using ho
theorem StPost.yes {w w' : World} {xs : List Int} {l : List (Int × Int)} {u : Value} (ht : testB xs = true) (ho : w'.ownsRow w.heap.size 35 2 u l.length (flat2 l)) (hb : Below w.heap.size w w') : StPost w xs l (.returned (.tuple #[u, .bool true])) w' := by
  refine ⟨u, by rw [ht], ?_, hb⟩
  simpa [toldSt, ht] using ho
theorem FoundStates_c (v : Value) (xs : List Int) (w : World) (hv : Ints w v xs) : Calls Tryz.prog 7 #[v] w (StPost w xs (foundSt xs)) := by
  rcases ht : testB xs with _ | _
  · have HT := Lib.hid ht; clear ht
    go_enter Tryz.func7, Tryz.ntmps7
    go_wp2_with fail
    refine (isTest_c v xs _ hv).mono ?_
    rintro e w1 ⟨rfl, hb1⟩
    rw [HT.out]
    go_wp2
    go_ret2
    exact StPost.no HT.out (World.ownsRow_nil _ _ _ _) (by (repeat (first | exact Below.refl _ _ | exact (Below.refl _ _).drew | assumption | exact below_one _ | refine Below.chain ?_ (by assumption) | refine Below.drew ?_ | refine Below.alc ?_ _ | refine below_drewN ?_ | (refine Below.setCell ?_ ?_ _) | exact Nat.le_refl _ | (simp; done) | (simp; omega))))
  · have HT := Lib.hid ht; clear ht
    go_enter Tryz.func7, Tryz.ntmps7
    go_wp2_with fail
    refine (isTest_c v xs _ hv).mono ?_
    rintro e w1 ⟨rfl, hb1⟩
    rw [HT.out]
    go_wp2_with fail
    refine (found_c v xs _ (hv.below hb1) HT.out).mono ?_
    rintro e w2 ⟨u, rfl, ho, hb2⟩
    go_wp2
    go_ret2
    exact StPost.yes HT.out (own_lo ho hb1.size) (by (repeat (first | exact Below.refl _ _ | exact (Below.refl _ _).drew | assumption | exact below_one _ | refine Below.chain ?_ (by assumption) | refine Below.drew ?_ | refine Below.alc ?_ _ | refine below_drewN ?_ | (refine Below.setCell ?_ ?_ _) | exact Nat.le_refl _ | (simp; done) | (simp; omega))))
theorem sFoundStates_c (v : Value) (xs : List Int) (w : World) (hv : Ints w v xs) : Calls Tryz.prog 8 #[v] w (StPost w xs (foundSt xs)) := by
  rcases ht : testB xs with _ | _
  · have HT := Lib.hid ht; clear ht
    go_enter Tryz.func8, Tryz.ntmps8
    go_wp2_with fail
    refine (l7Test_c v xs _ hv).mono ?_
    rintro e w1 ⟨rfl, hb1⟩
    rw [HT.out]
    go_wp2
    go_ret2
    exact StPost.no HT.out (own_lo (World.ownsRow_lit (e := 35) (size := 2) (base := w1.heap.size) w1 #[] 0 (Nat.le_refl _) (by decide) rfl) hb1.size) (by (repeat (first | exact Below.refl _ _ | exact (Below.refl _ _).drew | assumption | exact below_one _ | refine Below.chain ?_ (by assumption) | refine Below.drew ?_ | refine Below.alc ?_ _ | refine below_drewN ?_ | (refine Below.setCell ?_ ?_ _) | exact Nat.le_refl _ | (simp; done) | (simp; omega))))
  · have HT := Lib.hid ht; clear ht
    go_enter Tryz.func8, Tryz.ntmps8
    go_wp2_with fail
    refine (l7Test_c v xs _ hv).mono ?_
    rintro e w1 ⟨rfl, hb1⟩
    rw [HT.out]
    go_wp2_with fail
    refine (l7Found_c v xs true _ (hv.below hb1) HT.out).mono ?_
    rintro e w2 ⟨u, rfl, ho, hb2⟩
    rw [l7F_found] at ho
    go_wp2
    go_ret2
    exact StPost.yes HT.out (own_lo ho hb1.size) (by (repeat (first | exact Below.refl _ _ | exact (Below.refl _ _).drew | assumption | exact below_one _ | refine Below.chain ?_ (by assumption) | refine Below.drew ?_ | refine Below.alc ?_ _ | refine below_drewN ?_ | (refine Below.setCell ?_ ?_ _) | exact Nat.le_refl _ | (simp; done) | (simp; omega))))
theorem HiddenStates_c (v : Value) (xs : List Int) (w : World) (hv : Ints w v xs) : Calls Tryz.prog 9 #[v] w (StPost w xs (hiddenSt xs)) := by
  obtain ⟨a, c, rfl, _, _, _⟩ := hv.parts
  have hc0 : (w.alloc (.cells #[.slice a xs.length c] 24)).cell? ⟨w.heap.size, 0, none⟩ = some (.slice a xs.length c) := by
    rw [World.cell?_alloc_at _ _ _ _ rfl]; rfl
  have hv0 : Ints (w.alloc (.cells #[.slice a xs.length c] 24)) _ xs := hv.below (below_one _)
  rcases ht : testB xs with _ | _
  · have HT := Lib.hid ht; clear ht
    go_enter Tryz.func9, Tryz.ntmps9
    go_wp2_with fail
    refine (isTest_c _ xs _ hv0).mono ?_
    rintro e w1 ⟨rfl, hb1⟩
    rw [HT.out]
    go_wp2
    go_ret2
    exact StPost.no HT.out (World.ownsRow_nil _ _ _ _) (by (repeat (first | exact Below.refl _ _ | exact (Below.refl _ _).drew | assumption | exact below_one _ | refine Below.chain ?_ (by assumption) | refine Below.drew ?_ | refine Below.alc ?_ _ | refine below_drewN ?_ | (refine Below.setCell ?_ ?_ _) | exact Nat.le_refl _ | (simp; done) | (simp; omega))))
  · have HT := Lib.hid ht; clear ht
    go_enter Tryz.func9, Tryz.ntmps9
    go_wp2_with fail
    refine (isTest_c _ xs _ hv0).mono ?_
    rintro e w1 ⟨rfl, hb1⟩
    rw [HT.out]
    have hc1 := cell_later hb1 hc0
    have hv1 : Ints w1 _ xs := hv0.below hb1
    have hb01 : Below w.heap.size w w1 := by (repeat (first | exact Below.refl _ _ | exact (Below.refl _ _).drew | assumption | exact below_one _ | refine Below.chain ?_ (by assumption) | refine Below.drew ?_ | refine Below.alc ?_ _ | refine below_drewN ?_ | (refine Below.setCell ?_ ?_ _) | exact Nat.le_refl _ | (simp; done) | (simp; omega)))
    clear hc0 hv0 hb1
    go_wp2_with fail
    refine (states_c 49 #[.pointer (some ⟨w.heap.size, 0, none⟩)] (fun s => s.2 != 0 && decide (placeOf s.1 s.2 xs < 0)) _ (fun _ _ => by kernel_rfl) ?_).mono ?_
    · intro bar kind w2 hst hb
      have hc := cell_later hb hc1
      have hz : w.heap.size < w2.heap.size := World.block_lt_of_cell? w2 _ hc
      have hv2 : Ints w2 _ xs := hv1.below hb
      rcases hk : (kind != 0) with _ | _
      · go_enter Tryz.func49, Tryz.ntmps49
        go_wp2_with fail
        go_ret
        exact ⟨bool_ret (by simp), by (repeat (first | exact Below.refl _ _ | exact (Below.refl _ _).drew | assumption | exact below_one _ | refine Below.chain ?_ (by assumption) | refine Below.drew ?_ | refine Below.alc ?_ _ | refine below_drewN ?_ | (refine Below.setCell ?_ ?_ _) | exact Nat.le_refl _ | (simp; done) | (simp; omega)))⟩
      · go_enter Tryz.func49, Tryz.ntmps49
        go_wp2_with fail
        refine (finding_c _ xs bar kind _ (hv2.below (below_one _)) hst HT.out).mono ?_
        rintro e w3 ⟨rfl, hb3⟩
        go_wp2
        go_ret
        exact ⟨bool_ret (by simp), by (repeat (first | exact Below.refl _ _ | exact (Below.refl _ _).drew | assumption | exact below_one _ | refine Below.chain ?_ (by assumption) | refine Below.drew ?_ | refine Below.alc ?_ _ | refine below_drewN ?_ | (refine Below.setCell ?_ ?_ _) | exact Nat.le_refl _ | (simp; done) | (simp; omega)))⟩
    · rintro e w2 ⟨u, rfl, ho, hb⟩
      have ho' : w2.ownsRow w.heap.size 35 2 u (hiddenSt xs).length (flat2 (hiddenSt xs)) := own_lo ho hb01.size
      go_wp2
      go_ret2
      exact StPost.yes HT.out ho' (by (repeat (first | exact Below.refl _ _ | exact (Below.refl _ _).drew | assumption | exact below_one _ | refine Below.chain ?_ (by assumption) | refine Below.drew ?_ | refine Below.alc ?_ _ | refine below_drewN ?_ | (refine Below.setCell ?_ ?_ _) | exact Nat.le_refl _ | (simp; done) | (simp; omega))))
theorem sHiddenStates_c (v : Value) (xs : List Int) (w : World) (hv : Ints w v xs) : Calls Tryz.prog 10 #[v] w (StPost w xs (hiddenSt xs)) := by
  rcases ht : testB xs with _ | _
  · have HT := Lib.hid ht; clear ht
    go_enter Tryz.func10, Tryz.ntmps10
    go_wp2_with fail
    refine (l7Test_c v xs _ hv).mono ?_
    rintro e w1 ⟨rfl, hb1⟩
    rw [HT.out]
    go_wp2
    go_ret2
    exact StPost.no HT.out (own_lo (World.ownsRow_lit (e := 35) (size := 2) (base := w1.heap.size) w1 #[] 0 (Nat.le_refl _) (by decide) rfl) hb1.size) (by (repeat (first | exact Below.refl _ _ | exact (Below.refl _ _).drew | assumption | exact below_one _ | refine Below.chain ?_ (by assumption) | refine Below.drew ?_ | refine Below.alc ?_ _ | refine below_drewN ?_ | (refine Below.setCell ?_ ?_ _) | exact Nat.le_refl _ | (simp; done) | (simp; omega))))
  · have HT := Lib.hid ht; clear ht
    go_enter Tryz.func10, Tryz.ntmps10
    go_wp2_with fail
    refine (l7Test_c v xs _ hv).mono ?_
    rintro e w1 ⟨rfl, hb1⟩
    rw [HT.out]
    go_wp2_with fail
    refine (l7Found_c v xs false _ (hv.below hb1) HT.out).mono ?_
    rintro e w2 ⟨u, rfl, ho, hb2⟩
    rw [l7F_hidden] at ho
    go_wp2
    go_ret2
    exact StPost.yes HT.out (own_lo ho hb1.size) (by (repeat (first | exact Below.refl _ _ | exact (Below.refl _ _).drew | assumption | exact below_one _ | refine Below.chain ?_ (by assumption) | refine Below.drew ?_ | refine Below.alc ?_ _ | refine below_drewN ?_ | (refine Below.setCell ?_ ?_ _) | exact Nat.le_refl _ | (simp; done) | (simp; omega))))
end Go.Proofs.YtlipkplomndjcaaGreat
namespace Go.Proofs.YtlipkplomndjcaaGreat
open Go.RowKit
set_option linter.unusedVariables false
set_option maxRecDepth 100000
def fracN (a b : Nat) : Int := ((a / Nat.gcd a b : Nat) : Int)
def fracD (a b : Nat) : Int := ((b / Nat.gcd a b : Nat) : Int)
def fracV (a b : Nat) : Value := .agg #[.int .i64 (fracN a b), .int .i64 (fracD a b)]
theorem wrapK (n : Int) : IntKind.i64.wrap n = wrap64 n := by
  simp only [IntKind.wrap, IntKind.bits, IntKind.signed, wrap64]; simp; split <;> omega
end Go.Proofs.YtlipkplomndjcaaGreat
namespace Go.Proofs.YtlipkplomndjcaaGreat
open Go.RowKit
set_option linter.unusedVariables false
set_option maxRecDepth 100000
def cfP (k : Int) (xs : List Int) : Bool := ((xs.length : Int) == k) && fullB xs
def cfN (k : Int) (done : List (List Int)) : Nat := (done.filter (cfP k)).length
theorem cfN_snoc (k : Int) (done : List (List Int)) (part : List Int) : cfN k (done ++ [part]) = cfN k done + if cfP k part then 1 else 0 := by
  unfold cfN; rw [List.filter_append, List.length_append]
  cases h : cfP k part <;> simp [h]
structure CfI (kb m : Nat) (k : Int) (done : List (List Int)) (w : World) : Prop where
  ck : w.cell? ⟨kb, 0, none⟩ = some (.int .i64 k)
  cm : w.cell? ⟨m, 0, none⟩ = some (.int .i64 (IntKind.i64.wrap (cfN k done : Nat)))
  fm : w.frozen? ⟨m, 0, none⟩ = false
  ne : kb ≠ m
theorem wrap_succ (n : Nat) : IntKind.i64.wrap (IntKind.i64.wrap (n : Int) + 1) = IntKind.i64.wrap ((n + 1 : Nat) : Int) := by
  simp only [IntKind.wrap, IntKind.bits, IntKind.signed]; simp; omega
/-- how many parts of a set that are full have so many digits: by the bits of a number, or by leaving the last one open -/
def cfA (k : Int) : Nat := cfN k (subsL tenI)
def cfV (k : Int) : Value := .tuple #[.int .i64 (if inB k 0 10 then (cfA k : Int) else 0), .bool (inB k 0 10)]
theorem loopE_len : ∀ (l part : List Int), (loopE l part).length + 1 = 2 ^ l.length
  | [], _ => rfl
  | x :: t, part => by
    have h1 := loopE_len t (part ++ [x])
    have h2 := loopE_len t part
    simp only [loopE, List.length_append, List.length_cons, Nat.pow_succ] at h1 h2 ⊢
    omega
theorem cfA_le (k : Int) : cfA k ≤ 1024 := by
  unfold cfA cfN
  refine Nat.le_trans (List.length_filter_le _ _) ?_
  have := loopE_len tenI []
  unfold subsL
  simp only [List.length_cons]
  rw [this]; decide
def tenA : Array Value := #[.int .i64 0, .int .i64 1, .int .i64 2, .int .i64 3, .int .i64 4, .int .i64 5, .int .i64 6, .int .i64 7, .int .i64 8, .int .i64 9]
theorem tenA_eq : tenA.toList = ints tenI := rfl
end Go.Proofs.YtlipkplomndjcaaGreat
namespace Go.Proofs.YtlipkplomndjcaaGreat
open Go.RowKit
set_option linter.unusedVariables false
set_option maxRecDepth 100000
def bitB (s j : Nat) : Bool := (s / 2 ^ j) % 2 == 1
theorem bit_i64 (s j : Nat) (hs : s < 1024) : bits BinOp.and IntKind.i64 ((s : Int) / 2 ^ j) 1 = ((s / 2 ^ j % 2 : Nat) : Int) := by
  have h := Nat.div_le_self s (2 ^ j)
  have e : ((s : Int) / 2 ^ j) = ((s / 2 ^ j : Nat) : Int) := by simp
  rw [e, show (1 : Int) = ((1 : Nat) : Int) from rfl, i64_and_nat _ _ (by omega) (by omega), Nat.and_one_is_mod]
def prtL (n s i : Nat) : List Int := ((List.range i).filter fun j => bitB s (n - 1 - j)).map fun j => ((j : Nat) : Int)
theorem prtL_succ (n s i : Nat) : prtL n s (i + 1) = prtL n s i ++ if bitB s (n - 1 - i) then [(i : Int)] else [] := by
  unfold prtL
  rw [List.range_succ, List.filter_append, List.map_append]
  cases h : bitB s (n - 1 - i) <;> simp [h]
theorem prtL_le (n s i : Nat) : (prtL n s i).length ≤ i := by
  unfold prtL; rw [List.length_map]; exact Nat.le_trans (List.length_filter_le _ _) (by simp)
theorem l5Part_c (n s : Nat) (w : World) (hn : n ≤ 10) (hs : s < 1024) : Calls Tryz.prog 101 #[.int .i64 (n : Int), .int .i64 (s : Int)] w fun e w' => ∃ u, e = .returned u ∧ w'.ownsRow w.heap.size 3 1 u (prtL n s n).length (ints (prtL n s n)) ∧ Below w.heap.size w w' := by
  obtain ⟨inf, hi, hz0, hz1, hz2⟩ := info_parts info_int
  have ho0 := World.ownsRow_lit (e := 3) (size := 1) (base := w.heap.size) w #[] 0 (Nat.le_refl _) (by decide) rfl
  go_enter Tryz.func101, Tryz.ntmps101
  go_wp2
  go_loopw [5, 6] (fun o j wr => ∃ i : Nat, i ≤ n ∧ j = .int .i64 (i : Int) ∧ wr.ownsRow w.heap.size 3 1 o (prtL n s i).length (ints (prtL n s i)) ∧ Below w.heap.size w wr) (fun _ j _ => n - (intOf j).toNat)
  case atStart => exact ⟨0, by omega, rfl, ho0, by (repeat (first | exact Below.refl _ _ | exact (Below.refl _ _).drew | assumption | exact below_one _ | refine Below.chain ?_ (by assumption) | refine Below.drew ?_ | refine Below.alc ?_ _ | refine below_drewN ?_ | (refine Below.setCell ?_ ?_ _) | exact Nat.le_refl _ | (simp; done) | (simp; omega)))⟩
  case round =>
    obtain ⟨i, hi1, rfl, ho, hb⟩ := hrel
    clear ho0
    by_cases hlt : i < n
    · have hd : decide ((i : Int) < (n : Int)) = true := by simp; omega
      have hS := prtL_succ n s i
      have hle := prtL_le n s i
      have hnn : ¬ ((n : Int) - 1 - (i : Int) < 0) := by omega
      generalize prtL n s i = cur at *
      have HS := Lib.hid hS; clear hS
      have hbit := bit_i64 s (n - 1 - i) hs
      rcases hq : bitB s (n - 1 - i) with _ | _
      · have h1 : s / 2 ^ (n - 1 - i) % 2 = 0 := by unfold bitB at hq; simp at hq; omega
        rw [h1] at hbit
        have HS2 := Lib.hid (show prtL n s (i + 1) = cur by rw [HS.out, hq]; simp)
        clear HS hq h1
        go_wp2
        go_roundw
        case rel => exact ⟨i + 1, by omega, by go_num, by rw [HS2.out]; exact ho, hb⟩
        case measure => simp [intOf]; omega
      · have h1 : s / 2 ^ (n - 1 - i) % 2 = 1 := by unfold bitB at hq; simpa using hq
        rw [h1] at hbit
        have HS2 := Lib.hid (show prtL n s (i + 1) = cur ++ [(i : Int)] by rw [HS.out, hq]; simp)
        clear HS hq h1
        go_wp2_with (at_builtin; refine wpList_append_own_at _ rfl _ _ 24 rfl w.heap.size 3 inf (.int .i64 0) 1 8 Tryz.underlying24 hi hz0 hz1 hz2 rfl (by decide) _ cur.length (ints cur) rfl (ho.alloc _) ⟨wr.heap.size, 0, none⟩ 1 1 [.int .i64 i] rfl rfl (news_new _ [.int .i64 i] _) (by simp [Value.oneCell']) (by unfold maxLen; omega) (by omega) (by have := hb.size; simp; omega) ?_)
        intro v' w3 ho5 hg5 _ _
        have hb7 : Below w.heap.size w w3 := (Below.alc hb _).grown hg5 (by have := hb.size; simp; omega) (fun g hg => (ho.lt g hg).1)
        clear ho hb hg5
        go_wp2
        go_roundw
        case rel => exact ⟨i + 1, by omega, by go_num, by rw [HS2.out]; exact ownsRow_cast ho5 (by simp) (by simp), hb7⟩
        case measure => simp [intOf]; omega
    · obtain rfl : i = n := by omega
      go_wp2
      go_ret
      exact ⟨_, rfl, ho, hb⟩
theorem prtL_mem {n s i : Nat} {x : Int} (h : x ∈ prtL n s i) : ∃ p : Nat, x = (p : Int) ∧ p < i := by
  unfold prtL at h
  simp only [List.mem_map, List.mem_filter, List.mem_range] at h
  obtain ⟨p, ⟨hp, _⟩, rfl⟩ := h
  exact ⟨p, rfl, hp⟩
def pick (list : List Int) (ps : List Int) : List Int := ps.map fun i => list.getD i.toNat 0
def digsL (list : List Int) (s : Nat) : List Int := pick list (prtL list.length s list.length)
theorem l7Digits_c (v : Value) (list : List Int) (s : Nat) (w : World) (hv : Ints w v list) (hn : list.length ≤ 10) (hs : s < 1024) : Calls Tryz.prog 61 #[v, .int .i64 (s : Int)] w fun e w' => ∃ u, e = .returned u ∧ w'.ownsRow w.heap.size 3 1 u (digsL list s).length (ints (digsL list s)) ∧ Below w.heap.size w w' := by
  obtain ⟨inf, hi, hz0, hz1, hz2⟩ := info_parts info_int
  have ho0 := World.ownsRow_lit (e := 3) (size := 1) (base := w.heap.size) w #[] 0 (Nat.le_refl _) (by decide) rfl
  have hb0 := below_one (w := w) (.cells #[] 3)
  obtain ⟨a, c, rfl, _, _, HL⟩ := hv.parts
  clear hv
  go_enter Tryz.func61, Tryz.ntmps61
  go_wp2_with fail
  refine (l5Part_c list.length s _ hn hs).mono ?_
  rintro e w1 ⟨u, rfl, hou, hb1⟩
  have ho1 := own_keep ho0 hb1
  have hb2 := Below.chain hb0 hb1
  have hM : Hid (∀ x ∈ prtL list.length s list.length, ∃ p : Nat, x = (p : Int) ∧ p < list.length) := fun x hx => prtL_mem hx
  have hple := prtL_le list.length s list.length
  have HD : Hid (digsL list s = pick list (prtL list.length s list.length)) := rfl
  generalize prtL list.length s list.length = ps at *
  obtain ⟨a2, c2, rfl, _, _, HP⟩ := (Ints.of_own hou).parts
  have hPl := hou.lt
  simp only [World.size_alloc] at hPl
  have hP1 := Ints.of_own hou
  have hdis0 : ∀ g, (Value.slice (some ⟨w.heap.size, 0, none⟩) 0 0).ownBlock = some g → g = w.heap.size ∨ w1.heap.size ≤ g := fun g hg => .inl (by simp [Value.ownBlock] at hg; exact hg.symm)
  clear hou ho0 hb0 hb1
  go_wp2
  go_loopw [5, 7] (fun o j wr => ∃ i : Nat, i ≤ ps.length ∧ j = .int .i64 (i : Int) ∧ wr.ownsRow w.heap.size 3 1 o i (ints (pick list (ps.take i))) ∧ Below w.heap.size w wr ∧ Hid (Ints wr (.slice a2 ps.length c2) ps) ∧ Hid (∀ g, o.ownBlock = some g → g = w.heap.size ∨ w1.heap.size ≤ g) ∧ w1.heap.size ≤ wr.heap.size) (fun _ j _ => ps.length - (intOf j).toNat)
  case atStart => exact ⟨0, by omega, rfl, ho1, hb2, hP1, hdis0, Nat.le_refl _⟩
  case round =>
    obtain ⟨i, hi1, rfl, ho, hb, hI, hdis, hsz⟩ := hrel
    clear ho1 hb2 hP1 hdis0
    by_cases hlt : i < ps.length
    · have hd : decide ((i : Int) < (ps.length : Int)) = true := by simp; omega
      obtain ⟨x, hx⟩ := elem_at hlt
      obtain ⟨p, rfl, hpl⟩ := hM.out x (List.mem_of_getElem? hx.out)
      obtain ⟨y, hy⟩ := elem_at hpl
      obtain ⟨a3, c3, e3, _, _, HPr⟩ := hI.out.parts
      injection e3 with e3 _ e4
      subst e3 e4
      obtain ⟨b1, o1, rfl, g1⟩ := HPr.out i _ hx.out
      obtain ⟨b2, o2, rfl, f2⟩ := HL.out p y hy.out
      have g2 := cell_later hb f2
      have HS : Hid (pick list (ps.take (i + 1)) = pick list (ps.take i) ++ [y]) := by
        show _ = _
        unfold pick
        rw [take_snoc hx.out, List.map_append]
        have := hy.out
        simp [List.getD, this]
      clear HPr f2
      generalize hcur : pick list (ps.take i) = cur at *
      go_wp2_with (at_builtin; refine wpList_append_own_at _ rfl _ _ 24 rfl w.heap.size 3 inf (.int .i64 0) 1 8 Tryz.underlying24 hi hz0 hz1 hz2 rfl (by decide) _ i (ints cur) rfl (ho.alloc _) ⟨wr.heap.size, 0, none⟩ 1 1 [.int .i64 y] rfl rfl (news_new _ [.int .i64 y] _) (by simp [Value.oneCell']) (by unfold maxLen; omega) (by omega) (by have := hb.size; simp; omega) ?_)
      intro v' w3 ho5 hg5 _ hat
      have hb7 : Below w.heap.size w w3 := (Below.alc hb _).grown hg5 (by have := hb.size; simp; omega) (fun g hg => (ho.lt g hg).1)
      have hI7 : Hid (Ints w3 (.slice (some ⟨b1, o1, none⟩) ps.length c2) ps) := Ints.grown (hI.out.below (below_one _)) hg5 (by
        right; intro e
        have h1 := hPl b1 rfl
        rcases hdis.out b1 e.symm with h2 | h2 <;> omega)
      have hd7 : Hid (∀ g, v'.ownBlock = some g → g = w.heap.size ∨ w1.heap.size ≤ g) := fun g hg => by
        rcases hat with h | h
        · exact hdis.out g (by rw [← h]; exact hg)
        · right
          rw [hg] at h
          injection h with h
          (try simp at h); omega
      have hsz7 : w1.heap.size ≤ w3.heap.size := Nat.le_trans (by simp; omega) hg5.size
      clear ho hb hg5 hI hdis g1 g2 hat
      go_wp2
      go_roundw
      case rel => exact ⟨i + 1, by omega, by go_num, by rw [HS.out]; exact ownsRow_cast ho5 rfl (by simp), hb7, hI7, hd7, hsz7⟩
      case measure => simp [intOf]; omega
    · obtain rfl : i = ps.length := by omega
      rw [List.take_length] at ho
      have hl : (digsL list s).length = ps.length := by rw [HD.out]; simp [pick]
      have HO : Hid (wr.ownsRow w.heap.size 3 1 u5 (digsL list s).length (ints (digsL list s))) := ownsRow_cast ho hl.symm (by rw [HD.out])
      clear ho hl
      go_wp2
      go_ret
      exact ⟨_, rfl, HO.out, hb⟩
end Go.Proofs.YtlipkplomndjcaaGreat
namespace Go.Proofs.YtlipkplomndjcaaGreat
open Go.RowKit
set_option linter.unusedVariables false
theorem bit_low {m s j : Nat} (hs : s < 2 ^ m) (hj : j < m) : bitB (2 ^ m + s) j = bitB s j := by
  unfold bitB
  have e : 2 ^ m = 2 ^ j * (2 * 2 ^ (m - j - 1)) := by
    rw [← Nat.mul_assoc, ← Nat.pow_succ, ← Nat.pow_add]; congr 1; omega
  rw [e, Nat.mul_add_div (Nat.two_pow_pos j)]
  congr 1
  omega
theorem bit_top {m s : Nat} (hs : s < 2 ^ m) : bitB s m = false ∧ bitB (2 ^ m + s) m = true := by
  unfold bitB
  rw [Nat.div_eq_of_lt hs]
  refine ⟨rfl, ?_⟩
  rw [show 2 ^ m + s = s + 2 ^ m * 1 by omega, Nat.add_mul_div_left _ _ (Nat.two_pow_pos m), Nat.div_eq_of_lt hs]
  rfl
theorem prtL_cons (m s : Nat) : prtL (m + 1) s (m + 1) = (if bitB s m then [(0 : Int)] else []) ++ (prtL m s m).map (· + 1) := by
  unfold prtL
  rw [List.range_succ_eq_map, List.filter_cons]
  have e : ∀ j, m + 1 - 1 - (j + 1) = m - 1 - j := fun j => by omega
  have hf : ((List.range m).map Nat.succ).filter (fun j => bitB s (m + 1 - 1 - j)) = ((List.range m).filter fun j => bitB s (m - 1 - j)).map Nat.succ := by
    rw [List.filter_map]
    congr 1
    apply List.filter_congr
    intro j _
    show bitB s (m + 1 - 1 - (j + 1)) = _
    rw [e]
  rw [hf]
  cases h : bitB s (m + 1 - 1 - 0) <;> simp at h <;> simp [h, List.map_map]
theorem prtL_same {m s s' : Nat} (h : ∀ j, j < m → bitB s j = bitB s' j) : prtL m s m = prtL m s' m := by
  unfold prtL
  congr 1
  apply List.filter_congr
  intro j hj
  rw [List.mem_range] at hj
  exact h _ (by omega)
theorem pick_succ (x : Int) (t : List Int) (m s i : Nat) : pick (x :: t) ((prtL m s i).map (· + 1)) = pick t (prtL m s i) := by
  unfold pick
  rw [List.map_map]
  apply List.map_congr_left
  intro y hy
  obtain ⟨p, rfl, _⟩ := prtL_mem hy
  show (x :: t).getD ((p : Int) + 1).toNat 0 = _
  rw [show ((p : Int) + 1).toNat = p + 1 by omega]
  simp
theorem digsL_low {x : Int} {t : List Int} {s : Nat} (hs : s < 2 ^ t.length) : digsL (x :: t) s = digsL t s := by
  unfold digsL
  rw [List.length_cons, prtL_cons, (bit_top hs).1]
  exact pick_succ x t _ _ _
theorem digsL_high {x : Int} {t : List Int} {s : Nat} (hs : s < 2 ^ t.length) : digsL (x :: t) (2 ^ t.length + s) = x :: digsL t s := by
  unfold digsL
  rw [List.length_cons, prtL_cons, (bit_top hs).2, prtL_same (fun j hj => bit_low hs hj)]
  have h1 := pick_succ x t t.length s t.length
  have h2 : pick (x :: t) ([(0 : Int)] ++ (prtL t.length s t.length).map (· + 1)) = x :: pick (x :: t) ((prtL t.length s t.length).map (· + 1)) := by
    unfold pick; rw [List.map_append]; rfl
  rw [if_pos rfl, h2, h1]
theorem cnt_parts (p : List Int → Bool) : ∀ (l part : List Int), ((part :: loopE l part).filter p).length = ((List.range (2 ^ l.length)).filter fun s => p (part ++ digsL l s)).length
  | [], part => by
    simp [loopE, digsL, pick, prtL, List.filter_cons]
    cases p part <;> rfl
  | x :: t, part => by
    have h1 := cnt_parts p t (part ++ [x])
    have h2 := cnt_parts p t part
    have e : List.range (2 ^ (x :: t).length) = List.range (2 ^ t.length) ++ (List.range (2 ^ t.length)).map (2 ^ t.length + ·) := by
      rw [List.length_cons, Nat.pow_succ, Nat.mul_two, List.range_add]
    rw [e, List.filter_append, List.length_append, List.filter_map, List.length_map]
    have f1 : (List.range (2 ^ t.length)).filter (fun s => p (part ++ digsL (x :: t) s)) = (List.range (2 ^ t.length)).filter (fun s => p (part ++ digsL t s)) := by
      apply List.filter_congr
      intro s hs
      rw [digsL_low (List.mem_range.1 hs)]
    have f2 : (List.range (2 ^ t.length)).filter ((fun s => p (part ++ digsL (x :: t) s)) ∘ (2 ^ t.length + ·)) = (List.range (2 ^ t.length)).filter (fun s => p ((part ++ [x]) ++ digsL t s)) := by
      apply List.filter_congr
      intro s hs
      show p (part ++ digsL (x :: t) (2 ^ t.length + s)) = _
      rw [digsL_high (List.mem_range.1 hs)]; simp
    rw [f1, f2, ← h1, ← h2]
    simp only [loopE, List.filter_cons, List.filter_append]
    split <;> split <;> simp <;> omega
theorem cfA_bits (k : Int) : cfA k = ((List.range 1024).filter fun s => cfP k (digsL tenI s)).length := by
  exact cnt_parts (cfP k) tenI []
end Go.Proofs.YtlipkplomndjcaaGreat
