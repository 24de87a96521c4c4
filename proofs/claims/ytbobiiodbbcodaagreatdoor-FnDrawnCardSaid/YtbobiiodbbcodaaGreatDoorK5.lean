/- Texts of this claim, gathered: States, States2, Drawn, Drawn2. -/
import Derived.Test.YtbobiiodbbcodaaGreatDoorK4
namespace Go.Proofs.YtbobiiodbbcodaaGreatDoor
open Go.RowKit
set_option linter.unusedVariables false
set_option maxRecDepth 100000

theorem info_State : (Tryz.prog.info? 75).map (fun i => (i.zero, i.size, i.bytes)) = some (some (.agg #[.int .i64 0, .int .i64 0]), 2, 16) := by kernel_rfl

theorem states_c (fn : Nat) (cap : Array Value) (q : Int × Int → Bool) (w : World) (hf : CallsIt fn)
    (hp : ∀ (bar kind : Int) (w' : World), stateB bar kind = true → Below w.heap.size w w' → Calls Tryz.prog fn (#[.agg #[.int .i64 bar, .int .i64 kind]] ++ cap) w' fun e w'' => e = .returned (.bool (q (bar, kind))) ∧ Below w'.heap.size w' w'') :
    Calls Tryz.prog 71 #[.func (.func fn) #[] cap] w fun e w' => ∃ v, e = .returned v ∧ w'.ownsRow w.heap.size 75 2 v (allSt.filter q).length (flat2 (allSt.filter q)) ∧ Below w.heap.size w w' := by
  obtain ⟨i, hi, hz0, hz1, hz2⟩ := info_parts info_State
  have hf' : ∀ (bs : Array Value) (w : World), (callFunc fn bs).run Tryz.prog w = .ok (.enter fn bs) w := hf
  go_enter Tryz.func71, Tryz.ntmps71
  go_wp2
  go_loopw [3, 4, 5, 6] (fun v i _ _ wr => ∃ k : Nat, k ≤ 3 ∧ i = .int .i64 k ∧ wr.ownsRow w.heap.size 75 2 v (gridTo q (7 * k)).length (flat2 (gridTo q (7 * k))) ∧ Below w.heap.size w wr) (fun _ i _ _ _ => 3 - (intOf i).toNat)
  case atStart => exact ⟨0, by omega, rfl, World.ownsRow_nil _ _ _ _, Below.refl _ _⟩
  case round =>
    obtain ⟨k, hk, rfl, ho, hb⟩ := hrel
    by_cases hlt : k ≤ 2
    · have hd : decide ((k : Int) ≤ 2) = true := by simp; omega
      go_wp2
      go_loopw [3, 11, 5, 6] (fun v i _ _ wr => ∃ b : Nat, b ≤ 7 ∧ i = .int .i64 b ∧ wr.ownsRow w.heap.size 75 2 v (gridTo q (7 * k + b)).length (flat2 (gridTo q (7 * k + b))) ∧ Below w.heap.size w wr) (fun _ i _ _ _ => 7 - (intOf i).toNat)
      case atStart => exact ⟨0, by omega, rfl, ho, hb⟩
      case round =>
        obtain ⟨b, hbl, rfl, ho2, hb2⟩ := hrel
        clear ho hb
        by_cases hlt2 : b < 7
        · have hd2 : decide ((b : Int) < 7) = true := by simp; omega
          have hg := grid_at (show k < 3 by omega) hlt2
          have hs := gridTo_succ q hg
          have hle := gridTo_le q (7 * k + b)
          generalize gridTo q (7 * k + b) = cur at *
          have HS := Lib.hid hs; clear hs hg
          go_wp2_with fail
          refine (IsState_c (b : Int) (k : Int) _).mono ?_
          rintro e w1 ⟨rfl, hb3⟩
          rcases hst : stateB (b : Int) (k : Int) with _ | _
          · have HT := Lib.hid hst; clear hst
            go_wp2
            go_roundw
            case rel => exact ⟨b + 1, by omega, by go_num, by
              have e1 : gridTo q (7 * k + (b + 1)) = cur := by rw [← Nat.add_assoc, HS.out]; simp [stB, HT.out]
              rw [e1]
              exact (ho2.alloc _).kept (Below.gr hb3) (by cases Value.ownBlock _ <;> simp), by (repeat (first | exact Below.refl _ _ | exact (Below.refl _ _).drew | assumption | exact below_one _ | refine Below.chain ?_ (by assumption) | refine Below.drew ?_ | refine Below.alc ?_ _ | refine below_drewN ?_ | (refine Below.setCell ?_ ?_ _) | exact Nat.le_refl _ | (simp; done) | (simp; omega)))⟩
            case measure => simp [intOf]; omega
          · have HT := Lib.hid hst; clear hst
            have c0 : w1.cell? ⟨wr.heap.size, 0, none⟩ = some (.int .i64 b) := by
              rw [(bcell hb3).1 _ _ (by simp), World.cell?_alloc_at _ _ _ _ rfl]; rfl
            have c1 : w1.cell? ⟨wr.heap.size, 1, none⟩ = some (.int .i64 k) := by
              rw [(bcell hb3).1 _ _ (by simp), World.cell?_alloc_at _ _ _ _ rfl]; rfl
            have hb4 : Below w.heap.size w w1 := by (repeat (first | exact Below.refl _ _ | exact (Below.refl _ _).drew | assumption | exact below_one _ | refine Below.chain ?_ (by assumption) | refine Below.drew ?_ | refine Below.alc ?_ _ | refine below_drewN ?_ | (refine Below.setCell ?_ ?_ _) | exact Nat.le_refl _ | (simp; done) | (simp; omega)))
            have ho3 : w1.ownsRow w.heap.size 75 2 _ cur.length (flat2 cur) := (ho2.alloc _).kept (Below.gr hb3) (by cases Value.ownBlock _ <;> simp)
            clear ho2 hb3 hb2
            go_wp2_with fail
            refine (hp (b : Int) (k : Int) _ HT.out hb4).mono ?_
            rintro e w2 ⟨rfl, hb5⟩
            have d0 : w2.cell? ⟨wr.heap.size, 0, none⟩ = some (.int .i64 b) := cell_later hb5 c0
            have d1 : w2.cell? ⟨wr.heap.size, 1, none⟩ = some (.int .i64 k) := cell_later hb5 c1
            have hb6 : Below w.heap.size w w2 := by (repeat (first | exact Below.refl _ _ | exact (Below.refl _ _).drew | assumption | exact below_one _ | refine Below.chain ?_ (by assumption) | refine Below.drew ?_ | refine Below.alc ?_ _ | refine below_drewN ?_ | (refine Below.setCell ?_ ?_ _) | exact Nat.le_refl _ | (simp; done) | (simp; omega)))
            have ho4 : w2.ownsRow w.heap.size 75 2 _ cur.length (flat2 cur) := ho3.kept (Below.gr hb5) (by cases Value.ownBlock _ <;> simp)
            clear ho3 hb5 hb4 c0 c1
            rcases hq : q ((b : Int), (k : Int)) with _ | _
            · have HQ := Lib.hid hq; clear hq
              go_wp2
              go_roundw
              case rel => exact ⟨b + 1, by omega, by go_num, by
                have e1 : gridTo q (7 * k + (b + 1)) = cur := by rw [← Nat.add_assoc, HS.out]; simp [stB, HQ.out]
                rw [e1]; exact ho4, hb6⟩
              case measure => simp [intOf]; omega
            · have HQ := Lib.hid hq; clear hq
              go_wp2_with (at_builtin; refine wpList_append_own _ rfl _ _ 62 rfl w.heap.size 75 i (.agg #[.int .i64 0, .int .i64 0]) 2 16 Tryz.underlying62 hi hz0 hz1 hz2 rfl (by decide) _ cur.length (flat2 cur) rfl (ho4.alloc _) ⟨w2.heap.size, 0, none⟩ 1 1 [.int .i64 b, .int .i64 k] rfl rfl (news_new _ [.int .i64 b, .int .i64 k] _) (by simp [Value.oneCell']) (by unfold maxLen; omega) (by omega) (by have := hb6.size; simp; omega) ?_)
              intro v' w3 ho5 hg5 _
              have hb7 : Below w.heap.size w w3 := (Below.alc hb6 _).grown hg5 (by have := hb6.size; simp; omega) (fun g hg => (ho4.lt g hg).1)
              clear ho4 hb6 hg5
              go_wp2
              go_roundw
              case rel => exact ⟨b + 1, by omega, by go_num, by
                have e1 : gridTo q (7 * k + (b + 1)) = cur ++ [((b : Int), (k : Int))] := by rw [← Nat.add_assoc, HS.out]; simp [stB, HQ.out, HT.out]
                rw [e1]; exact ownsRow_cast ho5 (by simp) (flat2_snoc _ _ _).symm, hb7⟩
              case measure => simp [intOf]; omega
        · obtain rfl : b = 7 := by omega
          go_wp2
          go_roundw
          case rel => exact ⟨k + 1, by omega, by go_num, by rw [show 7 * (k + 1) = 7 * k + 7 by omega]; exact ho2, hb2⟩
          case measure => simp [intOf]; omega
    · obtain rfl : k = 3 := by omega
      go_wp2
      go_ret
      have e := gridTo_all q
      exact ⟨_, rfl, by rw [← e]; exact ho, hb⟩

/-- the states that a test finds, and those that it does not find -/
def foundSt (xs : List Int) : List (Int × Int) := allSt.filter fun s => decide (0 ≤ placeOf s.1 s.2 xs)
def hiddenSt (xs : List Int) : List (Int × Int) := allSt.filter fun s => s.2 != 0 && decide (placeOf s.1 s.2 xs < 0)
theorem allSt_length : allSt.length = 15 := by decide
theorem shC_zero {c : Int} (h0 : 0 ≤ c) (h1 : c ≤ 127) : shC 0 0 c = c := by
  have : ∀ n : Fin 128, ((n.1 &&& 127) ||| 0 : Nat) = n.1 := by decide +kernel
  obtain ⟨n, rfl⟩ := Int.eq_ofNat_of_zero_le h0
  have := this ⟨n, by omega⟩
  simp only [shC, Int.toNat_natCast, Int.toNat_zero] at this ⊢
  exact congrArg Int.ofNat this
theorem placeOf_good (xs : List Int) : placeOf 0 0 xs = -1 := by
  unfold placeOf
  apply firstAt_none (k := xs.length) (Nat.le_refl _)
  intro j x _ _
  have := dg_bd x
  simp [finds, stD, stL, shC_zero this.1 this.2]
theorem allSt_cons : allSt = (0, 0) :: allSt.drop 1 := by decide
theorem allSt_kind : ∀ s ∈ allSt.drop 1, (s.2 != 0) = true := by decide
theorem foundSt_eq (xs : List Int) : foundSt xs = (allSt.drop 1).filter fun s => decide (0 ≤ placeOf s.1 s.2 xs) == true := by
  unfold foundSt
  rw [allSt_cons, List.filter_cons]
  simp [placeOf_good]
theorem hiddenSt_eq (xs : List Int) : hiddenSt xs = (allSt.drop 1).filter fun s => decide (0 ≤ placeOf s.1 s.2 xs) == false := by
  unfold hiddenSt
  rw [allSt_cons, List.filter_cons]
  simp only [bne_self_eq_false, Bool.false_and, Bool.false_eq_true, if_false, List.drop_succ_cons, List.drop_zero]
  apply List.filter_congr
  intro s hs
  rw [allSt_kind s hs]
  by_cases h : placeOf s.1 s.2 xs < 0
  · simp [h]
  · simp [h]; omega
theorem found_hidden (xs : List Int) : (foundSt xs).length + (hiddenSt xs).length = 14 := by
  rw [foundSt_eq, hiddenSt_eq]
  have h : ∀ (l : List (Int × Int)) (p : Int × Int → Bool), (l.filter fun s => p s == true).length + (l.filter fun s => p s == false).length = l.length := by
    intro l p
    induction l with
    | nil => rfl
    | cons a l ih => cases hp : p a <;> simp [hp] at ih ⊢ <;> omega
  rw [h]; decide
def fullB (xs : List Int) : Bool := decide ((foundSt xs).length = 14)
theorem fullB_hidden (xs : List Int) : fullB xs = decide ((hiddenSt xs).length = 0) := by
  have := found_hidden xs
  unfold fullB
  by_cases h : (hiddenSt xs).length = 0
  · rw [decide_eq_true h, decide_eq_true (by omega)]
  · rw [decide_eq_false h, decide_eq_false (by omega)]

theorem found_c (v : Value) (xs : List Int) (w : World) (hv : Ints w v xs) (ht : testB xs = true) :
    Calls Tryz.prog 54 #[v] w fun e w' => ∃ u, e = .returned u ∧ w'.ownsRow w.heap.size 75 2 u (foundSt xs).length (flat2 (foundSt xs)) ∧ Below w.heap.size w w' := by
  obtain ⟨a, c, rfl, _, _, _⟩ := hv.parts
  have hc : ∀ w' : World, Below (w.alloc (.cells #[.slice a xs.length c] 39)).heap.size (w.alloc (.cells #[.slice a xs.length c] 39)) w' → w'.cell? ⟨w.heap.size, 0, none⟩ = some (.slice a xs.length c) := fun w' hb => by
    rw [(bcell hb).1 _ _ (by simp), World.cell?_alloc_at _ _ _ _ rfl]; rfl
  have HC := Lib.hid hc; clear hc
  go_enter Tryz.func54, Tryz.ntmps54
  go_wp2_with fail
  refine (states_c 72 #[.pointer (some ⟨w.heap.size, 0, none⟩)] (fun s => decide (0 ≤ placeOf s.1 s.2 xs)) _ (fun _ _ => by kernel_rfl) ?_).mono ?_
  · intro bar kind w1 hst hb
    have hc := HC.out w1 hb
    have hz : w.heap.size < w1.heap.size := World.block_lt_of_cell? w1 _ hc
    have hv1 : Ints w1 _ xs := (hv.below (below_one _)).below hb
    go_enter Tryz.func72, Tryz.ntmps72
    go_wp2_with fail
    refine (finding_c _ xs bar kind _ (hv1.below (below_one _)) hst ht).mono ?_
    rintro e w2 ⟨rfl, hb2⟩
    go_wp2
    go_ret
    exact ⟨bool_ret (by simp), by (repeat (first | exact Below.refl _ _ | exact (Below.refl _ _).drew | assumption | exact below_one _ | refine Below.chain ?_ (by assumption) | refine Below.drew ?_ | refine Below.alc ?_ _ | refine below_drewN ?_ | (refine Below.setCell ?_ ?_ _) | exact Nat.le_refl _ | (simp; done) | (simp; omega)))⟩
  · rintro e w1 ⟨u, rfl, ho, hb⟩
    have ho' : w1.ownsRow w.heap.size 75 2 u (foundSt xs).length (flat2 (foundSt xs)) := own_lo ho (by simp)
    go_wp2
    go_ret
    exact ⟨u, rfl, ho', (below_one _).trans (hb.mono (by simp))⟩
theorem isFull_c (v : Value) (xs : List Int) (w : World) (hv : Ints w v xs) (ht : testB xs = true) :
    Calls Tryz.prog 49 #[v] w fun e w' => e = .returned (.bool (fullB xs)) ∧ Below w.heap.size w w' := by
  go_enter Tryz.func49, Tryz.ntmps49
  go_wp2_with fail
  refine (found_c v xs _ hv ht).mono ?_
  rintro e w1 ⟨u, rfl, ho, hb⟩
  obtain ⟨a, c, rfl, _⟩ := (Sl.of_own ho).slice
  go_wp2
  go_ret
  refine ⟨bool_ret ?_, hb⟩
  unfold fullB
  rw [Bool.eq_iff_iff]; simp; omega
/-- what the reference's list of all states has behind its first k kinds and b bars -/
def allTo (m : Nat) : List (Int × Int) := (0, 0) :: (grid.drop 7).take m
theorem allTo_succ_fin : ∀ (k : Fin 2) (b : Fin 7), allTo (7 * k.1 + b.1 + 1) = allTo (7 * k.1 + b.1) ++ [((b.1 : Int), (k.1 : Int) + 1)] := by decide
theorem allTo_le (m : Nat) : (allTo m).length ≤ 15 := by
  unfold allTo
  simp [grid]; omega
theorem l7All_c (w : World) : Calls Tryz.prog 74 #[] w fun e w' => ∃ v, e = .returned v ∧ w'.ownsRow w.heap.size 75 2 v allSt.length (flat2 allSt) ∧ Below w.heap.size w w' := by
  obtain ⟨i, hi, hz0, hz1, hz2⟩ := info_parts info_State
  have ho0 := World.ownsRow_lit (e := 75) (size := 2) (base := w.heap.size) w #[.int .i64 0, .int .i64 0] 1 (Nat.le_refl _) (by decide) rfl
  go_enter Tryz.func74, Tryz.ntmps74
  go_wp2
  go_loopw [1, 2, 3] (fun v i _ wr => ∃ k : Nat, k ≤ 2 ∧ i = .int .i64 ((k : Int) + 1) ∧ wr.ownsRow w.heap.size 75 2 v (allTo (7 * k)).length (flat2 (allTo (7 * k))) ∧ Below w.heap.size w wr) (fun _ i _ _ => 4 - (intOf i).toNat)
  case atStart => exact ⟨0, by omega, rfl, ho0, below_one _⟩
  case round =>
    obtain ⟨k, hk, rfl, ho, hb⟩ := hrel
    clear ho0
    by_cases hlt : k < 2
    · have hd : decide ((k : Int) + 1 ≤ 2) = true := by simp; omega
      go_wp2
      go_loopw [1, 3] (fun v i wr => ∃ b : Nat, b ≤ 7 ∧ i = .int .i64 b ∧ wr.ownsRow w.heap.size 75 2 v (allTo (7 * k + b)).length (flat2 (allTo (7 * k + b))) ∧ Below w.heap.size w wr) (fun _ i _ => 7 - (intOf i).toNat)
      case atStart => exact ⟨0, by omega, rfl, ho, hb⟩
      case round =>
        obtain ⟨b, hbl, rfl, ho2, hb2⟩ := hrel
        clear ho hb
        by_cases hlt2 : b < 7
        · have hd2 : decide ((b : Int) < 7) = true := by simp; omega
          have hs := allTo_succ_fin ⟨k, hlt⟩ ⟨b, hlt2⟩
          have hle := allTo_le (7 * k + b)
          simp only at hs
          generalize allTo (7 * k + b) = cur at *
          have HS := Lib.hid hs; clear hs
          go_wp2_with (at_builtin; refine wpList_append_own _ rfl _ _ 62 rfl w.heap.size 75 i (.agg #[.int .i64 0, .int .i64 0]) 2 16 Tryz.underlying62 hi hz0 hz1 hz2 rfl (by decide) _ cur.length (flat2 cur) rfl (ho2.alloc _) ⟨wr.heap.size, 0, none⟩ 1 1 [.int .i64 b, .int .i64 ((k : Int) + 1)] rfl rfl (news_new _ [.int .i64 b, .int .i64 ((k : Int) + 1)] _) (by simp [Value.oneCell']) (by unfold maxLen; omega) (by omega) (by have := hb2.size; simp; omega) ?_)
          intro v' w3 ho5 hg5 _
          have hb7 : Below w.heap.size w w3 := (Below.alc hb2 _).grown hg5 (by have := hb2.size; simp; omega) (fun g hg => (ho2.lt g hg).1)
          clear ho2 hb2 hg5
          go_wp2
          go_roundw
          case rel => exact ⟨b + 1, by omega, by go_num, by rw [← Nat.add_assoc, HS.out]; exact ownsRow_cast ho5 (by simp) (flat2_snoc _ _ _).symm, hb7⟩
          case measure => simp [intOf]; omega
        · obtain rfl : b = 7 := by omega
          go_wp2
          go_roundw
          case rel => exact ⟨k + 1, by omega, by go_num, by rw [show 7 * (k + 1) = 7 * k + 7 by omega]; exact ho2, hb2⟩
          case measure => simp [intOf]; omega
    · obtain rfl : k = 2 := by omega
      go_wp2
      go_ret
      exact ⟨_, rfl, ho, hb⟩
/-- the states but the good one that a test finds (f), or does not find, among the first m -/
def l7F (xs : List Int) (f : Bool) (m : Nat) : List (Int × Int) := ((allSt.drop 1).take m).filter fun s => decide (0 ≤ placeOf s.1 s.2 xs) == f
theorem l7F_zero (xs : List Int) (f : Bool) : l7F xs f 0 = [] := rfl
theorem l7F_le (xs : List Int) (f : Bool) (m : Nat) : (l7F xs f m).length ≤ 14 :=
  Nat.le_trans (List.length_filter_le _ _) (by rw [List.length_take]; simp [allSt, grid]; omega)
theorem l7F_succ (xs : List Int) (f : Bool) {m : Nat} {s : Int × Int} (hs : allSt[m + 1]? = some s) : l7F xs f (m + 1) = l7F xs f m ++ if decide (0 ≤ placeOf s.1 s.2 xs) == f then [s] else [] := by
  have hs2 : (allSt.drop 1)[m]? = some s := by rw [List.getElem?_drop, Nat.add_comm]; exact hs
  unfold l7F
  rw [take_snoc hs2, List.filter_append]
  cases hq : (decide (0 ≤ placeOf s.1 s.2 xs) == f) <;> simp [hq]
theorem l7F_found (xs : List Int) : l7F xs true 14 = foundSt xs := by rw [foundSt_eq]; rfl
theorem l7F_hidden (xs : List Int) : l7F xs false 14 = hiddenSt xs := by rw [hiddenSt_eq]; rfl
theorem allSt_ok : ∀ s ∈ allSt, stateB s.1 s.2 = true := by decide
theorem l7Found_c (v : Value) (xs : List Int) (f : Bool) (w : World) (hv : Ints w v xs) (ht : testB xs = true) :
    Calls Tryz.prog 55 #[v, .bool f] w fun e w' => ∃ u, e = .returned u ∧ w'.ownsRow w.heap.size 75 2 u (l7F xs f 14).length (flat2 (l7F xs f 14)) ∧ Below w.heap.size w w' := by
  obtain ⟨i, hi, hz0, hz1, hz2⟩ := info_parts info_State
  have ho0 := World.ownsRow_lit (e := 75) (size := 2) (base := w.heap.size) w #[] 0 (Nat.le_refl _) (by decide) rfl
  go_enter Tryz.func55, Tryz.ntmps55
  go_wp2_with fail
  refine (l7All_c _).mono ?_
  rintro e w1 ⟨u, rfl, hoA, hbA⟩
  obtain ⟨g, cap, hu, hg0, hg1, _, _⟩ := own_form hoA (by rw [allSt_length]; omega)
  have hA : Pairs w1 u allSt := Pairs.of_own hoA
  have ho1 := ho0.kept (Below.gr hbA) (by cases Value.ownBlock _ <;> simp)
  have hb1 : Below w.heap.size w w1 := (below_one _).trans (hbA.mono (by simp))
  have hl15 : allSt.length = 15 := allSt_length
  rw [hl15] at hu
  subst hu
  have hgw : w.heap.size < g := by simp at hg0; omega
  have hm := hv.le
  clear hoA hbA ho0 hg0 hl15
  go_wp2
  go_loopw [5, 7] (fun o j wr => ∃ k : Nat, k ≤ 14 ∧ j = .int .i64 ((k : Int) + 1) ∧ wr.ownsRow w.heap.size 75 2 o (l7F xs f k).length (flat2 (l7F xs f k)) ∧ Below w.heap.size w wr ∧ Pairs wr (.slice (some ⟨g, 0, none⟩) 15 cap) allSt ∧ o.ownBlock ≠ some g ∧ g < wr.heap.size) (fun _ j _ => 16 - (intOf j).toNat)
  case atStart => exact ⟨0, by omega, rfl, ho1, hb1, hA, by simp [Value.ownBlock]; omega, hg1⟩
  case round =>
    obtain ⟨k, hk, rfl, ho, hb, hP, hne, hgl⟩ := hrel
    clear ho1 hb1 hA
    by_cases hlt : k < 14
    · have hlt15 : (k : Int) + 1 < 15 := by omega
      obtain ⟨s, hs⟩ := elem_at (show k + 1 < allSt.length by rw [allSt_length]; omega)
      have hok := allSt_ok s (List.mem_of_getElem? hs.out)
      obtain ⟨a0, c0, he, _, _, HA⟩ := hP.parts
      obtain ⟨b2, off2, e2, g0, g1⟩ := HA.out _ _ hs.out
      obtain ⟨rfl, rfl⟩ : b2 = g ∧ off2 = 0 := by
        rw [e2] at he; injection he with h1 _ _; injection h1 with h1; injection h1 with h1 h2 _; exact ⟨h1.symm, h2.symm⟩
      clear he HA e2
      simp only [Nat.zero_add] at g0 g1
      obtain ⟨bar, kind⟩ := s
      have hv1 : Ints wr v xs := hv.below hb
      have hsc := l7F_succ xs f hs.out
      have hle := l7F_le xs f k
      generalize l7F xs f k = cur at *
      have HS := Lib.hid hsc; clear hsc
      have hd : decide ((k : Int) + 1 < 15) = true := by simp; omega
      go_wp2_with fail
      refine (l7Place_c v xs bar kind _ hv1 hok ht).mono ?_
      rintro e w2 ⟨rfl, hb2⟩
      have g02 := cell_later hb2 g0
      have g12 := cell_later hb2 g1
      have hb3 : Below w.heap.size w w2 := by (repeat (first | exact Below.refl _ _ | exact (Below.refl _ _).drew | assumption | exact below_one _ | refine Below.chain ?_ (by assumption) | refine Below.drew ?_ | refine Below.alc ?_ _ | refine below_drewN ?_ | (refine Below.setCell ?_ ?_ _) | exact Nat.le_refl _ | (simp; done) | (simp; omega)))
      have ho2 := ho.kept (Below.gr hb2) (by cases Value.ownBlock _ <;> simp)
      have hP2 := hP.below hb2
      have hgl2 : b2 < w2.heap.size := Nat.lt_of_lt_of_le hgl hb2.size
      clear ho hb hP hgl g0 g1 hb2 hv1
      rcases hq : (decide (0 ≤ placeOf bar kind xs) == f) with _ | _
      · have hS2 : l7F xs f (k + 1) = cur := by rw [HS.out]; simp [hq]
        have HS2 := Lib.hid hS2; clear hS2 HS
        go_wp2
        go_roundw
        case rel => exact ⟨k + 1, by omega, by go_num, by rw [HS2.out]; exact ho2, hb3, hP2, hne, hgl2⟩
        case measure => simp [intOf]; omega
      · have hS2 : l7F xs f (k + 1) = cur ++ [(bar, kind)] := by rw [HS.out]; simp [hq]
        have HS2 := Lib.hid hS2; clear hS2 HS
        go_wp2_with (at_builtin; refine wpList_append_own_at _ rfl _ _ 62 rfl w.heap.size 75 i (.agg #[.int .i64 0, .int .i64 0]) 2 16 Tryz.underlying62 hi hz0 hz1 hz2 rfl (by decide) _ cur.length (flat2 cur) rfl (ho2.alloc _) ⟨w2.heap.size, 0, none⟩ 1 1 [.int .i64 bar, .int .i64 kind] rfl rfl (news_new _ [.int .i64 bar, .int .i64 kind] _) (by simp [Value.oneCell']) (by unfold maxLen; omega) (by omega) (by have := hb3.size; simp; omega) ?_)
        intro v' w3 ho5 hg5 _ hat
        have hb7 : Below w.heap.size w w3 := (Below.alc hb3 _).grown hg5 (by have := hb3.size; simp; omega) (fun g hg => (ho2.lt g hg).1)
        have hP3 : Pairs w3 (.slice (some ⟨b2, 0, none⟩) 15 cap) allSt := (hP2.below (below_one _)).grown hg5 (.inr (by simpa [Value.ownBlock] using (Ne.symm hne)))
        have hne3 : v'.ownBlock ≠ some b2 := by
          rcases hat with h | h
          · rw [h]; exact hne
          · rw [h]; simp; omega
        have hgl3 : b2 < w3.heap.size := Nat.lt_of_lt_of_le (by simp; omega) hg5.size
        clear ho2 hb3 hP2 hne hgl2 hg5 hat g02 g12
        go_wp2
        go_roundw
        case rel => exact ⟨k + 1, by omega, by go_num, by rw [HS2.out]; exact ownsRow_cast ho5 (by simp) (flat2_snoc _ _ _).symm, hb7, hP3, hne3, hgl3⟩
        case measure => simp [intOf]; omega
    · obtain rfl : k = 14 := by omega
      go_wp2
      go_ret
      exact ⟨_, rfl, ho, hb⟩
theorem l7Full_c (v : Value) (xs : List Int) (w : World) (hv : Ints w v xs) (ht : testB xs = true) :
    Calls Tryz.prog 51 #[v] w fun e w' => e = .returned (.bool (fullB xs)) ∧ Below w.heap.size w w' := by
  go_enter Tryz.func51, Tryz.ntmps51
  go_wp2_with fail
  refine (l7Found_c v xs false _ hv ht).mono ?_
  rintro e w1 ⟨u, rfl, ho, hb⟩
  obtain ⟨a, c, rfl, _⟩ := (Sl.of_own ho).slice
  go_wp2
  go_ret
  refine ⟨bool_ret ?_, hb⟩
  rw [fullB_hidden, ← l7F_hidden, Bool.eq_iff_iff]; simp
/-- what both texts of IsFullTest return -/
def isFullV (xs : List Int) : Value := .tuple #[.bool (testB xs && fullB xs), .bool (testB xs)]
end Go.Proofs.YtbobiiodbbcodaaGreatDoor
namespace Go.Proofs.YtbobiiodbbcodaaGreatDoor
open Go.RowKit
set_option linter.unusedVariables false
set_option maxRecDepth 100000
/-- a list that is told if the test is valid, else none -/
def toldSt (xs : List Int) (l : List (Int × Int)) : List (Int × Int) := if testB xs then l else []
theorem toldSt_le (xs : List Int) (l : List (Int × Int)) (h : l.length ≤ 15) : (toldSt xs l).length ≤ 15 := by
  unfold toldSt; split
  · exact h
  · simp
theorem foundSt_le (xs : List Int) : (foundSt xs).length ≤ 15 := Nat.le_trans (List.length_filter_le _ _) (by decide)
theorem hiddenSt_le (xs : List Int) : (hiddenSt xs).length ≤ 15 := Nat.le_trans (List.length_filter_le _ _) (by decide)
/-- the post of both texts: a slice of the call's own with the list, and the bool -/
def StPost (w : World) (xs : List Int) (l : List (Int × Int)) (e : Ending) (w' : World) : Prop :=
  ∃ u, e = .returned (.tuple #[u, .bool (testB xs)]) ∧ w'.ownsRow w.heap.size 75 2 u (toldSt xs l).length (flat2 (toldSt xs l)) ∧ Below w.heap.size w w'
theorem StPost.no {w w' : World} {xs : List Int} {l : List (Int × Int)} {u : Value} (ht : testB xs = false) (ho : w'.ownsRow w.heap.size 75 2 u 0 []) (hb : Below w.heap.size w w') : StPost w xs l (.returned (.tuple #[u, .bool false])) w' := by
  refine ⟨u, by rw [ht], ?_, hb⟩
  simpa [toldSt, ht, flat2_nil] using ho
theorem StPost.yes {w w' : World} {xs : List Int} {l : List (Int × Int)} {u : Value} (ht : testB xs = true) (ho : w'.ownsRow w.heap.size 75 2 u l.length (flat2 l)) (hb : Below w.heap.size w w') : StPost w xs l (.returned (.tuple #[u, .bool true])) w' := by
  refine ⟨u, by rw [ht], ?_, hb⟩
  simpa [toldSt, ht] using ho
end Go.Proofs.YtbobiiodbbcodaaGreatDoor
namespace Go.Proofs.YtbobiiodbbcodaaGreatDoor
open Go.RowKit
set_option linter.unusedVariables false
set_option maxRecDepth 100000
/-- the last m digits of a number, the last one first -/
def dgs (n m : Nat) : List Int := (List.range m).map fun i => ((n / 10 ^ i % 10 : Nat) : Int)
theorem dgs_len (n m : Nat) : (dgs n m).length = m := by simp [dgs]
theorem dgs_succ (n m : Nat) : dgs n (m + 1) = dgs n m ++ [((n / 10 ^ m % 10 : Nat) : Int)] := by
  unfold dgs; rw [List.range_succ, List.map_append]; rfl
theorem dgs_test (n : Nat) {m : Nat} (hm : m ≤ 4) : testB (dgs n m) = true := by
  unfold testB
  rw [dgs_len, decide_eq_true (by omega), Bool.true_and, List.all_eq_true]
  intro x hx
  unfold dgs at hx
  rw [List.mem_map] at hx
  obtain ⟨i, _, rfl⟩ := hx
  have := Nat.mod_lt (n / 10 ^ i) (show 0 < 10 by omega)
  exact inB_mk (by omega) (by omega)
theorem pw_le {m : Nat} (hm : m ≤ 4) : 10 ^ m ≤ 10000 := Nat.pow_le_pow_right (by omega) hm
theorem pw_pos (m : Nat) : 0 < 10 ^ m := Nat.pow_pos (by omega)
def otS (g : List Int → Nat) (m n : Nat) : Nat := ((List.range n).map fun j => g (dgs j m)).sum
theorem otS_succ (g : List Int → Nat) (m n : Nat) : otS g m (n + 1) = otS g m n + g (dgs n m) := by
  unfold otS; rw [List.range_succ, List.map_append, List.sum_append]; simp
theorem otS_le {g : List Int → Nat} (hg : ∀ xs, g xs ≤ 15) (m n : Nat) : otS g m n ≤ 15 * n := by
  induction n with
  | zero => simp [otS]
  | succ n ih => rw [otS_succ]; have := hg (dgs n m); omega
theorem power_c (m : Nat) (hm : m ≤ 4) (w : World) : Calls Tryz.prog 70 #[.int .i64 (m : Int)] w fun e w' => e = .returned (.int .i64 ((10 ^ m : Nat) : Int)) ∧ w = w' := by
  go_enter Tryz.func70, Tryz.ntmps70
  go_wp2
  go_loopw [3, 5] (fun p j wr => ∃ k : Nat, k ≤ m ∧ j = .int .i64 (k : Int) ∧ p = .int .i64 ((10 ^ k : Nat) : Int) ∧ w = wr) (fun _ j _ => 5 - (intOf j).toNat)
  case atStart => exact ⟨0, by omega, rfl, rfl, rfl⟩
  case round =>
    obtain ⟨k, hk, rfl, rfl, rfl⟩ := hrel
    by_cases hlt : k < m
    · have hd : decide ((k : Int) < (m : Int)) = true := by simp; omega
      have hp := pw_le (show k ≤ 4 by omega)
      have hs : (10 : Nat) ^ (k + 1) = 10 ^ k * 10 := Nat.pow_succ ..
      generalize (10 : Nat) ^ k = p at *
      have HS := Lib.hid hs; clear hs
      go_wp2
      go_roundw
      case rel => exact ⟨k + 1, by omega, by go_num, by rw [HS.out]; exact int_val (by omega), by trivial⟩
      case measure => simp [intOf]; omega
    · obtain rfl : k = m := by omega
      go_wp2
      go_ret
      exact ⟨rfl, rfl⟩
theorem l9Power_c (m : Nat) (hm : m ≤ 4) (w : World) : Calls Tryz.prog 50 #[.int .i64 10, .int .i64 (m : Int)] w fun e w' => e = .returned (.int .i64 ((10 ^ m : Nat) : Int)) ∧ w = w' := by
  go_enter Tryz.func50, Tryz.ntmps50
  go_wp2
  go_loopw [5, 6] (fun p j wr => ∃ k : Nat, k ≤ m ∧ j = .int .i64 (k : Int) ∧ p = .int .i64 ((10 ^ k : Nat) : Int) ∧ w = wr) (fun _ j _ => 5 - (intOf j).toNat)
  case atStart => exact ⟨0, by omega, rfl, rfl, rfl⟩
  case round =>
    obtain ⟨k, hk, rfl, rfl, rfl⟩ := hrel
    by_cases hlt : k < m
    · have hd : decide ((k : Int) < (m : Int)) = true := by simp; omega
      have hp := pw_le (show k ≤ 4 by omega)
      have hs : (10 : Nat) ^ (k + 1) = 10 ^ k * 10 := Nat.pow_succ ..
      generalize (10 : Nat) ^ k = p at *
      have HS := Lib.hid hs; clear hs
      go_wp2
      go_roundw
      case rel => exact ⟨k + 1, by omega, by go_num, by rw [HS.out]; exact int_val (by omega), by trivial⟩
      case measure => simp [intOf]; omega
    · obtain rfl : k = m := by omega
      go_wp2
      go_ret
      exact ⟨rfl, rfl⟩
theorem l9Test_c (n m : Nat) (hn : n ≤ 10000) (hm : m ≤ 4) (w : World) : Calls Tryz.prog 52 #[.int .i64 (n : Int), .int .i64 (m : Int)] w fun e w' => ∃ u, e = .returned u ∧ w'.ownsRow w.heap.size 3 1 u (dgs n m).length (ints (dgs n m)) ∧ Below w.heap.size w w' := by
  obtain ⟨i, hi, hz0, hz1, hz2⟩ := info_parts info_int
  have ho0 := World.ownsRow_lit (e := 3) (size := 1) (base := w.heap.size) w #[] 0 (Nat.le_refl _) (by decide) rfl
  go_enter Tryz.func52, Tryz.ntmps52
  go_wp2
  go_loopw [0, 5, 6] (fun q o j wr => ∃ k : Nat, k ≤ m ∧ j = .int .i64 (k : Int) ∧ q = .int .i64 ((n / 10 ^ k : Nat) : Int) ∧ wr.ownsRow w.heap.size 3 1 o (dgs n k).length (ints (dgs n k)) ∧ Below w.heap.size w wr) (fun _ _ j _ => m - (intOf j).toNat)
  case atStart => exact ⟨0, by omega, rfl, by simp, ho0, by (repeat (first | exact Below.refl _ _ | exact (Below.refl _ _).drew | assumption | exact below_one _ | refine Below.chain ?_ (by assumption) | refine Below.drew ?_ | refine Below.alc ?_ _ | refine below_drewN ?_ | (refine Below.setCell ?_ ?_ _) | exact Nat.le_refl _ | (simp; done) | (simp; omega)))⟩
  case round =>
    obtain ⟨k, hk, rfl, rfl, ho, hb⟩ := hrel
    clear ho0
    by_cases hlt : k < m
    · have hd : decide ((k : Int) < (m : Int)) = true := by simp; omega
      have hs := dgs_succ n k
      have hl := dgs_len n k
      have hq : n / 10 ^ k ≤ 10000 := Nat.le_trans (Nat.div_le_self _ _) hn
      have hq2 : n / 10 ^ (k + 1) = n / 10 ^ k / 10 := by rw [Nat.pow_succ, Nat.div_div_eq_div_mul]
      generalize n / 10 ^ k = q at *
      generalize dgs n k = cur at *
      have HS := Lib.hid hs; have HQ := Lib.hid hq2; clear hs hq2
      have ht : ((q : Int).tmod 10) = ((q % 10 : Nat) : Int) := rfl
      have htd : ((q : Int).tdiv 10) = ((q / 10 : Nat) : Int) := rfl
      have HT := Lib.hid ht; clear ht
      go_wp2_with (at_builtin; refine wpList_append_own_at _ rfl _ _ 39 rfl w.heap.size 3 i (.int .i64 0) 1 8 Tryz.underlying39 hi hz0 hz1 hz2 rfl (by decide) _ cur.length (ints cur) rfl (ho.alloc _) ⟨wr.heap.size, 0, none⟩ 1 1 [.int .i64 ((q : Int).tmod 10)] rfl rfl (news_new _ [.int .i64 ((q : Int).tmod 10)] _) (by simp [Value.oneCell']) (by unfold maxLen; omega) (by omega) (by have := hb.size; simp; omega) ?_)
      intro v' w3 ho5 hg5 _ _
      have hb7 : Below w.heap.size w w3 := (Below.alc hb _).grown hg5 (by have := hb.size; simp; omega) (fun g hg => (ho.lt g hg).1)
      rw [HT.out] at ho5
      clear ho hb hg5
      go_wp2
      go_roundw
      case rel => exact ⟨k + 1, by omega, by go_num, by rw [HQ.out]; exact int_val (by omega), by rw [HS.out]; exact ownsRow_cast ho5 (by simp; omega) (by simp), hb7⟩
      case measure => simp [intOf]; omega
    · obtain rfl : k = m := by omega
      go_wp2
      go_ret
      exact ⟨_, rfl, ho, hb⟩
theorem overTests_no (m : Int) (fn : Nat) (w : World) (hc : inB m 0 4 = false) :
    Calls Tryz.prog 47 #[.int .i64 m, .func (.func fn) #[] #[]] w fun e w' => e = .returned (.tuple #[.int .i64 0, .int .i64 0, .bool false]) ∧ w = w' := by
  have HC := Lib.hid hc; clear hc
  go_enter Tryz.func47, Tryz.ntmps47
  go_wp2_with fail
  refine (within_c m 0 4 _).mono ?_
  rintro e w1 ⟨rfl, rfl⟩
  rw [HC.out]
  go_wp2
  exact bodyPost_ret (v := .tuple #[.int .i64 0, .int .i64 0, .bool false]) (by simp [results, Tryz.results47, go_sem]) rfl ⟨rfl, rfl⟩
theorem overTests_c (m : Nat) (hm : m ≤ 4) (fn : Nat) (g : List Int → Nat) (w : World) (hg : ∀ xs, g xs ≤ 15) (hf : CallsIt fn)
    (hp : ∀ (v : Value) (xs : List Int) (w' : World), Ints w' v xs → testB xs = true → Calls Tryz.prog fn #[v] w' fun e w'' => e = .returned (.int .i64 (g xs : Nat)) ∧ Below w'.heap.size w' w'') :
    Calls Tryz.prog 47 #[.int .i64 (m : Int), .func (.func fn) #[] #[]] w fun e w' => e = .returned (.tuple #[.int .i64 (otS g m (10 ^ m) : Nat), .int .i64 ((10 ^ m : Nat) : Int), .bool true]) ∧ Below w.heap.size w w' := by
  have hf' : ∀ (bs : Array Value) (w : World), (callFunc fn bs).run Tryz.prog w = .ok (.enter fn bs) w := hf
  have HC := Lib.hid (show inB (m : Int) 0 4 = true from inB_mk (by omega) (by omega))
  obtain ⟨i, hi, hz0, hz1, hz2⟩ := info_parts info_int
  have hP := pw_le hm
  have HD : Hid (∀ n k, dgs n (k + 1) = dgs n k ++ [((n / 10 ^ k % 10 : Nat) : Int)] ∧ n / 10 ^ (k + 1) = n / 10 ^ k / 10) := fun n k => ⟨dgs_succ n k, by rw [Nat.pow_succ, Nat.div_div_eq_div_mul]⟩
  go_enter Tryz.func47, Tryz.ntmps47
  go_wp2_with fail
  refine (within_c (m : Int) 0 4 _).mono ?_
  rintro e w1 ⟨rfl, rfl⟩
  rw [HC.out]
  go_wp2_with fail
  refine (power_c m hm _).mono ?_
  rintro e w1 ⟨rfl, rfl⟩
  generalize hN : 10 ^ m = N at *
  have HN := Lib.hid hN; clear hN
  go_wp2
  go_loopw [7, 17] (fun s j wr => ∃ n : Nat, n ≤ N ∧ j = .int .i64 (n : Int) ∧ s = .int .i64 (otS g m n : Nat) ∧ Below w.heap.size w wr) (fun _ j _ => N - (intOf j).toNat)
  case atStart => exact ⟨0, by omega, rfl, rfl, Below.refl _ _⟩
  case round =>
    obtain ⟨n, hn, rfl, rfl, hb⟩ := hrel
    rename World => wo
    have hSl := otS_le hg m n
    by_cases hlt : n < N
    · have hd : decide ((n : Int) < (N : Int)) = true := by simp; omega
      have hS := otS_succ g m n
      have hgn := hg (dgs n m)
      have htst := dgs_test n hm
      generalize otS g m n = s at *
      have HS := Lib.hid hS; clear hS
      go_wp2
      go_loopw [9, 10, 21] (fun q o j wr2 => ∃ k : Nat, k ≤ m ∧ j = .int .i64 (k : Int) ∧ q = .int .i64 ((n / 10 ^ k : Nat) : Int) ∧ wr2.ownsRow wo.heap.size 3 1 o (dgs n k).length (ints (dgs n k)) ∧ Below wo.heap.size wo wr2) (fun _ _ j _ => m - (intOf j).toNat)
      case atStart => exact ⟨0, by omega, rfl, by simp, World.ownsRow_nil _ _ _ _, Below.refl _ _⟩
      case round =>
        obtain ⟨k, hk, rfl, rfl, ho, hb2⟩ := hrel
        by_cases hlt2 : k < m
        · have hdd : decide ((k : Int) < (m : Int)) = true := by simp; omega
          have hl := dgs_len n k
          have hq : n / 10 ^ k ≤ 10000 := Nat.le_trans (Nat.div_le_self _ _) (by omega)
          have hs := (HD.out n k).1
          have hq2 := (HD.out n k).2
          generalize n / 10 ^ k = q at *
          generalize dgs n k = cur at *
          have HS3 := Lib.hid hs; have HQ := Lib.hid hq2; clear hs hq2
          have ht : ((q : Int) % 10) = ((q % 10 : Nat) : Int) := rfl
          have HT := Lib.hid ht; clear ht
          go_wp2_with (at_builtin; refine wpList_append_own_at _ rfl _ _ 39 rfl wo.heap.size 3 i (.int .i64 0) 1 8 Tryz.underlying39 hi hz0 hz1 hz2 rfl (by decide) _ cur.length (ints cur) rfl (ho.alloc _) ⟨wr.heap.size, 0, none⟩ 1 1 [.int .i64 ((q : Int) % 10)] rfl rfl (news_new _ [.int .i64 ((q : Int) % 10)] _) (by simp [Value.oneCell']) (by unfold maxLen; omega) (by omega) (by have := hb2.size; simp; omega) ?_)
          intro v' w3 ho5 hg5 _ _
          have hb7 : Below wo.heap.size wo w3 := (Below.alc hb2 _).grown hg5 (by have := hb2.size; simp; omega) (fun g hg => (ho.lt g hg).1)
          rw [HT.out] at ho5
          clear ho hb2 hg5
          go_wp2
          go_roundw
          case rel => exact ⟨k + 1, by omega, by go_num, by rw [HQ.out]; exact int_val (by omega), by rw [HS3.out]; exact ownsRow_cast ho5 (by simp; omega) (by simp), hb7⟩
          case measure => simp [intOf]; omega
        · obtain rfl : k = m := by omega
          go_wp2_with fail
          refine (hp _ _ _ (Ints.of_own ho) htst).mono ?_
          rintro e w3 ⟨rfl, hb3⟩
          have hb4 : Below w.heap.size w w3 := Below.chain hb (Below.chain hb2 hb3)
          go_wp2
          go_roundw
          case rel => exact ⟨n + 1, by omega, by go_num, by rw [HS.out]; exact int_val (by omega), hb4⟩
          case measure => simp [intOf]; omega
    · obtain rfl : n = N := by omega
      go_wp2
      exact bodyPost_ret (v := .tuple #[.int .i64 (otS g m n : Nat), .int .i64 ((n : Nat) : Int), .bool true]) (by simp [results, Tryz.results47, go_sem]) rfl ⟨by rw [HN.out], hb⟩
end Go.Proofs.YtbobiiodbbcodaaGreatDoor
namespace Go.Proofs.YtbobiiodbbcodaaGreatDoor
open Go.RowKit
set_option linter.unusedVariables false
set_option maxRecDepth 100000
def gFound (xs : List Int) : Nat := (foundSt xs).length
def gFull (xs : List Int) : Nat := if fullB xs then 1 else 0
theorem gFound_le : ∀ xs, gFound xs ≤ 15 := foundSt_le
theorem gFull_le : ∀ xs, gFull xs ≤ 15 := fun xs => by unfold gFull; split <;> omega
def otV (g : List Int → Nat) (m : Int) : Value := .tuple #[if inB m 0 4 then fracV (otS g m.toNat (10 ^ m.toNat)) (10 ^ m.toNat) else .agg #[.int .i64 0, .int .i64 0], .bool (inB m 0 4)]
theorem MeanFound1_c (v : Value) (xs : List Int) (w : World) (hv : Ints w v xs) (ht : testB xs = true) : Calls Tryz.prog 53 #[v] w fun e w' => e = .returned (.int .i64 (gFound xs : Nat)) ∧ Below w.heap.size w w' := by
  go_enter Tryz.func53, Tryz.ntmps53
  go_wp2_with fail
  refine (found_c v xs _ hv ht).mono ?_
  rintro e w1 ⟨u, rfl, ho, hb⟩
  obtain ⟨a, c, rfl, _⟩ := (Sl.of_own ho).slice
  go_wp2
  go_ret
  exact ⟨rfl, hb⟩
theorem MeanFound_c (m : Int) (w : World) : Calls Tryz.prog 19 #[.int .i64 m] w fun e w' => e = .returned (otV gFound m) ∧ Below w.heap.size w w' := by
  have hcl : CallsIt 53 := fun bs w => by kernel_rfl
  rcases hc : inB m 0 4 with _ | _
  · have HC := Lib.hid hc
    have HF := Lib.hid (show otV gFound m = .tuple #[.agg #[.int .i64 0, .int .i64 0], .bool false] by simp [otV, hc])
    go_enter Tryz.func19, Tryz.ntmps19
    go_wp2_with fail
    refine (overTests_no m _ _ hc).mono ?_
    rintro e w1 ⟨rfl, rfl⟩
    have hb := Below.refl (w.alloc (.cells #[.int .i64 0, .int .i64 0] 25)).heap.size (w.alloc (.cells #[.int .i64 0, .int .i64 0] 25))
    obtain ⟨hd, hfz⟩ := box_after hb
    have d0 := hd 0 _ rfl
    have d1 := hd 1 _ rfl
    have z0 := hfz 0
    have z1 := hfz 1
    clear hd hfz
    have hb4 := below_one (w := w) (.cells #[.int .i64 0, .int .i64 0] 25)
    clear hb hc
    go_wp2
    refine bodyPost_ret (v := otV gFound m) (by rw [HF.out]; simp [results, Tryz.results19, go_sem, d0, d1]) rfl ⟨rfl, by (repeat (first | exact Below.refl _ _ | exact (Below.refl _ _).drew | assumption | exact below_one _ | refine Below.chain ?_ (by assumption) | refine Below.drew ?_ | refine Below.alc ?_ _ | refine below_drewN ?_ | (refine Below.setCell ?_ ?_ _) | exact Nat.le_refl _ | (simp; done) | (simp; omega)))⟩
  · have hm := inB_true hc
    obtain ⟨m, rfl⟩ := Int.eq_ofNat_of_zero_le hm.1
    have hm4 : m ≤ 4 := by omega
    have HF := Lib.hid (show otV gFound (m : Int) = .tuple #[fracV (otS gFound m (10 ^ m)) (10 ^ m), .bool true] by simp [otV, hc])
    have HP := pw_pos m
    have HQ := pw_le hm4
    have HS := otS_le gFound_le m (10 ^ m)
    clear hc
    go_enter Tryz.func19, Tryz.ntmps19
    go_wp2_with fail
    refine (overTests_c m hm4 _ gFound _ gFound_le hcl (fun v xs w' h1 h2 => MeanFound1_c v xs w' h1 h2)).mono ?_
    rintro e w1 ⟨rfl, hb⟩
    obtain ⟨hd, hfz⟩ := box_after hb
    have d0 := hd 0 _ rfl
    have d1 := hd 1 _ rfl
    have z0 := hfz 0
    have z1 := hfz 1
    clear hd hfz
    have hb4 : Below w.heap.size w w1 := Below.chain (Below.alc (Below.refl _ _) _) hb
    clear hb
    generalize otS gFound m (10 ^ m) = s at *
    generalize 10 ^ m = N at *
    go_wp2_with fail
    refine (fraction_c s N (by omega) (by omega) (by omega) _).mono ?_
    rintro e w2 ⟨rfl, hb5⟩
    have e0 := cell_later hb5 d0
    have e1 := cell_later hb5 d1
    have f0 := hb5.frozen (p := ⟨w.heap.size, 0, none⟩) (World.block_lt_of_cell? _ _ d0) |>.trans z0
    have f1 := hb5.frozen (p := ⟨w.heap.size, 1, none⟩) (World.block_lt_of_cell? _ _ d1) |>.trans z1
    have hb6 := Below.chain hb4 hb5
    obtain ⟨u0, u1, hb7⟩ := two_set (.int .i64 (fracN s N)) (.int .i64 (fracD s N)) e0 e1 hb6 (Nat.le_refl _)
    clear hb4 hb5 d0 d1 z0 z1 hb6
    unfold fracV at HF ⊢
    go_wp2
    clear e0 e1 f0 f1
    generalize (World.setCell (World.setCell w2 _ _) _ _) = w3 at *
    refine bodyPost_ret (v := otV gFound (m : Int)) (by rw [HF.out]; simp [results, Tryz.results19, go_sem, u0, u1]) rfl ⟨rfl, hb7⟩
theorem sMeanFound_c (m : Int) (w : World) : Calls Tryz.prog 20 #[.int .i64 m] w fun e w' => e = .returned (otV gFound m) ∧ Below w.heap.size w w' := by
  rcases hc : inB m 0 4 with _ | _
  · have HC := Lib.hid hc
    have HF := Lib.hid (show otV gFound m = .tuple #[.agg #[.int .i64 0, .int .i64 0], .bool false] by simp [otV, hc]); clear hc
    go_enter Tryz.func20, Tryz.ntmps20
    go_wp2_with fail
    refine (l1In_c m 0 4 _).mono ?_
    rintro e w1 ⟨rfl, rfl⟩
    rw [HC.out]
    have hb := Below.refl (w.alloc (.cells #[.int .i64 0, .int .i64 0] 25)).heap.size (w.alloc (.cells #[.int .i64 0, .int .i64 0] 25))
    obtain ⟨hd, hfz⟩ := box_after hb
    have d0 := hd 0 _ rfl
    have d1 := hd 1 _ rfl
    have z0 := hfz 0
    have z1 := hfz 1
    clear hd hfz
    have hb4 := below_one (w := w) (.cells #[.int .i64 0, .int .i64 0] 25)
    clear hb
    go_wp2
    refine bodyPost_ret (v := otV gFound m) (by rw [HF.out]; simp [results, Tryz.results20, go_sem, d0, d1]) rfl ⟨rfl, by (repeat (first | exact Below.refl _ _ | exact (Below.refl _ _).drew | assumption | exact below_one _ | refine Below.chain ?_ (by assumption) | refine Below.drew ?_ | refine Below.alc ?_ _ | refine below_drewN ?_ | (refine Below.setCell ?_ ?_ _) | exact Nat.le_refl _ | (simp; done) | (simp; omega)))⟩
  · have hm := inB_true hc
    obtain ⟨m, rfl⟩ := Int.eq_ofNat_of_zero_le hm.1
    have hm4 : m ≤ 4 := by omega
    have HC := Lib.hid hc
    have HF := Lib.hid (show otV gFound (m : Int) = .tuple #[fracV (otS gFound m (10 ^ m)) (10 ^ m), .bool true] by simp [otV, hc])
    have HP := pw_pos m
    have HQ := pw_le hm4
    clear hc
    go_enter Tryz.func20, Tryz.ntmps20
    go_wp2_with fail
    refine (l1In_c (m : Int) 0 4 _).mono ?_
    rintro e w1 ⟨rfl, rfl⟩
    rw [HC.out]
    go_wp2_with fail
    refine (l9Power_c m hm4 _).mono ?_
    rintro e w1 ⟨rfl, rfl⟩
    generalize hN : 10 ^ m = N at *
    clear hN
    generalize hwb : w.alloc (.cells #[.int .i64 0, .int .i64 0] 25) = wb at *
    go_wp2
    go_loopw [4, 6] (fun s j wr => ∃ n : Nat, n ≤ N ∧ j = .int .i64 (n : Int) ∧ s = .int .i64 (otS gFound m n : Nat) ∧ Below wb.heap.size wb wr) (fun _ j _ => N - (intOf j).toNat)
    case atStart => exact ⟨0, by omega, rfl, rfl, Below.refl _ _⟩
    case round =>
     obtain ⟨n, hn, rfl, rfl, hb⟩ := hrel
     have HSl := otS_le gFound_le m n
     by_cases hlt : n < N
     · have hd : decide ((n : Int) < (N : Int)) = true := by simp; omega
       have hS := otS_succ gFound m n
       have hgn := gFound_le (dgs n m)
       have htst := dgs_test n hm4
       generalize otS gFound m n = s at *
       have HS := Lib.hid hS; clear hS
       go_wp2_with fail
       refine (l9Test_c n m (by omega) hm4 _).mono ?_
       rintro e w2 ⟨u, rfl, ho, hb2⟩
       go_wp2_with fail
       refine (l7Found_c u (dgs n m) true _ (Ints.of_own ho) htst).mono ?_
       rintro e w3 ⟨v, rfl, ho3, hb3⟩
       have hb4 := Below.chain hb (Below.chain hb2 hb3)
       have hs4 : (l7F (dgs n m) true 14).length = gFound (dgs n m) := by rw [l7F_found]; rfl
       obtain ⟨a, c, rfl, _⟩ := (Sl.of_own ho3).slice
       rw [hs4]
       clear ho ho3 hs4 hb hb2 hb3
       generalize gFound (dgs n m) = gn at *
       go_wp2
       go_roundw
       case rel => exact ⟨n + 1, by omega, by go_num, by rw [HS.out]; exact int_val (by omega), hb4⟩
       case measure => simp [intOf]; omega
     · obtain rfl : n = N := by omega
       subst hwb
       generalize otS gFound m n = s at *
       obtain ⟨hd, hfz⟩ := box_after hb
       have d0 := hd 0 _ rfl
       have d1 := hd 1 _ rfl
       have z0 := hfz 0
       have z1 := hfz 1
       clear hd hfz
       rename World => w1
       have hb4 : Below w.heap.size w w1 := Below.chain (Below.alc (Below.refl _ _) _) hb
       clear hb
       have HN : n = n := rfl
       go_wp2_with fail
       refine (l9Cut_c s n (by omega) (by omega) (by omega) _).mono ?_
       rintro e w2 ⟨rfl, hb5⟩
       have e0 := cell_later hb5 d0
       have e1 := cell_later hb5 d1
       have f0 := hb5.frozen (p := ⟨w.heap.size, 0, none⟩) (World.block_lt_of_cell? _ _ d0) |>.trans z0
       have f1 := hb5.frozen (p := ⟨w.heap.size, 1, none⟩) (World.block_lt_of_cell? _ _ d1) |>.trans z1
       have hb6 := Below.chain hb4 hb5
       obtain ⟨u0, u1, hb7⟩ := two_set (.int .i64 (fracN s n)) (.int .i64 (fracD s n)) e0 e1 hb6 (Nat.le_refl _)
       clear hb4 hb5 d0 d1 z0 z1 hb6
       unfold fracV at HF ⊢
       go_wp2
       clear e0 e1 f0 f1
       generalize (World.setCell (World.setCell w2 _ _) _ _) = w3 at *
       refine bodyPost_ret (v := otV gFound (m : Int)) (by rw [HF.out]; simp [results, Tryz.results20, go_sem, u0, u1]) rfl ⟨rfl, hb7⟩
theorem ChanceFull1_c (v : Value) (xs : List Int) (w : World) (hv : Ints w v xs) (ht : testB xs = true) : Calls Tryz.prog 48 #[v] w fun e w' => e = .returned (.int .i64 (gFull xs : Nat)) ∧ Below w.heap.size w w' := by
  rcases hq : fullB xs with _ | _
  all_goals
    have HG := Lib.hid (show gFull xs = _ by unfold gFull; rw [hq])
    have HQ := Lib.hid hq
    clear hq
    go_enter Tryz.func48, Tryz.ntmps48
    go_wp2_with fail
    refine (isFull_c v xs _ hv ht).mono ?_
    rintro e w1 ⟨rfl, hb⟩
    rw [HQ.out]
    go_wp2
    go_ret
    exact ⟨by rw [HG.out]; rfl, hb⟩
theorem ChanceFull_c (m : Int) (w : World) : Calls Tryz.prog 17 #[.int .i64 m] w fun e w' => e = .returned (otV gFull m) ∧ Below w.heap.size w w' := by
  have hcl : CallsIt 48 := fun bs w => by kernel_rfl
  rcases hc : inB m 0 4 with _ | _
  · have HC := Lib.hid hc
    have HF := Lib.hid (show otV gFull m = .tuple #[.agg #[.int .i64 0, .int .i64 0], .bool false] by simp [otV, hc])
    go_enter Tryz.func17, Tryz.ntmps17
    go_wp2_with fail
    refine (overTests_no m _ _ hc).mono ?_
    rintro e w1 ⟨rfl, rfl⟩
    have hb := Below.refl (w.alloc (.cells #[.int .i64 0, .int .i64 0] 25)).heap.size (w.alloc (.cells #[.int .i64 0, .int .i64 0] 25))
    obtain ⟨hd, hfz⟩ := box_after hb
    have d0 := hd 0 _ rfl
    have d1 := hd 1 _ rfl
    have z0 := hfz 0
    have z1 := hfz 1
    clear hd hfz
    have hb4 := below_one (w := w) (.cells #[.int .i64 0, .int .i64 0] 25)
    clear hb hc
    go_wp2
    refine bodyPost_ret (v := otV gFull m) (by rw [HF.out]; simp [results, Tryz.results17, go_sem, d0, d1]) rfl ⟨rfl, by (repeat (first | exact Below.refl _ _ | exact (Below.refl _ _).drew | assumption | exact below_one _ | refine Below.chain ?_ (by assumption) | refine Below.drew ?_ | refine Below.alc ?_ _ | refine below_drewN ?_ | (refine Below.setCell ?_ ?_ _) | exact Nat.le_refl _ | (simp; done) | (simp; omega)))⟩
  · have hm := inB_true hc
    obtain ⟨m, rfl⟩ := Int.eq_ofNat_of_zero_le hm.1
    have hm4 : m ≤ 4 := by omega
    have HF := Lib.hid (show otV gFull (m : Int) = .tuple #[fracV (otS gFull m (10 ^ m)) (10 ^ m), .bool true] by simp [otV, hc])
    have HP := pw_pos m
    have HQ := pw_le hm4
    have HS := otS_le gFull_le m (10 ^ m)
    clear hc
    go_enter Tryz.func17, Tryz.ntmps17
    go_wp2_with fail
    refine (overTests_c m hm4 _ gFull _ gFull_le hcl (fun v xs w' h1 h2 => ChanceFull1_c v xs w' h1 h2)).mono ?_
    rintro e w1 ⟨rfl, hb⟩
    obtain ⟨hd, hfz⟩ := box_after hb
    have d0 := hd 0 _ rfl
    have d1 := hd 1 _ rfl
    have z0 := hfz 0
    have z1 := hfz 1
    clear hd hfz
    have hb4 : Below w.heap.size w w1 := Below.chain (Below.alc (Below.refl _ _) _) hb
    clear hb
    generalize otS gFull m (10 ^ m) = s at *
    generalize 10 ^ m = N at *
    go_wp2_with fail
    refine (fraction_c s N (by omega) (by omega) (by omega) _).mono ?_
    rintro e w2 ⟨rfl, hb5⟩
    have e0 := cell_later hb5 d0
    have e1 := cell_later hb5 d1
    have f0 := hb5.frozen (p := ⟨w.heap.size, 0, none⟩) (World.block_lt_of_cell? _ _ d0) |>.trans z0
    have f1 := hb5.frozen (p := ⟨w.heap.size, 1, none⟩) (World.block_lt_of_cell? _ _ d1) |>.trans z1
    have hb6 := Below.chain hb4 hb5
    obtain ⟨u0, u1, hb7⟩ := two_set (.int .i64 (fracN s N)) (.int .i64 (fracD s N)) e0 e1 hb6 (Nat.le_refl _)
    clear hb4 hb5 d0 d1 z0 z1 hb6
    unfold fracV at HF ⊢
    go_wp2
    clear e0 e1 f0 f1
    generalize (World.setCell (World.setCell w2 _ _) _ _) = w3 at *
    refine bodyPost_ret (v := otV gFull (m : Int)) (by rw [HF.out]; simp [results, Tryz.results17, go_sem, u0, u1]) rfl ⟨rfl, hb7⟩
theorem sChanceFull_c (m : Int) (w : World) : Calls Tryz.prog 18 #[.int .i64 m] w fun e w' => e = .returned (otV gFull m) ∧ Below w.heap.size w w' := by
  rcases hc : inB m 0 4 with _ | _
  · have HC := Lib.hid hc
    have HF := Lib.hid (show otV gFull m = .tuple #[.agg #[.int .i64 0, .int .i64 0], .bool false] by simp [otV, hc]); clear hc
    go_enter Tryz.func18, Tryz.ntmps18
    go_wp2_with fail
    refine (l1In_c m 0 4 _).mono ?_
    rintro e w1 ⟨rfl, rfl⟩
    rw [HC.out]
    have hb := Below.refl (w.alloc (.cells #[.int .i64 0, .int .i64 0] 25)).heap.size (w.alloc (.cells #[.int .i64 0, .int .i64 0] 25))
    obtain ⟨hd, hfz⟩ := box_after hb
    have d0 := hd 0 _ rfl
    have d1 := hd 1 _ rfl
    have z0 := hfz 0
    have z1 := hfz 1
    clear hd hfz
    have hb4 := below_one (w := w) (.cells #[.int .i64 0, .int .i64 0] 25)
    clear hb
    go_wp2
    refine bodyPost_ret (v := otV gFull m) (by rw [HF.out]; simp [results, Tryz.results18, go_sem, d0, d1]) rfl ⟨rfl, by (repeat (first | exact Below.refl _ _ | exact (Below.refl _ _).drew | assumption | exact below_one _ | refine Below.chain ?_ (by assumption) | refine Below.drew ?_ | refine Below.alc ?_ _ | refine below_drewN ?_ | (refine Below.setCell ?_ ?_ _) | exact Nat.le_refl _ | (simp; done) | (simp; omega)))⟩
  · have hm := inB_true hc
    obtain ⟨m, rfl⟩ := Int.eq_ofNat_of_zero_le hm.1
    have hm4 : m ≤ 4 := by omega
    have HC := Lib.hid hc
    have HF := Lib.hid (show otV gFull (m : Int) = .tuple #[fracV (otS gFull m (10 ^ m)) (10 ^ m), .bool true] by simp [otV, hc])
    have HP := pw_pos m
    have HQ := pw_le hm4
    clear hc
    go_enter Tryz.func18, Tryz.ntmps18
    go_wp2_with fail
    refine (l1In_c (m : Int) 0 4 _).mono ?_
    rintro e w1 ⟨rfl, rfl⟩
    rw [HC.out]
    go_wp2_with fail
    refine (l9Power_c m hm4 _).mono ?_
    rintro e w1 ⟨rfl, rfl⟩
    generalize hN : 10 ^ m = N at *
    clear hN
    generalize hwb : w.alloc (.cells #[.int .i64 0, .int .i64 0] 25) = wb at *
    go_wp2
    go_loopw [4, 6] (fun s j wr => ∃ n : Nat, n ≤ N ∧ j = .int .i64 (n : Int) ∧ s = .int .i64 (otS gFull m n : Nat) ∧ Below wb.heap.size wb wr) (fun _ j _ => N - (intOf j).toNat)
    case atStart => exact ⟨0, by omega, rfl, rfl, Below.refl _ _⟩
    case round =>
     obtain ⟨n, hn, rfl, rfl, hb⟩ := hrel
     have HSl := otS_le gFull_le m n
     by_cases hlt : n < N
     · have hd : decide ((n : Int) < (N : Int)) = true := by simp; omega
       have hS := otS_succ gFull m n
       have hgn := gFull_le (dgs n m)
       have htst := dgs_test n hm4
       generalize otS gFull m n = s at *
       have HS := Lib.hid hS; clear hS
       go_wp2_with fail
       refine (l9Test_c n m (by omega) hm4 _).mono ?_
       rintro e w2 ⟨u, rfl, ho, hb2⟩
       go_wp2_with fail
       refine (l7Full_c u (dgs n m) _ (Ints.of_own ho) htst).mono ?_
       rintro e w3 ⟨rfl, hb3⟩
       have hb4 := Below.chain hb (Below.chain hb2 hb3)
       clear ho hb hb2 hb3
       rcases hq : fullB (dgs n m) with _ | _
       · have HS2 := Lib.hid (show otS gFull m (n + 1) = s by rw [HS.out]; simp [gFull, hq])
         have HQ2 := Lib.hid hq
         clear HS hq hgn
         go_wp2
         go_roundw
         case rel => exact ⟨n + 1, by omega, by go_num, by rw [HS2.out], hb4⟩
         case measure => simp [intOf]; omega
       · have HS2 := Lib.hid (show otS gFull m (n + 1) = s + 1 by rw [HS.out]; simp [gFull, hq])
         have HQ2 := Lib.hid hq
         clear HS hq hgn
         go_wp2
         go_roundw
         case rel => exact ⟨n + 1, by omega, by go_num, by rw [HS2.out]; exact int_val (by omega), hb4⟩
         case measure => simp [intOf]; omega
     · obtain rfl : n = N := by omega
       subst hwb
       generalize otS gFull m n = s at *
       obtain ⟨hd, hfz⟩ := box_after hb
       have d0 := hd 0 _ rfl
       have d1 := hd 1 _ rfl
       have z0 := hfz 0
       have z1 := hfz 1
       clear hd hfz
       rename World => w1
       have hb4 : Below w.heap.size w w1 := Below.chain (Below.alc (Below.refl _ _) _) hb
       clear hb
       have HN : n = n := rfl
       go_wp2_with fail
       refine (l9Cut_c s n (by omega) (by omega) (by omega) _).mono ?_
       rintro e w2 ⟨rfl, hb5⟩
       have e0 := cell_later hb5 d0
       have e1 := cell_later hb5 d1
       have f0 := hb5.frozen (p := ⟨w.heap.size, 0, none⟩) (World.block_lt_of_cell? _ _ d0) |>.trans z0
       have f1 := hb5.frozen (p := ⟨w.heap.size, 1, none⟩) (World.block_lt_of_cell? _ _ d1) |>.trans z1
       have hb6 := Below.chain hb4 hb5
       obtain ⟨u0, u1, hb7⟩ := two_set (.int .i64 (fracN s n)) (.int .i64 (fracD s n)) e0 e1 hb6 (Nat.le_refl _)
       clear hb4 hb5 d0 d1 z0 z1 hb6
       unfold fracV at HF ⊢
       go_wp2
       clear e0 e1 f0 f1
       generalize (World.setCell (World.setCell w2 _ _) _ _) = w3 at *
       refine bodyPost_ret (v := otV gFull (m : Int)) (by rw [HF.out]; simp [results, Tryz.results18, go_sem, u0, u1]) rfl ⟨rfl, hb7⟩
end Go.Proofs.YtbobiiodbbcodaaGreatDoor
