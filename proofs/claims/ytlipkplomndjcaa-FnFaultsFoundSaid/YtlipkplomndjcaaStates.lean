/- Walks of the functions that list states: all that are as told, all that a test finds or does not find. -/
import Derived.Test.YtlipkplomndjcaaState
import Derived.Test.YtlipkplomndjcaaPairs
namespace Go.Proofs.Ytlipkplomndjcaa
open Go.RowKit
set_option linter.unusedVariables false
set_option maxRecDepth 100000

theorem info_State : (Try.prog.info? 150).map (fun i => (i.zero, i.size, i.bytes)) = some (some (.agg #[.int .i64 0, .int .i64 0]), 2, 16) := by kernel_rfl

theorem states_c (fn : Nat) (cap : Array Value) (q : Int × Int → Bool) (w : World) (hf : CallsIt fn)
    (hp : ∀ (bar kind : Int) (w' : World), stateB bar kind = true → Below w.heap.size w w' → Calls Try.prog fn (#[.agg #[.int .i64 bar, .int .i64 kind]] ++ cap) w' fun e w'' => e = .returned (.bool (q (bar, kind))) ∧ Below w'.heap.size w' w'') :
    Calls Try.prog 176 #[.func (.func fn) #[] cap] w fun e w' => ∃ v, e = .returned v ∧ w'.ownsRow w.heap.size 150 2 v (allSt.filter q).length (flat2 (allSt.filter q)) ∧ Below w.heap.size w w' := by
  obtain ⟨i, hi, hz0, hz1, hz2⟩ := info_parts info_State
  have hf' : ∀ (bs : Array Value) (w : World), (callFunc fn bs).run Try.prog w = .ok (.enter fn bs) w := hf
  go_enter Try.func176, Try.ntmps176
  go_wp2
  go_loopw [3, 4, 5, 6] (fun v i _ _ wr => ∃ k : Nat, k ≤ 3 ∧ i = .int .i64 k ∧ wr.ownsRow w.heap.size 150 2 v (gridTo q (7 * k)).length (flat2 (gridTo q (7 * k))) ∧ Below w.heap.size w wr) (fun _ i _ _ _ => 3 - (intOf i).toNat)
  case atStart => exact ⟨0, by omega, rfl, World.ownsRow_nil _ _ _ _, Below.refl _ _⟩
  case round =>
    obtain ⟨k, hk, rfl, ho, hb⟩ := hrel
    by_cases hlt : k ≤ 2
    · have hd : decide ((k : Int) ≤ 2) = true := by simp; omega
      go_wp2
      go_loopw [3, 11, 5, 6] (fun v i _ _ wr => ∃ b : Nat, b ≤ 7 ∧ i = .int .i64 b ∧ wr.ownsRow w.heap.size 150 2 v (gridTo q (7 * k + b)).length (flat2 (gridTo q (7 * k + b))) ∧ Below w.heap.size w wr) (fun _ i _ _ _ => 7 - (intOf i).toNat)
      case atStart => exact ⟨0, by omega, rfl, ho, hb⟩
      case round =>
        obtain ⟨b, hbl, rfl, ho2, hb2⟩ := hrel
        clear ho hb
        by_cases hlt2 : b < 7
        · have hd2 : decide ((b : Int) < 7) = true := by simp; omega
          have hg := grid_at (show k < 3 by omega) hlt2
          have hs := gridTo_succ q hg
          have hle := gridTo_le q (7 * k + b)
          generalize gridTo q (7 * k + b) = cur at *
          have HS := Lib.hid hs; clear hs hg
          go_wp2_with fail
          refine (IsState_c (b : Int) (k : Int) _).mono ?_
          rintro e w1 ⟨rfl, hb3⟩
          rcases hst : stateB (b : Int) (k : Int) with _ | _
          · have HT := Lib.hid hst; clear hst
            go_wp2
            go_roundw
            case rel => exact ⟨b + 1, by omega, by go_num, by
              have e1 : gridTo q (7 * k + (b + 1)) = cur := by rw [← Nat.add_assoc, HS.out]; simp [stB, HT.out]
              rw [e1]
              exact (ho2.alloc _).kept (Below.gr hb3) (by cases Value.ownBlock _ <;> simp), by (repeat (first | exact Below.refl _ _ | exact (Below.refl _ _).drew | assumption | exact below_one _ | refine Below.chain ?_ (by assumption) | refine Below.drew ?_ | refine Below.alc ?_ _ | refine below_drewN ?_ | (refine Below.setCell ?_ ?_ _) | exact Nat.le_refl _ | (simp; done) | (simp; omega)))⟩
            case measure => simp [intOf]; omega
          · have HT := Lib.hid hst; clear hst
            have c0 : w1.cell? ⟨wr.heap.size, 0, none⟩ = some (.int .i64 b) := by
              rw [(bcell hb3).1 _ _ (by simp), World.cell?_alloc_at _ _ _ _ rfl]; rfl
            have c1 : w1.cell? ⟨wr.heap.size, 1, none⟩ = some (.int .i64 k) := by
              rw [(bcell hb3).1 _ _ (by simp), World.cell?_alloc_at _ _ _ _ rfl]; rfl
            have hb4 : Below w.heap.size w w1 := by (repeat (first | exact Below.refl _ _ | exact (Below.refl _ _).drew | assumption | exact below_one _ | refine Below.chain ?_ (by assumption) | refine Below.drew ?_ | refine Below.alc ?_ _ | refine below_drewN ?_ | (refine Below.setCell ?_ ?_ _) | exact Nat.le_refl _ | (simp; done) | (simp; omega)))
            have ho3 : w1.ownsRow w.heap.size 150 2 _ cur.length (flat2 cur) := (ho2.alloc _).kept (Below.gr hb3) (by cases Value.ownBlock _ <;> simp)
            clear ho2 hb3 hb2
            go_wp2_with fail
            refine (hp (b : Int) (k : Int) _ HT.out hb4).mono ?_
            rintro e w2 ⟨rfl, hb5⟩
            have d0 : w2.cell? ⟨wr.heap.size, 0, none⟩ = some (.int .i64 b) := cell_later hb5 c0
            have d1 : w2.cell? ⟨wr.heap.size, 1, none⟩ = some (.int .i64 k) := cell_later hb5 c1
            have hb6 : Below w.heap.size w w2 := by (repeat (first | exact Below.refl _ _ | exact (Below.refl _ _).drew | assumption | exact below_one _ | refine Below.chain ?_ (by assumption) | refine Below.drew ?_ | refine Below.alc ?_ _ | refine below_drewN ?_ | (refine Below.setCell ?_ ?_ _) | exact Nat.le_refl _ | (simp; done) | (simp; omega)))
            have ho4 : w2.ownsRow w.heap.size 150 2 _ cur.length (flat2 cur) := ho3.kept (Below.gr hb5) (by cases Value.ownBlock _ <;> simp)
            clear ho3 hb5 hb4 c0 c1
            rcases hq : q ((b : Int), (k : Int)) with _ | _
            · have HQ := Lib.hid hq; clear hq
              go_wp2
              go_roundw
              case rel => exact ⟨b + 1, by omega, by go_num, by
                have e1 : gridTo q (7 * k + (b + 1)) = cur := by rw [← Nat.add_assoc, HS.out]; simp [stB, HQ.out]
                rw [e1]; exact ho4, hb6⟩
              case measure => simp [intOf]; omega
            · have HQ := Lib.hid hq; clear hq
              go_wp2_with (at_builtin; refine wpList_append_own _ rfl _ _ 135 rfl w.heap.size 150 i (.agg #[.int .i64 0, .int .i64 0]) 2 16 Try.underlying135 hi hz0 hz1 hz2 rfl (by decide) _ cur.length (flat2 cur) rfl (ho4.alloc _) ⟨w2.heap.size, 0, none⟩ 1 1 [.int .i64 b, .int .i64 k] rfl rfl (news_new _ [.int .i64 b, .int .i64 k] _) (by simp [Value.oneCell']) (by unfold maxLen; omega) (by omega) (by have := hb6.size; simp; omega) ?_)
              intro v' w3 ho5 hg5 _
              have hb7 : Below w.heap.size w w3 := (Below.alc hb6 _).grown hg5 (by have := hb6.size; simp; omega) (fun g hg => (ho4.lt g hg).1)
              clear ho4 hb6 hg5
              go_wp2
              go_roundw
              case rel => exact ⟨b + 1, by omega, by go_num, by
                have e1 : gridTo q (7 * k + (b + 1)) = cur ++ [((b : Int), (k : Int))] := by rw [← Nat.add_assoc, HS.out]; simp [stB, HQ.out, HT.out]
                rw [e1]; exact ownsRow_cast ho5 (by simp) (flat2_snoc _ _ _).symm, hb7⟩
              case measure => simp [intOf]; omega
        · obtain rfl : b = 7 := by omega
          go_wp2
          go_roundw
          case rel => exact ⟨k + 1, by omega, by go_num, by rw [show 7 * (k + 1) = 7 * k + 7 by omega]; exact ho2, hb2⟩
          case measure => simp [intOf]; omega
    · obtain rfl : k = 3 := by omega
      go_wp2
      go_ret
      have e := gridTo_all q
      exact ⟨_, rfl, by rw [← e]; exact ho, hb⟩

/-- the states that a test finds, and those that it does not find -/
def foundSt (xs : List Int) : List (Int × Int) := allSt.filter fun s => decide (0 ≤ placeOf s.1 s.2 xs)
def hiddenSt (xs : List Int) : List (Int × Int) := allSt.filter fun s => s.2 != 0 && decide (placeOf s.1 s.2 xs < 0)
theorem allSt_length : allSt.length = 15 := by decide
theorem shC_zero {c : Int} (h0 : 0 ≤ c) (h1 : c ≤ 127) : shC 0 0 c = c := by
  have : ∀ n : Fin 128, ((n.1 &&& 127) ||| 0 : Nat) = n.1 := by decide +kernel
  obtain ⟨n, rfl⟩ := Int.eq_ofNat_of_zero_le h0
  have := this ⟨n, by omega⟩
  simp only [shC, Int.toNat_natCast, Int.toNat_zero] at this ⊢
  exact congrArg Int.ofNat this
theorem placeOf_good (xs : List Int) : placeOf 0 0 xs = -1 := by
  unfold placeOf
  apply firstAt_none (k := xs.length) (Nat.le_refl _)
  intro j x _ _
  have := dg_bd x
  simp [finds, stD, stL, shC_zero this.1 this.2]
theorem allSt_cons : allSt = (0, 0) :: allSt.drop 1 := by decide
theorem allSt_kind : ∀ s ∈ allSt.drop 1, (s.2 != 0) = true := by decide
theorem foundSt_eq (xs : List Int) : foundSt xs = (allSt.drop 1).filter fun s => decide (0 ≤ placeOf s.1 s.2 xs) == true := by
  unfold foundSt
  rw [allSt_cons, List.filter_cons]
  simp [placeOf_good]
theorem hiddenSt_eq (xs : List Int) : hiddenSt xs = (allSt.drop 1).filter fun s => decide (0 ≤ placeOf s.1 s.2 xs) == false := by
  unfold hiddenSt
  rw [allSt_cons, List.filter_cons]
  simp only [bne_self_eq_false, Bool.false_and, Bool.false_eq_true, if_false, List.drop_succ_cons, List.drop_zero]
  apply List.filter_congr
  intro s hs
  rw [allSt_kind s hs]
  by_cases h : placeOf s.1 s.2 xs < 0
  · simp [h]
  · simp [h]; omega
theorem found_hidden (xs : List Int) : (foundSt xs).length + (hiddenSt xs).length = 14 := by
  rw [foundSt_eq, hiddenSt_eq]
  have h : ∀ (l : List (Int × Int)) (p : Int × Int → Bool), (l.filter fun s => p s == true).length + (l.filter fun s => p s == false).length = l.length := by
    intro l p
    induction l with
    | nil => rfl
    | cons a l ih => cases hp : p a <;> simp [hp] at ih ⊢ <;> omega
  rw [h]; decide
def fullB (xs : List Int) : Bool := decide ((foundSt xs).length = 14)
theorem fullB_hidden (xs : List Int) : fullB xs = decide ((hiddenSt xs).length = 0) := by
  have := found_hidden xs
  unfold fullB
  by_cases h : (hiddenSt xs).length = 0
  · rw [decide_eq_true h, decide_eq_true (by omega)]
  · rw [decide_eq_false h, decide_eq_false (by omega)]

theorem found_c (v : Value) (xs : List Int) (w : World) (hv : Ints w v xs) (ht : testB xs = true) :
    Calls Try.prog 165 #[v] w fun e w' => ∃ u, e = .returned u ∧ w'.ownsRow w.heap.size 150 2 u (foundSt xs).length (flat2 (foundSt xs)) ∧ Below w.heap.size w w' := by
  obtain ⟨a, c, rfl, _, _, _⟩ := hv.parts
  have hc : ∀ w' : World, Below (w.alloc (.cells #[.slice a xs.length c] 24)).heap.size (w.alloc (.cells #[.slice a xs.length c] 24)) w' → w'.cell? ⟨w.heap.size, 0, none⟩ = some (.slice a xs.length c) := fun w' hb => by
    rw [(bcell hb).1 _ _ (by simp), World.cell?_alloc_at _ _ _ _ rfl]; rfl
  have HC := Lib.hid hc; clear hc
  go_enter Try.func165, Try.ntmps165
  go_wp2_with fail
  refine (states_c 177 #[.pointer (some ⟨w.heap.size, 0, none⟩)] (fun s => decide (0 ≤ placeOf s.1 s.2 xs)) _ (fun _ _ => by kernel_rfl) ?_).mono ?_
  · intro bar kind w1 hst hb
    have hc := HC.out w1 hb
    have hz : w.heap.size < w1.heap.size := World.block_lt_of_cell? w1 _ hc
    have hv1 : Ints w1 _ xs := (hv.below (below_one _)).below hb
    go_enter Try.func177, Try.ntmps177
    go_wp2_with fail
    refine (finding_c _ xs bar kind _ (hv1.below (below_one _)) hst ht).mono ?_
    rintro e w2 ⟨rfl, hb2⟩
    go_wp2
    go_ret
    exact ⟨bool_ret (by simp), by (repeat (first | exact Below.refl _ _ | exact (Below.refl _ _).drew | assumption | exact below_one _ | refine Below.chain ?_ (by assumption) | refine Below.drew ?_ | refine Below.alc ?_ _ | refine below_drewN ?_ | (refine Below.setCell ?_ ?_ _) | exact Nat.le_refl _ | (simp; done) | (simp; omega)))⟩
  · rintro e w1 ⟨u, rfl, ho, hb⟩
    have ho' : w1.ownsRow w.heap.size 150 2 u (foundSt xs).length (flat2 (foundSt xs)) := own_lo ho (by simp)
    go_wp2
    go_ret
    exact ⟨u, rfl, ho', (below_one _).trans (hb.mono (by simp))⟩
theorem isFull_c (v : Value) (xs : List Int) (w : World) (hv : Ints w v xs) (ht : testB xs = true) :
    Calls Try.prog 140 #[v] w fun e w' => e = .returned (.bool (fullB xs)) ∧ Below w.heap.size w w' := by
  go_enter Try.func140, Try.ntmps140
  go_wp2_with fail
  refine (found_c v xs _ hv ht).mono ?_
  rintro e w1 ⟨u, rfl, ho, hb⟩
  obtain ⟨a, c, rfl, _⟩ := (Sl.of_own ho).slice
  go_wp2
  go_ret
  refine ⟨bool_ret ?_, hb⟩
  unfold fullB
  rw [Bool.eq_iff_iff]; simp; omega
/-- what the reference's list of all states has behind its first k kinds and b bars -/
def allTo (m : Nat) : List (Int × Int) := (0, 0) :: (grid.drop 7).take m
theorem allTo_succ_fin : ∀ (k : Fin 2) (b : Fin 7), allTo (7 * k.1 + b.1 + 1) = allTo (7 * k.1 + b.1) ++ [((b.1 : Int), (k.1 : Int) + 1)] := by decide
theorem allTo_le (m : Nat) : (allTo m).length ≤ 15 := by
  unfold allTo
  simp [grid]; omega
theorem l7All_c (w : World) : Calls Try.prog 174 #[] w fun e w' => ∃ v, e = .returned v ∧ w'.ownsRow w.heap.size 150 2 v allSt.length (flat2 allSt) ∧ Below w.heap.size w w' := by
  obtain ⟨i, hi, hz0, hz1, hz2⟩ := info_parts info_State
  have ho0 := World.ownsRow_lit (e := 150) (size := 2) (base := w.heap.size) w #[.int .i64 0, .int .i64 0] 1 (Nat.le_refl _) (by decide) rfl
  go_enter Try.func174, Try.ntmps174
  go_wp2
  go_loopw [1, 2, 3] (fun v i _ wr => ∃ k : Nat, k ≤ 2 ∧ i = .int .i64 ((k : Int) + 1) ∧ wr.ownsRow w.heap.size 150 2 v (allTo (7 * k)).length (flat2 (allTo (7 * k))) ∧ Below w.heap.size w wr) (fun _ i _ _ => 4 - (intOf i).toNat)
  case atStart => exact ⟨0, by omega, rfl, ho0, below_one _⟩
  case round =>
    obtain ⟨k, hk, rfl, ho, hb⟩ := hrel
    clear ho0
    by_cases hlt : k < 2
    · have hd : decide ((k : Int) + 1 ≤ 2) = true := by simp; omega
      go_wp2
      go_loopw [1, 3] (fun v i wr => ∃ b : Nat, b ≤ 7 ∧ i = .int .i64 b ∧ wr.ownsRow w.heap.size 150 2 v (allTo (7 * k + b)).length (flat2 (allTo (7 * k + b))) ∧ Below w.heap.size w wr) (fun _ i _ => 7 - (intOf i).toNat)
      case atStart => exact ⟨0, by omega, rfl, ho, hb⟩
      case round =>
        obtain ⟨b, hbl, rfl, ho2, hb2⟩ := hrel
        clear ho hb
        by_cases hlt2 : b < 7
        · have hd2 : decide ((b : Int) < 7) = true := by simp; omega
          have hs := allTo_succ_fin ⟨k, hlt⟩ ⟨b, hlt2⟩
          have hle := allTo_le (7 * k + b)
          simp only at hs
          generalize allTo (7 * k + b) = cur at *
          have HS := Lib.hid hs; clear hs
          go_wp2_with (at_builtin; refine wpList_append_own _ rfl _ _ 135 rfl w.heap.size 150 i (.agg #[.int .i64 0, .int .i64 0]) 2 16 Try.underlying135 hi hz0 hz1 hz2 rfl (by decide) _ cur.length (flat2 cur) rfl (ho2.alloc _) ⟨wr.heap.size, 0, none⟩ 1 1 [.int .i64 b, .int .i64 ((k : Int) + 1)] rfl rfl (news_new _ [.int .i64 b, .int .i64 ((k : Int) + 1)] _) (by simp [Value.oneCell']) (by unfold maxLen; omega) (by omega) (by have := hb2.size; simp; omega) ?_)
          intro v' w3 ho5 hg5 _
          have hb7 : Below w.heap.size w w3 := (Below.alc hb2 _).grown hg5 (by have := hb2.size; simp; omega) (fun g hg => (ho2.lt g hg).1)
          clear ho2 hb2 hg5
          go_wp2
          go_roundw
          case rel => exact ⟨b + 1, by omega, by go_num, by rw [← Nat.add_assoc, HS.out]; exact ownsRow_cast ho5 (by simp) (flat2_snoc _ _ _).symm, hb7⟩
          case measure => simp [intOf]; omega
        · obtain rfl : b = 7 := by omega
          go_wp2
          go_roundw
          case rel => exact ⟨k + 1, by omega, by go_num, by rw [show 7 * (k + 1) = 7 * k + 7 by omega]; exact ho2, hb2⟩
          case measure => simp [intOf]; omega
    · obtain rfl : k = 2 := by omega
      go_wp2
      go_ret
      exact ⟨_, rfl, ho, hb⟩
/-- the states but the good one that a test finds (f), or does not find, among the first m -/
def l7F (xs : List Int) (f : Bool) (m : Nat) : List (Int × Int) := ((allSt.drop 1).take m).filter fun s => decide (0 ≤ placeOf s.1 s.2 xs) == f
theorem l7F_zero (xs : List Int) (f : Bool) : l7F xs f 0 = [] := rfl
theorem l7F_le (xs : List Int) (f : Bool) (m : Nat) : (l7F xs f m).length ≤ 14 :=
  Nat.le_trans (List.length_filter_le _ _) (by rw [List.length_take]; simp [allSt, grid]; omega)
theorem l7F_succ (xs : List Int) (f : Bool) {m : Nat} {s : Int × Int} (hs : allSt[m + 1]? = some s) : l7F xs f (m + 1) = l7F xs f m ++ if decide (0 ≤ placeOf s.1 s.2 xs) == f then [s] else [] := by
  have hs2 : (allSt.drop 1)[m]? = some s := by rw [List.getElem?_drop, Nat.add_comm]; exact hs
  unfold l7F
  rw [take_snoc hs2, List.filter_append]
  cases hq : (decide (0 ≤ placeOf s.1 s.2 xs) == f) <;> simp [hq]
theorem l7F_found (xs : List Int) : l7F xs true 14 = foundSt xs := by rw [foundSt_eq]; rfl
theorem l7F_hidden (xs : List Int) : l7F xs false 14 = hiddenSt xs := by rw [hiddenSt_eq]; rfl
theorem allSt_ok : ∀ s ∈ allSt, stateB s.1 s.2 = true := by decide
theorem l7Found_c (v : Value) (xs : List Int) (f : Bool) (w : World) (hv : Ints w v xs) (ht : testB xs = true) :
    Calls Try.prog 163 #[v, .bool f] w fun e w' => ∃ u, e = .returned u ∧ w'.ownsRow w.heap.size 150 2 u (l7F xs f 14).length (flat2 (l7F xs f 14)) ∧ Below w.heap.size w w' := by
  obtain ⟨i, hi, hz0, hz1, hz2⟩ := info_parts info_State
  have ho0 := World.ownsRow_lit (e := 150) (size := 2) (base := w.heap.size) w #[] 0 (Nat.le_refl _) (by decide) rfl
  go_enter Try.func163, Try.ntmps163
  go_wp2_with fail
  refine (l7All_c _).mono ?_
  rintro e w1 ⟨u, rfl, hoA, hbA⟩
  obtain ⟨g, cap, hu, hg0, hg1, _, _⟩ := own_form hoA (by rw [allSt_length]; omega)
  have hA : Pairs w1 u allSt := Pairs.of_own hoA
  have ho1 := ho0.kept (Below.gr hbA) (by cases Value.ownBlock _ <;> simp)
  have hb1 : Below w.heap.size w w1 := (below_one _).trans (hbA.mono (by simp))
  have hl15 : allSt.length = 15 := allSt_length
  rw [hl15] at hu
  subst hu
  have hgw : w.heap.size < g := by simp at hg0; omega
  have hm := hv.le
  clear hoA hbA ho0 hg0 hl15
  go_wp2
  go_loopw [5, 7] (fun o j wr => ∃ k : Nat, k ≤ 14 ∧ j = .int .i64 ((k : Int) + 1) ∧ wr.ownsRow w.heap.size 150 2 o (l7F xs f k).length (flat2 (l7F xs f k)) ∧ Below w.heap.size w wr ∧ Pairs wr (.slice (some ⟨g, 0, none⟩) 15 cap) allSt ∧ o.ownBlock ≠ some g ∧ g < wr.heap.size) (fun _ j _ => 16 - (intOf j).toNat)
  case atStart => exact ⟨0, by omega, rfl, ho1, hb1, hA, by simp [Value.ownBlock]; omega, hg1⟩
  case round =>
    obtain ⟨k, hk, rfl, ho, hb, hP, hne, hgl⟩ := hrel
    clear ho1 hb1 hA
    by_cases hlt : k < 14
    · have hlt15 : (k : Int) + 1 < 15 := by omega
      obtain ⟨s, hs⟩ := elem_at (show k + 1 < allSt.length by rw [allSt_length]; omega)
      have hok := allSt_ok s (List.mem_of_getElem? hs.out)
      obtain ⟨a0, c0, he, _, _, HA⟩ := hP.parts
      obtain ⟨b2, off2, e2, g0, g1⟩ := HA.out _ _ hs.out
      obtain ⟨rfl, rfl⟩ : b2 = g ∧ off2 = 0 := by
        rw [e2] at he; injection he with h1 _ _; injection h1 with h1; injection h1 with h1 h2 _; exact ⟨h1.symm, h2.symm⟩
      clear he HA e2
      simp only [Nat.zero_add] at g0 g1
      obtain ⟨bar, kind⟩ := s
      have hv1 : Ints wr v xs := hv.below hb
      have hsc := l7F_succ xs f hs.out
      have hle := l7F_le xs f k
      generalize l7F xs f k = cur at *
      have HS := Lib.hid hsc; clear hsc
      have hd : decide ((k : Int) + 1 < 15) = true := by simp; omega
      go_wp2_with fail
      refine (l7Place_c v xs bar kind _ hv1 hok ht).mono ?_
      rintro e w2 ⟨rfl, hb2⟩
      have g02 := cell_later hb2 g0
      have g12 := cell_later hb2 g1
      have hb3 : Below w.heap.size w w2 := by (repeat (first | exact Below.refl _ _ | exact (Below.refl _ _).drew | assumption | exact below_one _ | refine Below.chain ?_ (by assumption) | refine Below.drew ?_ | refine Below.alc ?_ _ | refine below_drewN ?_ | (refine Below.setCell ?_ ?_ _) | exact Nat.le_refl _ | (simp; done) | (simp; omega)))
      have ho2 := ho.kept (Below.gr hb2) (by cases Value.ownBlock _ <;> simp)
      have hP2 := hP.below hb2
      have hgl2 : b2 < w2.heap.size := Nat.lt_of_lt_of_le hgl hb2.size
      clear ho hb hP hgl g0 g1 hb2 hv1
      rcases hq : (decide (0 ≤ placeOf bar kind xs) == f) with _ | _
      · have hS2 : l7F xs f (k + 1) = cur := by rw [HS.out]; simp [hq]
        have HS2 := Lib.hid hS2; clear hS2 HS
        go_wp2
        go_roundw
        case rel => exact ⟨k + 1, by omega, by go_num, by rw [HS2.out]; exact ho2, hb3, hP2, hne, hgl2⟩
        case measure => simp [intOf]; omega
      · have hS2 : l7F xs f (k + 1) = cur ++ [(bar, kind)] := by rw [HS.out]; simp [hq]
        have HS2 := Lib.hid hS2; clear hS2 HS
        go_wp2_with (at_builtin; refine wpList_append_own_at _ rfl _ _ 135 rfl w.heap.size 150 i (.agg #[.int .i64 0, .int .i64 0]) 2 16 Try.underlying135 hi hz0 hz1 hz2 rfl (by decide) _ cur.length (flat2 cur) rfl (ho2.alloc _) ⟨w2.heap.size, 0, none⟩ 1 1 [.int .i64 bar, .int .i64 kind] rfl rfl (news_new _ [.int .i64 bar, .int .i64 kind] _) (by simp [Value.oneCell']) (by unfold maxLen; omega) (by omega) (by have := hb3.size; simp; omega) ?_)
        intro v' w3 ho5 hg5 _ hat
        have hb7 : Below w.heap.size w w3 := (Below.alc hb3 _).grown hg5 (by have := hb3.size; simp; omega) (fun g hg => (ho2.lt g hg).1)
        have hP3 : Pairs w3 (.slice (some ⟨b2, 0, none⟩) 15 cap) allSt := (hP2.below (below_one _)).grown hg5 (.inr (by simpa [Value.ownBlock] using (Ne.symm hne)))
        have hne3 : v'.ownBlock ≠ some b2 := by
          rcases hat with h | h
          · rw [h]; exact hne
          · rw [h]; simp; omega
        have hgl3 : b2 < w3.heap.size := Nat.lt_of_lt_of_le (by simp; omega) hg5.size
        clear ho2 hb3 hP2 hne hgl2 hg5 hat g02 g12
        go_wp2
        go_roundw
        case rel => exact ⟨k + 1, by omega, by go_num, by rw [HS2.out]; exact ownsRow_cast ho5 (by simp) (flat2_snoc _ _ _).symm, hb7, hP3, hne3, hgl3⟩
        case measure => simp [intOf]; omega
    · obtain rfl : k = 14 := by omega
      go_wp2
      go_ret
      exact ⟨_, rfl, ho, hb⟩
theorem l7Full_c (v : Value) (xs : List Int) (w : World) (hv : Ints w v xs) (ht : testB xs = true) :
    Calls Try.prog 136 #[v] w fun e w' => e = .returned (.bool (fullB xs)) ∧ Below w.heap.size w w' := by
  go_enter Try.func136, Try.ntmps136
  go_wp2_with fail
  refine (l7Found_c v xs false _ hv ht).mono ?_
  rintro e w1 ⟨u, rfl, ho, hb⟩
  obtain ⟨a, c, rfl, _⟩ := (Sl.of_own ho).slice
  go_wp2
  go_ret
  refine ⟨bool_ret ?_, hb⟩
  rw [fullB_hidden, ← l7F_hidden, Bool.eq_iff_iff]; simp
/-- what both texts of IsFullTest return -/
def isFullV (xs : List Int) : Value := .tuple #[.bool (testB xs && fullB xs), .bool (testB xs)]
theorem IsFullTest_c (v : Value) (xs : List Int) (w : World) (hv : Ints w v xs) :
    Calls Try.prog 77 #[v] w fun e w' => e = .returned (isFullV xs) ∧ Below w.heap.size w w' := by
  rcases ht : testB xs with _ | _
  · have HF0 : isFullV xs = .tuple #[.bool false, .bool false] := by simp [isFullV, ht]
    have HF := Lib.hid HF0; clear HF0; have HT := Lib.hid ht; clear ht
    go_enter Try.func77, Try.ntmps77
    go_wp2_with fail
    refine (isTest_c v xs _ hv).mono ?_
    rintro e w1 ⟨rfl, hb1⟩
    rw [HT.out]
    go_wp2
    go_ret2
    exact ⟨by rw [HF.out]; rfl, by (repeat (first | exact Below.refl _ _ | exact (Below.refl _ _).drew | assumption | exact below_one _ | refine Below.chain ?_ (by assumption) | refine Below.drew ?_ | refine Below.alc ?_ _ | refine below_drewN ?_ | (refine Below.setCell ?_ ?_ _) | exact Nat.le_refl _ | (simp; done) | (simp; omega)))⟩
  · have HF0 : isFullV xs = .tuple #[.bool (fullB xs), .bool true] := by simp [isFullV, ht]
    have HF := Lib.hid HF0; clear HF0; have HT := Lib.hid ht; clear ht
    go_enter Try.func77, Try.ntmps77
    go_wp2_with fail
    refine (isTest_c v xs _ hv).mono ?_
    rintro e w1 ⟨rfl, hb1⟩
    rw [HT.out]
    go_wp2_with fail
    refine (isFull_c v xs _ (hv.below hb1) HT.out).mono ?_
    rintro e w2 ⟨rfl, hb2⟩
    go_wp2
    go_ret2
    exact ⟨by rw [HF.out]; rfl, by (repeat (first | exact Below.refl _ _ | exact (Below.refl _ _).drew | assumption | exact below_one _ | refine Below.chain ?_ (by assumption) | refine Below.drew ?_ | refine Below.alc ?_ _ | refine below_drewN ?_ | (refine Below.setCell ?_ ?_ _) | exact Nat.le_refl _ | (simp; done) | (simp; omega)))⟩
end Go.Proofs.Ytlipkplomndjcaa
