/- Texts of this claim, gathered: State, Frac, Dark, Dark2, Dark3, AllFault, RowsOf, ToFaults, ShownRow, Told, Dark4, States, States2, Drawn, Drawn2, Mb. -/
import Derived.Test.YtohgjfdbnkjefaaGreatDoorKw3
import Derived.Deep.RegionHeld3
import Derived.Deep.AppendLies
import Derived.Test.YtohgjfdbnkjefaaGreatDoorSf
import Derived.Lib.SmallJoins
import Derived.Lib.OthersKept
import Derived.Lib.ItoaNum
namespace Go.Proofs.YtohgjfdbnkjefaaGreatDoor
open Go.RowKit
set_option linter.unusedVariables false
theorem IsState_c (bar kind : Int) (w : World) : Calls Tryz.prog 300 #[.agg #[.int .i64 bar, .int .i64 kind]] w fun e w' => e = .returned (.bool (stateB bar kind)) ∧ Below w.heap.size w w' := by
 by_cases h0 : kind = 0
 · subst h0
   go_enter Tryz.func300, Tryz.ntmps300
   go_wp2_with (go_at_call 94; refine (within_c _ _ _ _).mono ?_; rintro e w' ⟨rfl, rfl⟩)
   all_goals (go_ret; exact ⟨bool_ret (by simp_all [stateB, inB]; try omega), below_one _⟩)
 · have h1 : (kind != 0) = true := by simpa using h0
   go_enter Tryz.func300, Tryz.ntmps300
   go_wp2_with (go_at_call 94; refine (within_c _ _ _ _).mono ?_; rintro e w' ⟨rfl, rfl⟩)
   all_goals (go_ret; exact ⟨bool_ret (by simp_all [stateB, inB]; try omega), below_one _⟩)
def faultV (bar kind : Int) : Value := .agg #[.int .i64 (stD bar kind), .int .i64 (stL bar kind)]
theorem Sfault_c (bar kind : Int) (h : stateB bar kind = true) (w : World) : Calls Tryz.prog 301 #[.agg #[.int .i64 bar, .int .i64 kind]] w fun e w' => e = .returned (faultV bar kind) ∧ Below w.heap.size w w' := by
 rcases stateB_cases h with ⟨rfl, rfl⟩ | ⟨rfl, h0, h1⟩ | ⟨rfl, h0, h1⟩
 · go_enter Tryz.func301, Tryz.ntmps301
   go_wp2
   exact bodyPost_ret (v := faultV 0 0) (by simp [results, Tryz.results301, go_sem, faultV, stD, stL]) rfl ⟨rfl, (below_one _).alloc (by simp) _⟩
 · rcases bar_cases h0 h1 with rfl | rfl | rfl | rfl | rfl | rfl | rfl
   all_goals
    clear h0 h1 h
    go_enter Tryz.func301, Tryz.ntmps301
    go_wp2
    refine bodyPost_ret (v := faultV _ 1) (by simp [results, Tryz.results301, go_sem, faultV, stD, stL]) rfl ⟨rfl, ?_⟩
    repeat (first | exact below_one _ | apply Below.setCell | apply Below.alloc | simp)
 · rcases bar_cases h0 h1 with rfl | rfl | rfl | rfl | rfl | rfl | rfl
   all_goals
    clear h0 h1 h
    go_enter Tryz.func301, Tryz.ntmps301
    go_wp2
    refine bodyPost_ret (v := faultV _ 2) (by simp [results, Tryz.results301, go_sem, faultV, stD, stL]) rfl ⟨rfl, ?_⟩
    repeat (first | exact below_one _ | apply Below.setCell | apply Below.alloc | simp)
theorem isTest_c (v : Value) (xs : List Int) (w : World) (hv : Ints w v xs) : Calls Tryz.prog 196 #[v] w fun e w' => e = .returned (.bool (testB xs)) ∧ Below w.heap.size w w' := by
 obtain ⟨a, c, hvv, hc1, hc2, HC⟩ := hv.parts
 by_cases h : xs.length ≤ 10
 · subst hvv
   go_enter Tryz.func196, Tryz.ntmps196
   go_wp2_with (go_at_call 109; refine (areAllInt_c _ xs 153 digitB _ hv (fun _ _ => by kernel_rfl) (fun x w' => isDigit_c x w')).mono ?_; rintro e w' ⟨rfl, hb⟩)
   go_ret
   exact ⟨bool_ret (by simp [testB, h]), by assumption⟩
 · subst hvv
   go_enter Tryz.func196, Tryz.ntmps196
   go_wp2_with fail
   go_ret
   exact ⟨bool_ret (by simp [testB]; omega), Below.refl _ _⟩
def placeOf (bar kind : Int) (xs : List Int) : Int := firstAt (finds bar kind) xs
theorem finding_c (v : Value) (xs : List Int) (bar kind : Int) (w : World) (hv : Ints w v xs) (hs : stateB bar kind = true) (ht : testB xs = true) :
 Calls Tryz.prog 284 #[.agg #[.int .i64 bar, .int .i64 kind], v] w fun e w' => e = .returned (.int .i64 (placeOf bar kind xs)) ∧ Below w.heap.size w w' := by
 have bd := stDL_bd hs
 go_enter Tryz.func284, Tryz.ntmps284
 go_wp2_with fail
 refine (Sfault_c bar kind hs _).mono ?_
 rintro e w1 ⟨rfl, hb1⟩
 unfold faultV
 go_wp2_with fail
 refine (IndexFuncInt_c v xs 302 #[.pointer (some ⟨w1.heap.size, 0, none⟩)] (finds bar kind) _ ?_ (fun _ _ => by kernel_rfl) ?_).mono ?_
 · exact Ints.below (Ints.below (Ints.below hv (below_one _)) hb1) (below_one _)
 · intro x w2 hx hb2
   have hd : 0 ≤ x ∧ x ≤ 9 := by
    simp only [testB, Bool.and_eq_true, List.all_eq_true] at ht
    exact digitB_true (ht.2 x hx)
   have hx0 := hd.1; have hx1 := hd.2
   have bdx := dg_bd x
   have c0 : w2.cell? ⟨w1.heap.size, 0, none⟩ = some (.int .i64 (stD bar kind)) := by
    rw [(bcell hb2).1 _ _ (by simp), World.cell?_alloc_at _ _ _ _ rfl]; rfl
   have c1 : w2.cell? ⟨w1.heap.size, 1, none⟩ = some (.int .i64 (stL bar kind)) := by
    rw [(bcell hb2).1 _ _ (by simp), World.cell?_alloc_at _ _ _ _ rfl]; rfl
   have hix := fun w => index_dig x hx0 hx1 w
   clear hv hb1 hb2 hs ht hx hd
   go_enter Tryz.func302, Tryz.ntmps302
   go_wp2_with fail
   go_region_held3 (fun w' => w'.cell? ⟨w1.heap.size, 0, none⟩ = some (.int .i64 (stD bar kind)) ∧ w'.cell? ⟨w1.heap.size, 1, none⟩ = some (.int .i64 (stL bar kind)))
    (first | go_keep | (go_split_ands; exact ⟨cell_later (by assumption) (by assumption), cell_later (by assumption) (by assumption)⟩))
    (first | (go_at_call 112; refine (digitCells_c _).mono ?_; rintro e w' ⟨rfl, hb⟩) | (go_at_call 108; refine (shown_c _ _ _ (by omega) (by omega) (by omega) (by omega) (by omega) (by omega) _).mono ?_; rintro e w' ⟨rfl, hb⟩))
   go_wp2
   go_ret
   exact ⟨rfl, by (repeat (first | exact Below.refl _ _ | exact (Below.refl _ _).drew | assumption | exact below_one _ | refine Below.chain ?_ (by assumption) | refine Below.drew ?_ | refine Below.alc ?_ _ | refine below_drewN ?_ | (refine Below.setCell ?_ ?_ _) | exact Nat.le_refl _ | (simp; done) | (simp; omega)))⟩
 · rintro e w3 ⟨rfl, hb3⟩
   go_wp2
   go_ret
   exact ⟨rfl, ((((below_one _).trans (hb1.mono (by simp))).alloc (by have := hb1.size; simp at this; omega) _).trans (hb3.mono (by have := hb1.size; simp at this ⊢; omega)))⟩
set_option maxRecDepth 100000
def fracN (a b : Nat) : Int := ((a / Nat.gcd a b : Nat) : Int)
def fracD (a b : Nat) : Int := ((b / Nat.gcd a b : Nat) : Int)
def fracV (a b : Nat) : Value := .agg #[.int .i64 (fracN a b), .int .i64 (fracD a b)]
theorem fraction_c (a b : Nat) (ha : a ≤ 1000000000) (hb : b ≤ 1000000000) (hb0 : 0 < b) (w : World) : Calls Tryz.prog 199 #[.int .i64 a, .int .i64 b] w fun e w' => e = .returned (fracV a b) ∧ Below w.heap.size w w' := by
 have hg0 : 0 < Nat.gcd a b := Nat.gcd_pos_of_pos_right _ hb0
 have hgl : Nat.gcd a b ≤ b := Nat.gcd_le_right _ hb0
 have hb0' := below_one (w := w) (.cells #[.int .i64 0, .int .i64 0] 174)
 have c0 : (w.alloc (.cells #[.int .i64 0, .int .i64 0] 174)).cell? ⟨w.heap.size, 0, none⟩ = some (.int .i64 0) := by rw [World.cell?_alloc_at _ _ _ _ rfl]; rfl
 go_enter Tryz.func199, Tryz.ntmps199
 go_wp2
 go_loopw [5, 6] (fun x y wr => ∃ p q : Nat, x = .int .i64 (p : Int) ∧ y = .int .i64 (q : Int) ∧ p ≤ 1000000000 ∧ q ≤ 1000000000 ∧ Hid (Nat.gcd p q = Nat.gcd a b) ∧ Hid (∃ n, wr = (w.alloc (.cells #[.int .i64 0, .int .i64 0] 174)).drewN n)) (fun _ y _ => (intOf y).toNat)
 case atStart => exact ⟨a, b, rfl, rfl, ha, hb, rfl, ⟨0, rfl⟩⟩
 case round =>
  obtain ⟨p, q, rfl, rfl, hp, hq, hgc, hw⟩ := hrel
  obtain ⟨n, rfl⟩ := hw.out
  by_cases hz : q = 0
  · have hzb : ((q : Int) != 0) = false := by simp [hz]
    have hpg : p = Nat.gcd a b := by rw [← hgc.out, hz]; simp
    have HZ := Lib.hid hz; have HP := Lib.hid hpg; clear hz hpg
    have hp0 : (0 : Int) < (p : Int) := by have := HP.out; omega
    have e1 : wrap64 ((a : Int) / (p : Int)) = fracN a b := by
     unfold fracN; rw [← HP.out]
     have : a / p ≤ a := Nat.div_le_self _ _
     rw [show ((a : Int) / (p : Int)) = ((a / p : Nat) : Int) by simp]
     generalize a / p = t at *
     simp only [wrap64]; omega
    have e2 : wrap64 ((b : Int) / (p : Int)) = fracD a b := by
     unfold fracD; rw [← HP.out]
     have : b / p ≤ b := Nat.div_le_self _ _
     rw [show ((b : Int) / (p : Int)) = ((b / p : Nat) : Int) by simp]
     generalize b / p = t at *
     simp only [wrap64]; omega
    go_wp2
    go_region
    go_wp2
    refine bodyPost_ret (v := fracV a b) (by simp [results, Tryz.results199, go_sem, fracV, e1, e2]) rfl ⟨rfl, by (repeat (first | exact Below.refl _ _ | exact (Below.refl _ _).drew | assumption | exact below_one _ | refine Below.chain ?_ (by assumption) | refine Below.drew ?_ | refine Below.alc ?_ _ | refine below_drewN ?_ | (refine Below.setCell ?_ ?_ _) | exact Nat.le_refl _ | (simp; done) | (simp; omega)))⟩
  · have hzb : ((q : Int) != 0) = true := by simp [hz]
    have hq0 : (0 : Int) < (q : Int) := by omega
    go_wp2
    go_quiet (fail)
    go_wp2
    go_roundw
    case rel => exact ⟨q, p % q, rfl, int_val (by simp), hq, by have := Nat.mod_lt p (show 0 < q by omega); omega, by rw [Hid, ← hgc.out, Nat.gcd_comm p q, Nat.gcd_rec q p, Nat.gcd_comm], ⟨_, World.drewN_drewN _ _ _⟩⟩
    case measure =>
     have := Nat.mod_lt p (show 0 < q by omega)
     simp only [intOf]; omega
theorem OwnSS.parts {w : World} {lo : Nat} {u : Value} {xss : List (List Int)} (h : OwnSS w lo u xss) : ∃ a c, u = .slice a xss.length c ∧ xss.length ≤ 9223372036854775807 ∧
 Hid (∀ k xs, xss[k]? = some xs → ∃ b off a' c', a = some ⟨b, off, none⟩ ∧ w.cell? ⟨b, off + k, none⟩ = some (.slice a' xs.length c') ∧ xs.length ≤ 9223372036854775807 ∧ Ints w (.slice a' xs.length c') xs) := by
 obtain ⟨vs, ho, hi⟩ := h
 have hle := (Sl.of_own ho).le
 obtain ⟨a, c, rfl, h1, h2, h3, h4⟩ := Sl.of_own ho
 refine ⟨a, c, rfl, hle, fun k xs hk => ?_⟩
 have hlt : k < xss.length := (List.getElem?_eq_some_iff.1 hk).1
 obtain ⟨b, off, rfl, hc⟩ := h4 (by omega)
 have hv : vs[k]? = some vs[k] := List.getElem?_eq_getElem (by rw [hi.1]; exact hlt)
 have hown := hi.2.1 k _ _ hv hk
 have hI : Ints w vs[k] xs := Ints.of_own hown
 obtain ⟨a', c', e, _⟩ := hI.parts
 refine ⟨b, off, a', c', rfl, by rw [hc k (by omega), hv, e], ?_, by rw [← e]; exact hI⟩
 exact hI.le
def dkH (kind : Int) (xs : List Int) : Bool := kind == 1 || (kind == 2 && xs.length == 1)
def dkI (kind : Int) (xss : List (List Int)) (i : Nat) : Nat := ((xss.take i).filter (dkH kind)).length
theorem dkI_le (kind : Int) (xss : List (List Int)) (i : Nat) : dkI kind xss i ≤ xss.length :=
 Nat.le_trans (List.length_filter_le _ _) (List.length_take_le' _ _)
theorem firstAt_not_allP {xs : List (Int × Int)} {p : Int × Int → Bool} : (decide (0 ≤ firstAt (fun x => !p x) xs)) = !(xs.all p) := by
 unfold firstAt
 cases h : xs.findIdx? (fun x => !p x) with
 | none => rw [List.findIdx?_eq_none_iff] at h; simp; exact fun a b hx => by simpa using h (a, b) hx
 | some i =>
  rw [List.findIdx?_eq_some_iff_getElem] at h; obtain ⟨hl, h1, _⟩ := h
  simp; exact ⟨xs[i].1, xs[i].2, List.getElem_mem hl, by simpa using h1⟩
theorem IndexFuncFault_c (v : Value) (xs : List (Int × Int)) (fn : Nat) (cap : Array Value) (p : Int × Int → Bool) (w : World) (hv : Pairs w v xs) (hf : CallsIt fn)
 (hp : ∀ (x : Int × Int) (w' : World), x ∈ xs → Below w.heap.size w w' → Calls Tryz.prog fn (#[.agg #[.int .i64 x.1, .int .i64 x.2]] ++ cap) w' fun e w'' => e = .returned (.bool (p x)) ∧ Below w'.heap.size w' w'') :
 Calls Tryz.prog 190 #[v, .func (.func fn) #[] cap] w fun e w' => e = .returned (.int .i64 (firstAt p xs)) ∧ Below w.heap.size w w' := by
 obtain ⟨a, c, rfl, hc1, hc2, HC⟩ := hv.parts
 have hf' : ∀ (bs : Array Value) (w : World), (callFunc fn bs).run Tryz.prog w = .ok (.enter fn bs) w := hf
 go_enter Tryz.func190, Tryz.ntmps190
 go_wp2
 go_loopw [8] (fun i wr => ∃ k : Nat, k ≤ xs.length ∧ i = .int .i64 k ∧ Hid (∀ j x, j < k → xs[j]? = some x → p x = false) ∧ Below w.heap.size w wr) (fun i _ => xs.length - (intOf i).toNat)
 case atStart => exact ⟨0, by omega, rfl, fun j x hj => by omega, Below.refl _ _⟩
 case round =>
  obtain ⟨k, hk, rfl, hbef, hb⟩ := hrel
  have hlen := hv.le
  by_cases hlt : k < xs.length
  · obtain ⟨x, hx⟩ := elem_at hlt
    obtain ⟨b, off, rfl, g0, g0'⟩ := HC.out k x hx.out
    have g1 := cell_later hb g0
    have g1' := cell_later hb g0'
    clear g0 g0'
    go_wp2_with fail
    refine (hp x _ (List.mem_of_getElem? hx.out) hb).mono ?_
    rintro e w1 ⟨rfl, hb1⟩
    have hb2 : Below w.heap.size w w1 := hb.trans (hb1.mono hb.size)
    rcases hpx : p x with _ | _
    · have HP := Lib.hid hpx; clear hpx
      go_wp2
      go_roundw
      case rel => exact ⟨k + 1, by omega, by go_num, fun j y hj hy => by
       by_cases hj2 : j < k
       · exact hbef.out j y hj2 hy
       · obtain rfl : j = k := by omega
         rw [hx.out] at hy; obtain rfl := Option.some.inj hy; exact HP.out, hb2⟩
      case measure => simp [intOf]; omega
    · have HP := Lib.hid hpx; clear hpx
      go_wp2
      go_ret
      exact ⟨int_ret (firstAt_some hx.out HP.out hbef.out).symm, hb2⟩
  · go_wp2
    go_ret
    exact ⟨int_ret (firstAt_none (by omega) hbef.out).symm, hb⟩
theorem ContainsFuncFault_c (v : Value) (xs : List (Int × Int)) (fn : Nat) (cap : Array Value) (p : Int × Int → Bool) (w : World) (hv : Pairs w v xs) (hf : CallsIt fn)
 (hp : ∀ (x : Int × Int) (w' : World), x ∈ xs → Below w.heap.size w w' → Calls Tryz.prog fn (#[.agg #[.int .i64 x.1, .int .i64 x.2]] ++ cap) w' fun e w'' => e = .returned (.bool (p x)) ∧ Below w'.heap.size w' w'') :
 Calls Tryz.prog 143 #[v, .func (.func fn) #[] cap] w fun e w' => e = .returned (.bool (decide (0 ≤ firstAt p xs))) ∧ Below w.heap.size w w' := by
 go_enter Tryz.func143, Tryz.ntmps143
 go_wp2_with fail
 refine (IndexFuncFault_c v xs fn cap p w hv hf hp).mono ?_
 rintro e w' ⟨rfl, hb⟩
 go_wp2
 go_ret
 exact ⟨bool_ret (by simp), hb⟩
theorem areAllFault_c (v : Value) (xs : List (Int × Int)) (fn : Nat) (p : Int × Int → Bool) (w : World) (hv : Pairs w v xs) (hf : CallsIt fn)
 (hp : ∀ (x : Int × Int) (w' : World), Calls Tryz.prog fn #[.agg #[.int .i64 x.1, .int .i64 x.2]] w' fun e w'' => e = .returned (.bool (p x)) ∧ Below w'.heap.size w' w'') :
 Calls Tryz.prog 92 #[v, .func (.func fn) #[] #[]] w fun e w' => e = .returned (.bool (xs.all p)) ∧ Below w.heap.size w w' := by
 go_enter Tryz.func92, Tryz.ntmps92
 go_wp2_with fail
 refine (ContainsFuncFault_c v xs 144 #[.pointer (some ⟨w.heap.size, 0, none⟩)] (fun x => !p x) _ (hv.below (below_one _)) (fun _ _ => by kernel_rfl) ?_).mono ?_
 · intro x w' _ hb
   have hc : w'.cell? ⟨w.heap.size, 0, none⟩ = some (.func (.func fn) #[] #[]) := by
    rw [(bcell hb).1 _ _ (by simp), World.cell?_alloc_at _ _ _ _ rfl]; rfl
   have hz := World.block_lt_of_cell? w' _ hc
   have hf' : ∀ (bs : Array Value) (w : World), (callFunc fn bs).run Tryz.prog w = .ok (.enter fn bs) w := hf
   go_enter Tryz.func144, Tryz.ntmps144
   go_wp2_with fail
   refine (hp x _).mono ?_
   rintro e w'' ⟨rfl, hbb⟩
   go_wp2
   go_ret
   exact ⟨rfl, Below.chain (below_one _) hbb⟩
 · rintro e w' ⟨rfl, hb⟩
   go_wp2
   go_ret
   exact ⟨bool_ret (by rw [firstAt_not_allP]; simp), (below_one _).trans (hb.mono (by simp))⟩
def rowB (xs : List Int) : Bool := decide (xs.length ≤ 6) && xs.all cellB
theorem rowB_le {xs : List Int} (h : rowB xs = true) : xs.length ≤ 6 := by simp [rowB] at h; exact h.1
theorem rowB_cell {xs : List Int} (h : rowB xs = true) {k : Nat} {x : Int} (hx : xs[k]? = some x) : 0 ≤ x ∧ x ≤ 127 := by
 simp only [rowB, Bool.and_eq_true, List.all_eq_true] at h
 exact cellB_true (h.2 x (List.mem_of_getElem? hx))
def fB (f : Int × Int) : Bool := faultB f.1 f.2
def areB (fs : List (Int × Int)) (r : List Int) : Bool := rowB r && (decide (fs.length = r.length) && fs.all fB)
theorem areB_fault {fs : List (Int × Int)} {r : List Int} (h : areB fs r = true) {k : Nat} {f : Int × Int} (hf : fs[k]? = some f) : 0 ≤ f.1 ∧ f.1 ≤ 127 ∧ 0 ≤ f.2 ∧ f.2 ≤ 127 := by
 simp only [areB, Bool.and_eq_true, List.all_eq_true] at h
 have := faultB_true (h.2.2 f (List.mem_of_getElem? hf))
 exact ⟨this.1, this.2.1, this.2.2.1, this.2.2.2.1⟩
theorem areB_row {fs : List (Int × Int)} {r : List Int} (h : areB fs r = true) : rowB r = true := by
 simp only [areB, Bool.and_eq_true] at h; exact h.1
theorem areB_len {fs : List (Int × Int)} {r : List Int} (h : areB fs r = true) : fs.length = r.length := by
 simp only [areB, Bool.and_eq_true, decide_eq_true_eq] at h; exact h.2.1
theorem IsRow_c (v : Value) (xs : List Int) (w : World) (hv : Ints w v xs) : Calls Tryz.prog 58 #[v] w fun e w' => e = .returned (.bool (rowB xs)) ∧ Below w.heap.size w w' := by
 obtain ⟨a, c, hvv, hc1, hc2, HC⟩ := hv.parts
 by_cases h : xs.length ≤ 6
 · subst hvv
   go_enter Tryz.func58, Tryz.ntmps58
   go_wp2_with (go_at_call 109; refine (areAllInt_c _ xs 110 cellB _ hv (fun _ _ => by kernel_rfl) (fun x w' => IsCell_c x w')).mono ?_; rintro e w' ⟨rfl, hb⟩)
   go_ret
   exact ⟨bool_ret (by simp [rowB, h]), by assumption⟩
 · subst hvv
   go_enter Tryz.func58, Tryz.ntmps58
   go_wp2_with fail
   go_ret
   exact ⟨bool_ret (by simp [rowB]; omega), Below.refl _ _⟩
theorem l2Row_c (v : Value) (xs : List Int) (w : World) (hv : Ints w v xs) : Calls Tryz.prog 139 #[v] w fun e w' => e = .returned (.bool (rowB xs)) ∧ Below w.heap.size w w' := by
 have hm := hv.le
 obtain ⟨a, c, rfl, hc1, hc2, HC⟩ := hv.parts
 go_enter Tryz.func139, Tryz.ntmps139
 go_wp2
 go_loopw [3] (fun i wr => ∃ k : Nat, k ≤ xs.length ∧ k ≤ 7 ∧ i = .int .i64 k ∧ Hid (∀ j x, j < k → xs[j]? = some x → cellB x = true) ∧ w = wr) (fun i _ => xs.length - (intOf i).toNat)
 case atStart => exact ⟨0, by omega, by omega, rfl, fun j x hj => by omega, by trivial⟩
 case round =>
  obtain ⟨k, hk, hk2, rfl, hbef, rfl⟩ := hrel
  clear hv
  by_cases hlt : k < xs.length ∧ k ≤ 6
  · obtain ⟨hlt, hle⟩ := hlt
    obtain ⟨x, hx⟩ := elem_at hlt
    obtain ⟨b, off, rfl, g0⟩ := HC.out k x hx.out
    go_wp2_with fail
    refine (l2Cell_c _ _).mono ?_
    rintro e w' ⟨rfl, rfl⟩
    rcases hpx : cellB x with _ | _
    · have HP := Lib.hid hpx; clear hpx
      go_wp2
      go_ret
      exact ⟨bool_ret (by
       symm; simp only [rowB, Bool.and_eq_false_iff]; right
       rw [List.all_eq_false]; exact ⟨x, List.mem_of_getElem? hx.out, by simp [HP.out]⟩), Below.refl _ _⟩
    · have HP := Lib.hid hpx; clear hpx
      go_wp2
      go_roundw
      case rel => exact ⟨k + 1, by omega, by omega, by go_num, fun j y hj hy => by
       by_cases hj2 : j < k
       · exact hbef.out j y hj2 hy
       · obtain rfl : j = k := by omega
         rw [hx.out] at hy; obtain rfl := Option.some.inj hy; exact HP.out, by trivial⟩
      case measure => simp [intOf]; omega
  · have hor : k = xs.length ∨ (k = 7 ∧ k < xs.length) := by omega
    clear hlt
    rcases hor with hor | ⟨hor, hor2⟩
    · have HK := Lib.hid hor
      have h1 : ¬ k < xs.length := by omega
      clear hor
      go_wp2
      go_ret
      refine ⟨bool_ret ?_, Below.refl _ _⟩
      have hall : xs.all cellB = true := by
       rw [List.all_eq_true]; intro x hx
       obtain ⟨j, hj⟩ := List.mem_iff_getElem?.1 hx
       have := (List.getElem?_eq_some_iff.1 hj).1
       exact hbef.out j x (by have := HK.out; omega) hj
      simp [rowB, hall]; omega
    · have HK := Lib.hid hor
      have h1 : ¬ k ≤ 6 := by omega
      clear hor
      go_wp2
      go_ret
      refine ⟨bool_ret ?_, Below.refl _ _⟩
      have := HK.out
      rw [decide_eq_false (by omega)]
      simp [rowB]; omega
theorem areFaults_c (v1 v2 : Value) (fs : List (Int × Int)) (r : List Int) (w : World) (h1 : Pairs w v1 fs) (h2 : Ints w v2 r) :
 Calls Tryz.prog 278 #[v1, v2] w fun e w' => e = .returned (.bool (areB fs r)) ∧ Below w.heap.size w w' := by
 obtain ⟨a1, c1, rfl, _, _, _⟩ := h1.parts
 obtain ⟨a2, c2, rfl, _, _, _⟩ := h2.parts
 rcases hr : rowB r with _ | _
 · have HR := Lib.hid hr; clear hr
   go_enter Tryz.func278, Tryz.ntmps278
   go_wp2_with fail
   refine (IsRow_c _ r _ h2).mono ?_
   rintro e w1 ⟨rfl, hb1⟩
   rw [HR.out]
   go_wp2
   go_ret
   exact ⟨bool_ret (by simp [areB, HR.out]), hb1⟩
 · by_cases hl : fs.length = r.length
   · have hlb : ((fs.length : Int) == (r.length : Int)) = true := by simp [hl]
     have HR := Lib.hid hr; have HL := Lib.hid hl; clear hr hl
     go_enter Tryz.func278, Tryz.ntmps278
     go_wp2_with fail
     refine (IsRow_c _ r _ h2).mono ?_
     rintro e w1 ⟨rfl, hb1⟩
     rw [HR.out]
     go_wp2_with fail
     refine (areAllFault_c _ fs 62 fB _ (h1.below hb1) (fun _ _ => by kernel_rfl) (fun x w' => IsFault_c x.1 x.2 w')).mono ?_
     rintro e w2 ⟨rfl, hb2⟩
     go_wp2
     go_ret
     exact ⟨bool_ret (by simp [areB, HR.out, HL.out]), Below.chain hb1 hb2⟩
   · have hlb : ((fs.length : Int) == (r.length : Int)) = false := by simp; omega
     have HR := Lib.hid hr; have HL := Lib.hid hl; clear hr hl
     go_enter Tryz.func278, Tryz.ntmps278
     go_wp2_with fail
     refine (IsRow_c _ r _ h2).mono ?_
     rintro e w1 ⟨rfl, hb1⟩
     rw [HR.out]
     go_wp2
     go_ret
     exact ⟨bool_ret (by simp [areB, HL.out]), hb1⟩
theorem info_Fault : (Tryz.prog.info? 46).map (fun i => (i.zero, i.size, i.bytes)) = some (some (.agg #[.int .i64 0, .int .i64 0]), 2, 16) := by kernel_rfl
def IntsPost (w : World) (L : List Int) (b : Bool) (e : Ending) (w' : World) : Prop :=
 ∃ u, e = .returned (.tuple #[u, .bool b]) ∧ w'.ownsRow w.heap.size 3 1 u L.length (L.map (Value.int .i64)) ∧ Below w.heap.size w w'
theorem IntsPost.mk' {w w' : World} {L L' : List Int} {b b' : Bool} {u : Value} (hL : L = L') (hbb : b = b') (ho : w'.ownsRow w.heap.size 3 1 u L'.length (L'.map (Value.int .i64))) (hb : Below w.heap.size w w') : IntsPost w L b (.returned (.tuple #[u, .bool b'])) w' := by
 subst hL hbb; exact ⟨u, rfl, ho, hb⟩
theorem headD_of {xs : List Int} {x d : Int} (h : xs[0]? = some x) : xs.headD d = x := by cases xs <;> simp_all
theorem grpL_pos {d l : Int} {k : Nat} {xs : List Int} (h : (grpL d l)[k]? = some xs) : 0 < xs.length := by
 have hm := List.mem_of_getElem? h
 unfold grpL grpTo at hm
 simp only [List.mem_map, List.mem_filter] at hm
 obtain ⟨x, ⟨hx, _⟩, rfl⟩ := hm
 obtain ⟨n, hn, hxn⟩ := List.getElem_of_mem hx
 have hn10 : n < 10 := by rw [List.length_take] at hn; omega
 rw [List.getElem_take] at hxn
 have hx2 : x = (n : Int) := by
  have := tenI_at hn10
  rw [List.getElem?_eq_getElem (by simp [tenI]; omega), hxn] at this
  simpa using this
 subst hx2
 have h0 := grpOf_head (d := d) (l := l) hn10
 exact (List.getElem?_eq_some_iff.1 h0).1
def toldTo (xss : List (List Int)) (k : Nat) : List Int := ((xss.take k).filter fun xs => xs.length == 1).map fun xs => xs.headD 0
theorem toldTo_succ {xss : List (List Int)} {k : Nat} {xs : List Int} (h : xss[k]? = some xs) : toldTo xss (k + 1) = toldTo xss k ++ if xs.length == 1 then [xs.headD 0] else [] := by
 unfold toldTo
 rw [take_snoc h, List.filter_append, List.map_append]
 cases hq : xs.length == 1 <;> simp [hq]
theorem toldTo_len (xss : List (List Int)) (k : Nat) : (toldTo xss k).length = dkI 2 xss k := by
 unfold toldTo dkI; rw [List.length_map]; congr 2
theorem toldTo_le (xss : List (List Int)) (k : Nat) : (toldTo xss k).length ≤ xss.length := by rw [toldTo_len]; exact dkI_le _ _ _
def tdL (d l : Int) : List Int := if faultB d l then toldTo (grpL d l) (grpL d l).length else []
theorem tdL_le (d l : Int) : (tdL d l).length ≤ 10 := by
 unfold tdL; split
 · exact Nat.le_trans (toldTo_le _ _) (grpTo_le _ _ _)
 · simp
theorem ToldDigits_c (d l : Int) (w : World) : Calls Tryz.prog 19 #[.agg #[.int .i64 d, .int .i64 l]] w (IntsPost w (tdL d l) (faultB d l)) := by
 obtain ⟨i, hi, hz0, hz1, hz2⟩ := info_parts info_int
 rcases ha : faultB d l with _ | _
 · have HL := Lib.hid (show tdL d l = [] by simp [tdL, ha])
   have HA := Lib.hid ha; clear ha
   go_enter Tryz.func19, Tryz.ntmps19
   go_wp2_with fail
   refine (IsFault_c d l _).mono ?_
   rintro e w1 ⟨rfl, hb1⟩
   rw [HA.out]
   go_wp2
   go_ret2
   exact IntsPost.mk' HL.out rfl (World.ownsRow_nil _ _ _ _) (Below.chain (below_one _) hb1)
 · have HL := Lib.hid (show tdL d l = toldTo (grpL d l) (grpL d l).length by simp [tdL, ha])
   have bd := faultB_true ha
   have HA := Lib.hid ha; clear ha
   go_enter Tryz.func19, Tryz.ntmps19
   go_wp2_with fail
   refine (IsFault_c d l _).mono ?_
   rintro e w1 ⟨rfl, hb1⟩
   rw [HA.out]
   have q0 := (box_after hb1).1 0 _ rfl
   have q1 := (box_after hb1).1 1 _ rfl
   have hb2 := Below.chain (below_one _) hb1
   clear hb1
   go_wp2_with fail
   refine (groups_c d l _ bd.1 bd.2.1 bd.2.2.1 bd.2.2.2.1).mono ?_
   rintro e w2 ⟨u, rfl, ho, hb3⟩
   have hb4 := Below.chain hb2 hb3
   have sz2 := hb4.size
   clear hb3 hb2 q0 q1
   have h10 : (grpL d l).length ≤ 10 := grpTo_le _ _ _
   have HN : Hid (∀ (k : Nat) (xs : List Int), (grpL d l)[k]? = some xs → 0 < xs.length) := fun k xs h => grpL_pos h
   generalize grpL d l = xss at *
   obtain ⟨a, c, rfl, hxl, HC⟩ := ho.parts
   clear ho
   go_wp2
   go_loopw [4, 6, 13] (fun o _ j wr => ∃ k : Nat, k ≤ xss.length ∧ j = .int .i64 (k : Int) ∧ wr.ownsRow w2.heap.size 3 1 o (toldTo xss k).length ((toldTo xss k).map (Value.int .i64)) ∧ Below w.heap.size w wr ∧ Below w2.heap.size w2 wr) (fun _ _ j _ => xss.length - (intOf j).toNat)
   case atStart => exact ⟨0, by omega, rfl, World.ownsRow_nil _ _ _ _, hb4, Below.refl _ _⟩
   case round =>
    obtain ⟨k, hk, rfl, ho, hb, hb5⟩ := hrel
    clear hb4
    by_cases hlt : k < xss.length
    · have hd : decide ((k : Int) < (xss.length : Int)) = true := by simp; omega
      obtain ⟨xs, hx⟩ := elem_at hlt
      obtain ⟨b, off, a', c', rfl, f0, hxsl, hI⟩ := HC.out k xs hx.out
      have hpos := HN.out k xs hx.out
      obtain ⟨a2, c2, he, _, _, HI⟩ := hI.parts
      obtain ⟨x0, hx0⟩ := elem_at hpos
      obtain ⟨b3, o3, e3, f1⟩ := HI.out 0 _ hx0.out
      have hhd : xs.headD 0 = x0 := headD_of hx0.out
      injection he with he1 he2 he3
      subst he1 e3
      have g0 := cell_later hb5 f0
      have g1 := cell_later hb5 f1
      simp only [Nat.add_zero] at g1
      have hS := toldTo_succ hx.out
      have hle := toldTo_le xss k
      rw [hhd] at hS
      generalize toldTo xss k = cur at *
      have HS := Lib.hid hS; clear hS f0 f1 hI HI hhd hx hx0
      rcases hq : xs.length == 1 with _ | _
      · have hq1 : decide ((xs.length : Int) = 1) = false := by simp at hq ⊢; omega
        have HS2 := Lib.hid (show toldTo xss (k + 1) = cur by rw [HS.out, hq]; simp)
        clear HS
        go_wp2
        go_roundw
        case rel => exact ⟨k + 1, by omega, by go_num, by rw [HS2.out]; exact ho, hb, hb5⟩
        case measure => simp [intOf]; omega
      · have hq1 : decide ((xs.length : Int) = 1) = true := by simp at hq ⊢; omega
        have HS2 := Lib.hid (show toldTo xss (k + 1) = cur ++ [x0] by rw [HS.out, hq]; simp)
        clear HS
        go_wp2_with (at_builtin; refine wpList_append_own_at _ rfl _ _ 37 rfl w2.heap.size 3 i (.int .i64 0) 1 8 Tryz.underlying37 hi hz0 hz1 hz2 rfl (by decide) _ cur.length (cur.map (Value.int .i64)) rfl (ho.alloc _) ⟨wr.heap.size, 0, none⟩ 1 1 [.int .i64 x0] rfl rfl (news_new _ [.int .i64 x0] _) (by simp [Value.oneCell']) (by unfold maxLen; omega) (by omega) (by have := hb5.size; simp; omega) ?_)
        intro v' w3 ho5 hg5 _ _
        have hb7 : Below w.heap.size w w3 := (Below.alc hb _).grown hg5 (by have := hb.size; simp; omega) (fun g hg => Nat.le_trans sz2 (ho.lt g hg).1)
        have hb8 : Below w2.heap.size w2 w3 := (Below.alc hb5 _).grown hg5 (by have := hb5.size; simp; omega) (fun g hg => (ho.lt g hg).1)
        clear ho hb hb5 hg5
        go_wp2
        go_roundw
        case rel => exact ⟨k + 1, by omega, by go_num, by rw [HS2.out]; exact ownsRow_cast ho5 (by simp) (by simp), hb7, hb8⟩
        case measure => simp [intOf]; omega
    · obtain rfl : k = xss.length := by omega
      go_wp2
      go_ret2
      exact IntsPost.mk' HL.out rfl (own_lo ho sz2) hb
theorem info_State : (Tryz.prog.info? 261).map (fun i => (i.zero, i.size, i.bytes)) = some (some (.agg #[.int .i64 0, .int .i64 0]), 2, 16) := by kernel_rfl
theorem states_c (fn : Nat) (cap : Array Value) (q : Int × Int → Bool) (w : World) (hf : CallsIt fn)
 (hp : ∀ (bar kind : Int) (w' : World), stateB bar kind = true → Below w.heap.size w w' → Calls Tryz.prog fn (#[.agg #[.int .i64 bar, .int .i64 kind]] ++ cap) w' fun e w'' => e = .returned (.bool (q (bar, kind))) ∧ Below w'.heap.size w' w'') :
 Calls Tryz.prog 282 #[.func (.func fn) #[] cap] w fun e w' => ∃ v, e = .returned v ∧ w'.ownsRow w.heap.size 261 2 v (allSt.filter q).length (flat2 (allSt.filter q)) ∧ Below w.heap.size w w' := by
 obtain ⟨i, hi, hz0, hz1, hz2⟩ := info_parts info_State
 have hf' : ∀ (bs : Array Value) (w : World), (callFunc fn bs).run Tryz.prog w = .ok (.enter fn bs) w := hf
 go_enter Tryz.func282, Tryz.ntmps282
 go_wp2
 go_loopw [3, 4, 5, 6] (fun v i _ _ wr => ∃ k : Nat, k ≤ 3 ∧ i = .int .i64 k ∧ wr.ownsRow w.heap.size 261 2 v (gridTo q (7 * k)).length (flat2 (gridTo q (7 * k))) ∧ Below w.heap.size w wr) (fun _ i _ _ _ => 3 - (intOf i).toNat)
 case atStart => exact ⟨0, by omega, rfl, World.ownsRow_nil _ _ _ _, Below.refl _ _⟩
 case round =>
  obtain ⟨k, hk, rfl, ho, hb⟩ := hrel
  by_cases hlt : k ≤ 2
  · have hd : decide ((k : Int) ≤ 2) = true := by simp; omega
    go_wp2
    go_loopw [3, 11, 5, 6] (fun v i _ _ wr => ∃ b : Nat, b ≤ 7 ∧ i = .int .i64 b ∧ wr.ownsRow w.heap.size 261 2 v (gridTo q (7 * k + b)).length (flat2 (gridTo q (7 * k + b))) ∧ Below w.heap.size w wr) (fun _ i _ _ _ => 7 - (intOf i).toNat)
    case atStart => exact ⟨0, by omega, rfl, ho, hb⟩
    case round =>
     obtain ⟨b, hbl, rfl, ho2, hb2⟩ := hrel
     clear ho hb
     by_cases hlt2 : b < 7
     · have hd2 : decide ((b : Int) < 7) = true := by simp; omega
       have hg := grid_at (show k < 3 by omega) hlt2
       have hs := gridTo_succ q hg
       have hle := gridTo_le q (7 * k + b)
       generalize gridTo q (7 * k + b) = cur at *
       have HS := Lib.hid hs; clear hs hg
       go_wp2_with fail
       refine (IsState_c (b : Int) (k : Int) _).mono ?_
       rintro e w1 ⟨rfl, hb3⟩
       rcases hst : stateB (b : Int) (k : Int) with _ | _
       · have HT := Lib.hid hst; clear hst
         go_wp2
         go_roundw
         case rel => exact ⟨b + 1, by omega, by go_num, by
          have e1 : gridTo q (7 * k + (b + 1)) = cur := by rw [← Nat.add_assoc, HS.out]; simp [stB, HT.out]
          rw [e1]
          exact (ho2.alloc _).kept (Below.gr hb3) (by cases Value.ownBlock _ <;> simp), by (repeat (first | exact Below.refl _ _ | exact (Below.refl _ _).drew | assumption | exact below_one _ | refine Below.chain ?_ (by assumption) | refine Below.drew ?_ | refine Below.alc ?_ _ | refine below_drewN ?_ | (refine Below.setCell ?_ ?_ _) | exact Nat.le_refl _ | (simp; done) | (simp; omega)))⟩
         case measure => simp [intOf]; omega
       · have HT := Lib.hid hst; clear hst
         have c0 : w1.cell? ⟨wr.heap.size, 0, none⟩ = some (.int .i64 b) := by
          rw [(bcell hb3).1 _ _ (by simp), World.cell?_alloc_at _ _ _ _ rfl]; rfl
         have c1 : w1.cell? ⟨wr.heap.size, 1, none⟩ = some (.int .i64 k) := by
          rw [(bcell hb3).1 _ _ (by simp), World.cell?_alloc_at _ _ _ _ rfl]; rfl
         have hb4 : Below w.heap.size w w1 := by (repeat (first | exact Below.refl _ _ | exact (Below.refl _ _).drew | assumption | exact below_one _ | refine Below.chain ?_ (by assumption) | refine Below.drew ?_ | refine Below.alc ?_ _ | refine below_drewN ?_ | (refine Below.setCell ?_ ?_ _) | exact Nat.le_refl _ | (simp; done) | (simp; omega)))
         have ho3 : w1.ownsRow w.heap.size 261 2 _ cur.length (flat2 cur) := (ho2.alloc _).kept (Below.gr hb3) (by cases Value.ownBlock _ <;> simp)
         clear ho2 hb3 hb2
         go_wp2_with fail
         refine (hp (b : Int) (k : Int) _ HT.out hb4).mono ?_
         rintro e w2 ⟨rfl, hb5⟩
         have d0 : w2.cell? ⟨wr.heap.size, 0, none⟩ = some (.int .i64 b) := cell_later hb5 c0
         have d1 : w2.cell? ⟨wr.heap.size, 1, none⟩ = some (.int .i64 k) := cell_later hb5 c1
         have hb6 : Below w.heap.size w w2 := by (repeat (first | exact Below.refl _ _ | exact (Below.refl _ _).drew | assumption | exact below_one _ | refine Below.chain ?_ (by assumption) | refine Below.drew ?_ | refine Below.alc ?_ _ | refine below_drewN ?_ | (refine Below.setCell ?_ ?_ _) | exact Nat.le_refl _ | (simp; done) | (simp; omega)))
         have ho4 : w2.ownsRow w.heap.size 261 2 _ cur.length (flat2 cur) := ho3.kept (Below.gr hb5) (by cases Value.ownBlock _ <;> simp)
         clear ho3 hb5 hb4 c0 c1
         rcases hq : q ((b : Int), (k : Int)) with _ | _
         · have HQ := Lib.hid hq; clear hq
           go_wp2
           go_roundw
           case rel => exact ⟨b + 1, by omega, by go_num, by
            have e1 : gridTo q (7 * k + (b + 1)) = cur := by rw [← Nat.add_assoc, HS.out]; simp [stB, HQ.out]
            rw [e1]; exact ho4, hb6⟩
           case measure => simp [intOf]; omega
         · have HQ := Lib.hid hq; clear hq
           go_wp2_with (at_builtin; refine wpList_append_own _ rfl _ _ 238 rfl w.heap.size 261 i (.agg #[.int .i64 0, .int .i64 0]) 2 16 Tryz.underlying238 hi hz0 hz1 hz2 rfl (by decide) _ cur.length (flat2 cur) rfl (ho4.alloc _) ⟨w2.heap.size, 0, none⟩ 1 1 [.int .i64 b, .int .i64 k] rfl rfl (news_new _ [.int .i64 b, .int .i64 k] _) (by simp [Value.oneCell']) (by unfold maxLen; omega) (by omega) (by have := hb6.size; simp; omega) ?_)
           intro v' w3 ho5 hg5 _
           have hb7 : Below w.heap.size w w3 := (Below.alc hb6 _).grown hg5 (by have := hb6.size; simp; omega) (fun g hg => (ho4.lt g hg).1)
           clear ho4 hb6 hg5
           go_wp2
           go_roundw
           case rel => exact ⟨b + 1, by omega, by go_num, by
            have e1 : gridTo q (7 * k + (b + 1)) = cur ++ [((b : Int), (k : Int))] := by rw [← Nat.add_assoc, HS.out]; simp [stB, HQ.out, HT.out]
            rw [e1]; exact ownsRow_cast ho5 (by simp) (flat2_snoc _ _ _).symm, hb7⟩
           case measure => simp [intOf]; omega
     · obtain rfl : b = 7 := by omega
       go_wp2
       go_roundw
       case rel => exact ⟨k + 1, by omega, by go_num, by rw [show 7 * (k + 1) = 7 * k + 7 by omega]; exact ho2, hb2⟩
       case measure => simp [intOf]; omega
  · obtain rfl : k = 3 := by omega
    go_wp2
    go_ret
    have e := gridTo_all q
    exact ⟨_, rfl, by rw [← e]; exact ho, hb⟩
def foundSt (xs : List Int) : List (Int × Int) := allSt.filter fun s => decide (0 ≤ placeOf s.1 s.2 xs)
def fullB (xs : List Int) : Bool := decide ((foundSt xs).length = 14)
theorem found_c (v : Value) (xs : List Int) (w : World) (hv : Ints w v xs) (ht : testB xs = true) :
 Calls Tryz.prog 254 #[v] w fun e w' => ∃ u, e = .returned u ∧ w'.ownsRow w.heap.size 261 2 u (foundSt xs).length (flat2 (foundSt xs)) ∧ Below w.heap.size w w' := by
 obtain ⟨a, c, rfl, _, _, _⟩ := hv.parts
 have hc : ∀ w' : World, Below (w.alloc (.cells #[.slice a xs.length c] 37)).heap.size (w.alloc (.cells #[.slice a xs.length c] 37)) w' → w'.cell? ⟨w.heap.size, 0, none⟩ = some (.slice a xs.length c) := fun w' hb => by
  rw [(bcell hb).1 _ _ (by simp), World.cell?_alloc_at _ _ _ _ rfl]; rfl
 have HC := Lib.hid hc; clear hc
 go_enter Tryz.func254, Tryz.ntmps254
 go_wp2_with fail
 refine (states_c 283 #[.pointer (some ⟨w.heap.size, 0, none⟩)] (fun s => decide (0 ≤ placeOf s.1 s.2 xs)) _ (fun _ _ => by kernel_rfl) ?_).mono ?_
 · intro bar kind w1 hst hb
   have hc := HC.out w1 hb
   have hz : w.heap.size < w1.heap.size := World.block_lt_of_cell? w1 _ hc
   have hv1 : Ints w1 _ xs := (hv.below (below_one _)).below hb
   go_enter Tryz.func283, Tryz.ntmps283
   go_wp2_with fail
   refine (finding_c _ xs bar kind _ (hv1.below (below_one _)) hst ht).mono ?_
   rintro e w2 ⟨rfl, hb2⟩
   go_wp2
   go_ret
   exact ⟨bool_ret (by simp), by (repeat (first | exact Below.refl _ _ | exact (Below.refl _ _).drew | assumption | exact below_one _ | refine Below.chain ?_ (by assumption) | refine Below.drew ?_ | refine Below.alc ?_ _ | refine below_drewN ?_ | (refine Below.setCell ?_ ?_ _) | exact Nat.le_refl _ | (simp; done) | (simp; omega)))⟩
 · rintro e w1 ⟨u, rfl, ho, hb⟩
   have ho' : w1.ownsRow w.heap.size 261 2 u (foundSt xs).length (flat2 (foundSt xs)) := own_lo ho (by simp)
   go_wp2
   go_ret
   exact ⟨u, rfl, ho', (below_one _).trans (hb.mono (by simp))⟩
theorem isFull_c (v : Value) (xs : List Int) (w : World) (hv : Ints w v xs) (ht : testB xs = true) :
 Calls Tryz.prog 197 #[v] w fun e w' => e = .returned (.bool (fullB xs)) ∧ Below w.heap.size w w' := by
 go_enter Tryz.func197, Tryz.ntmps197
 go_wp2_with fail
 refine (found_c v xs _ hv ht).mono ?_
 rintro e w1 ⟨u, rfl, ho, hb⟩
 obtain ⟨a, c, rfl, _⟩ := (Sl.of_own ho).slice
 go_wp2
 go_ret
 refine ⟨bool_ret ?_, hb⟩
 unfold fullB
 rw [Bool.eq_iff_iff]; simp; omega
def isFullV (xs : List Int) : Value := .tuple #[.bool (testB xs && fullB xs), .bool (testB xs)]
theorem IsFullTest_c (v : Value) (xs : List Int) (w : World) (hv : Ints w v xs) :
 Calls Tryz.prog 148 #[v] w fun e w' => e = .returned (isFullV xs) ∧ Below w.heap.size w w' := by
 rcases ht : testB xs with _ | _
 · have HF0 : isFullV xs = .tuple #[.bool false, .bool false] := by simp [isFullV, ht]
   have HF := Lib.hid HF0; clear HF0; have HT := Lib.hid ht; clear ht
   go_enter Tryz.func148, Tryz.ntmps148
   go_wp2_with fail
   refine (isTest_c v xs _ hv).mono ?_
   rintro e w1 ⟨rfl, hb1⟩
   rw [HT.out]
   go_wp2
   go_ret2
   exact ⟨by rw [HF.out]; rfl, by (repeat (first | exact Below.refl _ _ | exact (Below.refl _ _).drew | assumption | exact below_one _ | refine Below.chain ?_ (by assumption) | refine Below.drew ?_ | refine Below.alc ?_ _ | refine below_drewN ?_ | (refine Below.setCell ?_ ?_ _) | exact Nat.le_refl _ | (simp; done) | (simp; omega)))⟩
 · have HF0 : isFullV xs = .tuple #[.bool (fullB xs), .bool true] := by simp [isFullV, ht]
   have HF := Lib.hid HF0; clear HF0; have HT := Lib.hid ht; clear ht
   go_enter Tryz.func148, Tryz.ntmps148
   go_wp2_with fail
   refine (isTest_c v xs _ hv).mono ?_
   rintro e w1 ⟨rfl, hb1⟩
   rw [HT.out]
   go_wp2_with fail
   refine (isFull_c v xs _ (hv.below hb1) HT.out).mono ?_
   rintro e w2 ⟨rfl, hb2⟩
   go_wp2
   go_ret2
   exact ⟨by rw [HF.out]; rfl, by (repeat (first | exact Below.refl _ _ | exact (Below.refl _ _).drew | assumption | exact below_one _ | refine Below.chain ?_ (by assumption) | refine Below.drew ?_ | refine Below.alc ?_ _ | refine below_drewN ?_ | (refine Below.setCell ?_ ?_ _) | exact Nat.le_refl _ | (simp; done) | (simp; omega)))⟩
def toldSt (xs : List Int) (l : List (Int × Int)) : List (Int × Int) := if testB xs then l else []
def StPost (w : World) (xs : List Int) (l : List (Int × Int)) (e : Ending) (w' : World) : Prop :=
 ∃ u, e = .returned (.tuple #[u, .bool (testB xs)]) ∧ w'.ownsRow w.heap.size 261 2 u (toldSt xs l).length (flat2 (toldSt xs l)) ∧ Below w.heap.size w w'
theorem StPost.no {w w' : World} {xs : List Int} {l : List (Int × Int)} {u : Value} (ht : testB xs = false) (ho : w'.ownsRow w.heap.size 261 2 u 0 []) (hb : Below w.heap.size w w') : StPost w xs l (.returned (.tuple #[u, .bool false])) w' := by
 refine ⟨u, by rw [ht], ?_, hb⟩
 simpa [toldSt, ht, flat2_nil] using ho
theorem StPost.yes {w w' : World} {xs : List Int} {l : List (Int × Int)} {u : Value} (ht : testB xs = true) (ho : w'.ownsRow w.heap.size 261 2 u l.length (flat2 l)) (hb : Below w.heap.size w w') : StPost w xs l (.returned (.tuple #[u, .bool true])) w' := by
 refine ⟨u, by rw [ht], ?_, hb⟩
 simpa [toldSt, ht] using ho
set_option linter.unusedSimpArgs false
def TabM (w : World) : Prop := Lib.TabIs Tryz.prog w "internal/strconv.uint64pow10" .u64 Lib.pow10Tab
theorem TabM.on {w w' : World} (h : TabM w) (hb : Below w.heap.size w w') : TabM w' :=
 Joins.tab_stays (g := 3) (by kernel_rfl) h hb (Nat.le_refl _)
theorem below_growM (w : World) (q : Nat) (os : Array Obj) : Below w.heap.size w (Sort.grow (w.drewN q) os) :=
 ⟨rfl, rfl, rfl, by simp [Sort.grow], fun i hi => by
  show ((w.drewN q).heap ++ os)[i]? = _
  rw [Array.getElem?_append_left (by show i < w.heap.size; omega)]
  rfl⟩
def decN (u : Nat) : List Nat := if h : u < 10 then [u] else decN (u / 10) ++ [u % 10]
termination_by u
decreasing_by omega
theorem decN_lt (u : Nat) : ∀ d ∈ decN u, d < 10 := by
 induction u using Nat.strongRecOn with
 | _ u ih =>
  intro d hd
  rw [decN] at hd
  split at hd
  · simp only [List.mem_singleton] at hd; omega
  · rcases List.mem_append.1 hd with h | h
    · exact ih (u / 10) (by omega) d h
    · simp only [List.mem_singleton] at h; omega
theorem decN_len : ∀ (k u : Nat), u < 10 ^ (k + 1) → (decN u).length ≤ k + 1
 | 0, u, h => by rw [decN, dif_pos (by simpa using h)]; simp
 | k + 1, u, h => by
  rw [decN]
  split
  · simp
  · have := decN_len k (u / 10) (by rw [Nat.pow_succ] at h; omega)
    simp; omega
theorem dec_digits (u : Nat) : Lib.decDigits u = (decN u).map fun (d : Nat) => UInt8.ofNat (48 + d) := by
 induction u using Nat.strongRecOn with
 | _ u ih =>
  rw [Lib.decDigits, decN]
  split
  · simp
  · rw [ih (u / 10) (by omega)]; simp
def rowL (u : Nat) : List Int := (decN u).map fun (d : Nat) => dg (d : Int)
def cN (c : Int) : Nat := (cnt c).toNat
def litL (xs : List Int) : Nat := (xs.map cN).sum
def litN (u : Nat) : Nat := litL (rowL u)
theorem cnt_all : ∀ n : Fin 128, 0 ≤ cnt (n.1 : Int) ∧ cnt (n.1 : Int) ≤ 7 := by decide +kernel
theorem cnt_cN {c : Int} (h0 : 0 ≤ c) (h1 : c ≤ 127) : cnt c = (cN c : Int) ∧ cN c ≤ 7 := by
 obtain ⟨n, rfl⟩ := Int.eq_ofNat_of_zero_le h0
 have := cnt_all ⟨n, by omega⟩
 simp only at this
 unfold cN
 omega
theorem litL_take {xs : List Int} {k : Nat} {x : Int} (h : xs[k]? = some x) : litL (xs.take (k + 1)) = litL (xs.take k) + cN x := by
 unfold litL; rw [take_snoc h]; simp
theorem litL_bd {xs : List Int} (hd : ∀ x ∈ xs, 0 ≤ x ∧ x ≤ 127) : ∀ k, k ≤ xs.length → litL (xs.take k) ≤ 7 * k
 | 0, _ => by simp [litL]
 | k + 1, hk => by
  have ih := litL_bd hd k (by omega)
  have hx : xs[k]? = some (xs[k]'(by omega)) := List.getElem?_eq_getElem (by omega)
  rw [litL_take hx]
  have h1 := hd _ (List.getElem_mem (show k < xs.length by omega))
  have := (cnt_cN h1.1 h1.2).2
  omega
theorem rowL_cells (u : Nat) : ∀ x ∈ rowL u, 0 ≤ x ∧ x ≤ 127 := fun x hx => by
 unfold rowL at hx
 obtain ⟨d, _, rfl⟩ := List.mem_map.1 hx
 exact dg_bd _
theorem rowL_row {u : Nat} (h : u < 10000) : rowB (rowL u) = true ∧ (rowL u).length ≤ 4 := by
 have hl := decN_len 3 u h
 have hl2 : (rowL u).length ≤ 4 := by unfold rowL; simpa using hl
 refine ⟨?_, hl2⟩
 unfold rowB
 rw [decide_eq_true (by omega), Bool.true_and, List.all_eq_true]
 intro x hx
 have := rowL_cells u x hx
 exact inB_mk this.1 this.2
theorem index_d32 (d : Nat) (h : d < 10) (w : World) : (Instr.index 140 digA (.int .i32 (d : Int))).run Tryz.prog w = .ok (.int .i64 (dg (d : Int))) w := by
 have h2 : d = 0 ∨ d = 1 ∨ d = 2 ∨ d = 3 ∨ d = 4 ∨ d = 5 ∨ d = 6 ∨ d = 7 ∨ d = 8 ∨ d = 9 := by omega
 rcases h2 with rfl | rfl | rfl | rfl | rfl | rfl | rfl | rfl | rfl | rfl <;> rfl
theorem own_iter {w : World} {lo n size N : Nat} {e : TypeId} {v : Value} {xs : List Value} {s : ByteArray} {p p' : Nat} (h : w.ownsRow lo e size v n xs) (hk : w.heap[N]? = some (.stringIter s p)) : v.ownBlock ≠ some N ∧ (w.iterAt N s p').ownsRow lo e size v n xs := by
 rcases h.2 with ⟨rfl, h0⟩ | ⟨g, cap, cur, rfl, hb, hg, h3⟩
 · exact ⟨by simp [Value.ownBlock], h.1, Or.inl ⟨rfl, h0⟩⟩
 · have hne : g ≠ N := fun e => by subst e; rw [hk] at hg; cases hg
   exact ⟨by simpa [Value.ownBlock] using hne, h.1, Or.inr ⟨g, cap, cur, rfl, hb, by rw [Lib.iterAt_other _ _ _ _ _ hne]; exact hg, h3⟩⟩
set_option maxHeartbeats 4000000 in
theorem rowOf_c (u : Nat) (hu : u < 10000) (w : World) (ht : TabM w) :
 Calls Tryz.prog 198 #[.int .i64 (u : Int)] w fun e w' => ∃ v, e = .returned v ∧ w'.ownsRow w.heap.size 3 1 v (rowL u).length ((rowL u).map (Value.int .i64)) ∧ Below w.heap.size w w' := by
 obtain ⟨inf, hi, hz0, hz1, hz2⟩ := info_parts info_int
 have HIt := Lib.hid (Tryz.strconv_Itoa (u : Int) (by omega) (by omega) w ht)
 have hit : Lib.itoa (u : Int) = (decN u).map fun (d : Nat) => UInt8.ofNat (48 + d) := by
  unfold Lib.itoa; rw [if_neg (by omega), ← dec_digits]; simp
 have HDL := Lib.hid (decN_lt u)
 have hl4 := decN_len 3 u hu
 have hrl : (rowL u).length = (decN u).length := by simp [rowL]
 have HRL := Lib.hid hrl
 have HRA : Hid (∀ (k d : Nat), (decN u)[k]? = some d → (rowL u).take (k + 1) = (rowL u).take k ++ [dg (d : Int)]) := fun k d hd => take_snoc (by unfold rowL; rw [List.getElem?_map, hd]; rfl)
 have HRT : Hid ((rowL u).take (decN u).length = rowL u) := by show _ = _; rw [← hrl, List.take_length]
 rw [hit] at HIt
 clear hit hrl ht
 generalize decN u = D at *
 generalize rowL u = R at *
 have hsz : (ByteArray.mk ((D.map fun (d : Nat) => UInt8.ofNat (48 + d)).toArray)).size = D.length := by show (List.toArray _).size = _; simp
 have HCH : Hid (∀ (k d : Nat), D[k]? = some d → ∀ (h : k < (ByteArray.mk ((D.map fun (d : Nat) => UInt8.ofNat (48 + d)).toArray)).size), ((ByteArray.mk ((D.map fun (d : Nat) => UInt8.ofNat (48 + d)).toArray))[k]'h).toNat = 48 + d) := fun k d hd h => by
  have hd10 := HDL.out d (List.mem_of_getElem? hd)
  show ((List.toArray (D.map fun (d : Nat) => UInt8.ofNat (48 + d)))[k]'(by have h9 := h; rw [hsz] at h9; simpa using h9)).toNat = _
  have hk : k < D.length := (List.getElem?_eq_some_iff.1 hd).1
  have he : D[k] = d := by rw [List.getElem?_eq_getElem hk] at hd; exact Option.some.inj hd
  simp [he]
  omega
 generalize (ByteArray.mk ((D.map fun (d : Nat) => UInt8.ofNat (48 + d)).toArray)) = s at *
 go_enter Tryz.func198, Tryz.ntmps198
 go_wp2_with fail
 refine HIt.out.mono ?_
 rintro e w1 ⟨rfl, kk, os, rfl⟩
 have hb1 := below_growM w kk os
 generalize Sort.grow (w.drewN kk) os = w1 at *
 have hk0 := World.iter_heap w1 s 0
 have hB0 : Below w.heap.size w (w1.iter s 0) := Below.alc hb1 _
 have hN := hb1.size
 have HK0 := Lib.hid hk0
 have HB0 := Lib.hid hB0
 clear hk0 hB0 hb1 HIt
 go_wp2
 generalize hNN : w1.heap.size = N at *
 go_loopw [3] (fun o wr => ∃ pos : Nat, pos ≤ D.length ∧ Hid (wr.heap[N]? = some (.stringIter s pos)) ∧ Hid (wr.ownsRow w.heap.size 3 1 o pos ((R.take pos).map (Value.int .i64))) ∧ Hid (Below w.heap.size w wr)) (fun _ wr => D.length - wr.iterPos N)
 case atStart => exact ⟨0, by omega, HK0, World.ownsRow_nil _ _ _ _, HB0⟩
 case round =>
  obtain ⟨pos, hps, HK, HO, HB⟩ := hrel
  have hk := HK.out
  have hmu : wr.iterPos N = pos := by simp [World.iterPos, hk]
  by_cases hp : pos < D.length
  · obtain ⟨d, hd⟩ := elem_at hp
    have hd10 := HDL.out d (List.mem_of_getElem? hd.out)
    have hch := HCH.out pos d hd.out (by omega)
    have hnext : ∀ ty, (Instr.next (.pointer (some ⟨N, 0, none⟩)) true ty).run Tryz.prog wr = _ := fun ty => Lib.run_next_ascii_at wr N s pos ty hk (by omega) (by rw [hch]; omega)
    rw [hch] at hnext
    have hk1 := Lib.iterAt_heap wr N s pos (pos + 1) hk
    obtain ⟨hne1, ho1⟩ := own_iter (p' := pos + 1) HO.out hk
    have hB1 : Below w.heap.size w (wr.iterAt N s (pos + 1)) := Lib.below_iterAt HB.out hN s (pos + 1)
    have HK1 := Lib.hid hk1
    have HO1 := Lib.hid ho1
    have HB1 := Lib.hid hB1
    have HN1 := Lib.hid hne1
    have hix := fun w => index_d32 d hd10 w
    have HRS := Lib.hid (HRA.out pos d hd.out)
    have hc48 : (48 : Int) + (d : Int) - 48 = (d : Int) := by omega
    have hw32 : IntKind.i32.wrap (d : Int) = (d : Int) := by simp [IntKind.wrap, IntKind.bits, IntKind.signed]; omega
    generalize hz : dg (d : Int) = z at *
    clear hk1 ho1 hB1 hk hch hne1 hz
    generalize wr.iterAt N s (pos + 1) = W1 at *
    go_wp2_with fail
    refine (digitCells_c _).mono ?_
    rintro e w2 ⟨rfl, hb2⟩
    have HO2 := Lib.hid (own_keep HO1.out hb2)
    have HB2 := Lib.hid (Below.chain HB1.out hb2)
    have hNlt : N < W1.heap.size := (Array.getElem?_eq_some_iff.1 HK1.out).1
    have HK2 : Hid (w2.heap[N]? = some (.stringIter s (pos + 1))) := (hb2.block N hNlt).trans HK1.out
    have hN2 : N < w2.heap.size := Nat.lt_of_lt_of_le hNlt hb2.size
    clear hb2 HO1 HB1 HK1
    go_wp2_with (at_builtin; refine wpList_append_own_at _ rfl _ _ 37 rfl w.heap.size 3 inf (.int .i64 0) 1 8 Tryz.underlying37 hi hz0 hz1 hz2 rfl (by decide) _ pos ((R.take pos).map (Value.int .i64)) rfl (HO2.out.alloc _) ⟨w2.heap.size, 0, none⟩ 1 1 [.int .i64 z] rfl rfl (news_new _ [.int .i64 z] _) (by simp [Value.oneCell']) (by unfold maxLen; omega) (by omega) (by have := HB2.out.size; simp; omega) ?_)
    intro v' w4 ho5 hg5 _ _
    have HO5 := Lib.hid ho5
    have HB5 : Hid (Below w.heap.size w w4) := (Below.alc HB2.out _).grown hg5 (by have := HB2.out.size; simp; omega) (fun g hg => (HO2.out.lt g hg).1)
    have HK5 : Hid (w4.heap[N]? = some (.stringIter s (pos + 1))) := by
     show _ = _
     rw [hg5.block N (by simp; omega) (fun e => HN1.out e.symm), (below_one (w := w2) (.cells #[.int .i64 z] 3)).block N hN2]; exact HK2.out
    have hmu2 : w4.iterPos N = pos + 1 := by simp [World.iterPos, HK5.out]
    clear ho5 hg5
    go_wp2
    go_roundw
    case rel => exact ⟨pos + 1, by omega, HK5, by rw [HRS.out]; show World.ownsRow _ _ _ _ _ _ _; simpa using HO5.out, HB5⟩
    case measure => rw [hmu, hmu2]; omega
  · have hnext : ∀ ty, (Instr.next (.pointer (some ⟨N, 0, none⟩)) true ty).run Tryz.prog wr = _ := fun ty => Lib.run_next_end_at wr N s pos ty hk (by omega)
    obtain rfl : pos = D.length := by omega
    have HOF : Hid (wr.ownsRow w.heap.size 3 1 _ R.length (R.map (Value.int .i64))) := ownsRow_cast HO.out HRL.out.symm (by rw [HRT.out])
    clear HO hk
    go_wp2
    go_ret
    exact ⟨_, rfl, HOF.out, HB.out⟩
theorem LitOf_c (v : Value) (xs : List Int) (w : World) (hv : Ints w v xs) (hr : rowB xs = true) :
 Calls Tryz.prog 18 #[v] w fun e w' => e = .returned (.tuple #[.int .i64 (litL xs : Nat), .bool true]) ∧ Below w.heap.size w w' := by
 have HV := Lib.hid hv
 obtain ⟨a, c, rfl, _, _, _⟩ := hv.parts
 have HR := Lib.hid (IsRow_c (.slice a xs.length c) xs w hv)
 rw [hr] at HR
 have hcl : ∀ x ∈ xs, 0 ≤ x ∧ x ≤ 127 := fun x hx => by
  obtain ⟨k, hk⟩ := List.mem_iff_getElem?.1 hx
  exact rowB_cell hr hk
 have hn : xs.length ≤ 6 := by unfold rowB at hr; simp only [Bool.and_eq_true, decide_eq_true_eq] at hr; exact hr.1
 have HCL := Lib.hid hcl
 have HBD := Lib.hid (litL_bd hcl)
 have HALL : Hid (litL (xs.take xs.length) = litL xs) := by show _ = _; rw [List.take_length]
 clear hv hcl hr
 go_enter Tryz.func18, Tryz.ntmps18
 go_wp2_with fail
 refine HR.out.mono ?_
 rintro e w1 ⟨rfl, hb1⟩
 go_wp2
 go_loopw [4, 12] (fun s j wr => ∃ k : Nat, k ≤ xs.length ∧ j = .int .i64 (k : Int) ∧ s = .int .i64 ((litL (xs.take k) : Nat) : Int) ∧ w1 = wr) (fun _ j _ => xs.length - (intOf j).toNat)
 case atStart => exact ⟨0, by omega, rfl, rfl, rfl⟩
 case round =>
  obtain ⟨k, hk, rfl, rfl, rfl⟩ := hrel
  by_cases hlt : k < xs.length
  · have hdd : decide ((k : Int) < (xs.length : Int)) = true := by simp; omega
    obtain ⟨x, hx⟩ := elem_at hlt
    obtain ⟨_, _, he, _, _, HC⟩ := (HV.out.below hb1).parts
    cases he
    obtain ⟨b, off, rfl, f0⟩ := HC.out k x hx.out
    obtain ⟨x0, x1⟩ := HCL.out x (List.mem_of_getElem? hx.out)
    obtain ⟨e1, e2⟩ := cnt_cN x0 x1
    have hb := HBD.out k hk
    have HX := Lib.hid (litL_take hx.out)
    have HC2 := Lib.hid (fun w => count_c x x0 x1 w)
    rw [e1] at HC2
    generalize litL (xs.take k) = s at *
    generalize cN x = c9 at *
    clear e1 HC
    go_wp2_with fail
    refine (HC2.out _).mono ?_
    rintro e _ ⟨rfl, rfl⟩
    go_wp2
    go_roundw
    case rel => exact ⟨k + 1, by omega, by go_num, by rw [HX.out]; first | rfl | (exact int_val (by rw [IntWalk.i64_in _ (by omega)]; simp)) | simp, trivial⟩
    case measure => simp [intOf]; omega
  · obtain rfl : k = xs.length := by omega
    have hdd : decide ((xs.length : Int) < (xs.length : Int)) = false := by simp
    go_wp2
    go_ret2
    exact ⟨by rw [HALL.out]; rfl, hb1⟩
end Go.Proofs.YtohgjfdbnkjefaaGreatDoor
