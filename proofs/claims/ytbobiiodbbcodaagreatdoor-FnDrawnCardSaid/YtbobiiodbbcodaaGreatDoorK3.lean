/- Texts of this claim, gathered: Faults, Mb, LaidM, Groups, Dark. -/
import Derived.Test.YtbobiiodbbcodaaGreatDoorK2
import Derived.Deep.RegionHeld3
import Derived.Test.YtbobiiodbbcodaaGreatDoorShelf
import Derived.Lib.SmallJoins
import Derived.Lib.OthersKept
import Derived.Lib.ItoaNum
import Derived.Test.YtbobiiodbbcodaaGreatDoorRows
import Derived.ProofKit
import Derived.LaidMore
import Derived.OpenShut
import Derived.Stop.Joined
import Derived.MakeChecks
import Derived.Stop.LaidErr
namespace Go.Proofs.YtbobiiodbbcodaaGreatDoor
open Go.RowKit
set_option linter.unusedVariables false
set_option maxRecDepth 100000
def tenI : List Int := [0, 1, 2, 3, 4, 5, 6, 7, 8, 9]
theorem tenI_fin : ∀ k : Fin 10, tenI[k.1]? = some (k.1 : Int) := by decide
theorem tenI_at {k : Nat} (h : k < 10) : tenI[k]? = some (k : Int) := tenI_fin ⟨k, h⟩
/-- those of the first n digits that show a cell under a fault -/
def digTo (d l c : Int) (n : Nat) : List Int := (tenI.take n).filter fun x => shC d l (dg x) == c
def digL (d l c : Int) : List Int := tenI.filter fun x => shC d l (dg x) == c
theorem digTo_all (d l c : Int) : digTo d l c 10 = digL d l c := rfl
theorem digTo_le (d l c : Int) (n : Nat) : (digTo d l c n).length ≤ 10 := Nat.le_trans (List.length_filter_le _ _) (by rw [List.length_take]; simp [tenI]; omega)
theorem digL_le (d l c : Int) : (digL d l c).length ≤ 10 := Nat.le_trans (List.length_filter_le _ _) (by simp [tenI])
theorem digTo_succ (d l c : Int) {n : Nat} (h : n < 10) : digTo d l c (n + 1) = digTo d l c n ++ if shC d l (dg n) == c then [(n : Int)] else [] := by
  unfold digTo
  rw [take_snoc (tenI_at h), List.filter_append]
  cases hq : (shC d l (dg n) == c) <;> simp [hq]
theorem ints_snoc (xs : List Int) (x : Int) : (xs ++ [x]).map (Value.int .i64) = xs.map (Value.int .i64) ++ [.int .i64 x] := by simp

theorem digits_c (d l c : Int) (w : World) (d0 : 0 ≤ d) (d1 : d ≤ 127) (l0 : 0 ≤ l) (l1 : l ≤ 127) :
    Calls Tryz.prog 65 #[.agg #[.int .i64 d, .int .i64 l], .int .i64 c] w fun e w' => ∃ u, e = .returned u ∧ w'.ownsRow w.heap.size 3 1 u (digL d l c).length ((digL d l c).map (Value.int .i64)) ∧ Below w.heap.size w w' := by
  obtain ⟨i, hi, hz0, hz1, hz2⟩ := info_parts info_int
  have q0 : (w.alloc (.cells #[.int .i64 d, .int .i64 l] 30)).cell? ⟨w.heap.size, 0, none⟩ = some (.int .i64 d) := by rw [World.cell?_alloc_at _ _ _ _ rfl]; rfl
  have q1 : (w.alloc (.cells #[.int .i64 d, .int .i64 l] 30)).cell? ⟨w.heap.size, 1, none⟩ = some (.int .i64 l) := by rw [World.cell?_alloc_at _ _ _ _ rfl]; rfl
  have hb0 := below_one (w := w) (.cells #[.int .i64 d, .int .i64 l] 30)
  go_enter Tryz.func65, Tryz.ntmps65
  go_wp2_with fail
  refine (digitCells_c _).mono ?_
  rintro e w1 ⟨rfl, hb1⟩
  have r0 := cell_later hb1 q0
  have r1 := cell_later hb1 q1
  have hb2 := Below.chain hb0 hb1
  clear q0 q1 hb0 hb1
  go_wp2
  go_loopw [5, 6, 7, 9] (fun o _ _ j wr => ∃ k : Nat, k ≤ 10 ∧ j = .int .i64 (k : Int) ∧ wr.ownsRow (w.heap.size + 1) 3 1 o (digTo d l c k).length ((digTo d l c k).map (Value.int .i64)) ∧ Below w.heap.size w wr ∧ w.heap.size + 1 ≤ wr.heap.size ∧ wr.cell? ⟨w.heap.size, 0, none⟩ = some (.int .i64 d) ∧ wr.cell? ⟨w.heap.size, 1, none⟩ = some (.int .i64 l)) (fun _ _ _ j _ => 11 - (intOf j).toNat)
  case atStart => exact ⟨0, by omega, rfl, World.ownsRow_nil _ _ _ _, hb2, World.block_lt_of_cell? _ _ r0, r0, r1⟩
  case round =>
    obtain ⟨k, hk, rfl, ho, hb, hsz, g0, g1⟩ := hrel
    clear r0 r1 hb2
    by_cases hlt : k < 10
    · have hd : decide ((k : Int) < 10) = true := by simp; omega
      have hix := fun w => index_dig (k : Int) (by omega) (by omega) w
      have bdx := dg_bd (k : Int)
      have hsc := digTo_succ d l c hlt
      have hle := digTo_le d l c k
      generalize digTo d l c k = cur at *
      have HS := Lib.hid hsc; clear hsc
      go_wp2_with fail
      refine (shown_c d l (dg k) d0 d1 l0 l1 bdx.1 bdx.2 _).mono ?_
      rintro e w2 ⟨rfl, hb3⟩
      have g02 := cell_later hb3 g0
      have g12 := cell_later hb3 g1
      have hb4 := Below.chain hb hb3
      have ho2 := own_keep ho hb3
      have hsz2 := Nat.le_trans hsz hb3.size
      clear g0 g1 hb hb3 ho hsz hix
      rcases hq : (shC d l (dg (k : Int)) == c) with _ | _
      · have hS2 : digTo d l c (k + 1) = cur := by rw [HS.out]; simp [hq]
        have HS2 := Lib.hid hS2; clear hS2 HS
        go_wp2
        go_roundw
        case rel => exact ⟨k + 1, by omega, by go_num, by rw [HS2.out]; exact ho2, hb4, hsz2, g02, g12⟩
        case measure => simp [intOf]; omega
      · have hS2 : digTo d l c (k + 1) = cur ++ [(k : Int)] := by rw [HS.out]; simp [hq]
        have HS2 := Lib.hid hS2; clear hS2 HS
        go_wp2_with (at_builtin; refine wpList_append_own_at _ rfl _ _ 39 rfl (w.heap.size + 1) 3 i (.int .i64 0) 1 8 Tryz.underlying39 hi hz0 hz1 hz2 rfl (by decide) _ cur.length (cur.map (Value.int .i64)) rfl (ho2.alloc _) ⟨w2.heap.size, 0, none⟩ 1 1 [.int .i64 k] rfl rfl (news_new _ [.int .i64 k] _) (by simp [Value.oneCell']) (by unfold maxLen; omega) (by omega) (by simp; omega) ?_)
        intro v' w3 ho5 hg5 _ _
        have hlt2 := World.block_lt_of_cell? _ _ g02
        have hb7 : Below w.heap.size w w3 := (Below.alc hb4 _).grown hg5 (by have := hb4.size; simp; omega) (fun g hg => by have := (ho2.lt g hg).1; omega)
        have hkeep : ∀ o v, w2.cell? ⟨w.heap.size, o, none⟩ = some v → w3.cell? ⟨w.heap.size, o, none⟩ = some v := fun o v h =>
          hg5.cell (cell_later (below_one _) h) (fun e => by have := (ho2.lt _ e.symm).1; simp at this; omega)
        have g03 := hkeep _ _ g02
        have g13 := hkeep _ _ g12
        have hsz3 : w.heap.size + 1 ≤ w3.heap.size := Nat.le_trans (by simp; omega) hg5.size
        clear ho2 hb4 hg5 g02 g12 hkeep hlt2 hsz2
        go_wp2
        go_roundw
        case rel => exact ⟨k + 1, by omega, by go_num, by rw [HS2.out]; exact ownsRow_cast ho5 (by simp) (ints_snoc _ _).symm, hb7, hsz3, g03, g13⟩
        case measure => simp [intOf]; omega
    · obtain rfl : k = 10 := by omega
      go_wp2
      go_ret
      exact ⟨_, rfl, by rw [← digTo_all]; exact own_lo ho (by omega), hb⟩

theorem l3Digits_c (d l c : Int) (w : World) (d0 : 0 ≤ d) (d1 : d ≤ 127) (l0 : 0 ≤ l) (l1 : l ≤ 127) :
    Calls Tryz.prog 79 #[.agg #[.int .i64 d, .int .i64 l], .int .i64 c] w fun e w' => ∃ u, e = .returned u ∧ w'.ownsRow w.heap.size 3 1 u (digL d l c).length ((digL d l c).map (Value.int .i64)) ∧ Below w.heap.size w w' := by
  obtain ⟨i, hi, hz0, hz1, hz2⟩ := info_parts info_int
  have q0 : (w.alloc (.cells #[.int .i64 d, .int .i64 l] 30)).cell? ⟨w.heap.size, 0, none⟩ = some (.int .i64 d) := by rw [World.cell?_alloc_at _ _ _ _ rfl]; rfl
  have q1 : (w.alloc (.cells #[.int .i64 d, .int .i64 l] 30)).cell? ⟨w.heap.size, 1, none⟩ = some (.int .i64 l) := by rw [World.cell?_alloc_at _ _ _ _ rfl]; rfl
  have r0 := cell_later (below_one (.cells #[] 3)) q0
  have r1 := cell_later (below_one (.cells #[] 3)) q1
  have hb2 : Below w.heap.size w ((w.alloc (.cells #[.int .i64 d, .int .i64 l] 30)).alloc (.cells #[] 3)) := by (repeat (first | exact Below.refl _ _ | exact (Below.refl _ _).drew | assumption | exact below_one _ | refine Below.chain ?_ (by assumption) | refine Below.drew ?_ | refine Below.alc ?_ _ | refine below_drewN ?_ | (refine Below.setCell ?_ ?_ _) | exact Nat.le_refl _ | (simp; done) | (simp; omega)))
  have ho0 := World.ownsRow_lit (e := 3) (size := 1) (base := w.heap.size + 1) (w.alloc (.cells #[.int .i64 d, .int .i64 l] 30)) #[] 0 (by simp) (by decide) rfl
  rw [show (w.alloc (.cells #[.int .i64 d, .int .i64 l] 30)).heap.size = w.heap.size + 1 by simp] at ho0
  clear q0 q1
  go_enter Tryz.func79, Tryz.ntmps79
  go_wp2
  go_loopw [5, 6] (fun o j wr => ∃ k : Nat, k ≤ 10 ∧ j = .int .i64 (k : Int) ∧ wr.ownsRow (w.heap.size + 1) 3 1 o (digTo d l c k).length ((digTo d l c k).map (Value.int .i64)) ∧ Below w.heap.size w wr ∧ w.heap.size + 1 ≤ wr.heap.size ∧ wr.cell? ⟨w.heap.size, 0, none⟩ = some (.int .i64 d) ∧ wr.cell? ⟨w.heap.size, 1, none⟩ = some (.int .i64 l)) (fun _ j _ => 11 - (intOf j).toNat)
  case atStart => exact ⟨0, by omega, rfl, ho0, hb2, World.block_lt_of_cell? _ _ r0, r0, r1⟩
  case round =>
    obtain ⟨k, hk, rfl, ho, hb, hsz, g0, g1⟩ := hrel
    clear r0 r1 hb2 ho0
    by_cases hlt : k < 10
    · have hd : decide ((k : Int) < 10) = true := by simp; omega
      have bdx := dg_bd (k : Int)
      have hsc := digTo_succ d l c hlt
      have hle := digTo_le d l c k
      generalize digTo d l c k = cur at *
      have HS := Lib.hid hsc; clear hsc
      go_wp2_with fail
      go_region_held3 (fun w' => w'.cell? ⟨w.heap.size, 0, none⟩ = some (.int .i64 d) ∧ w'.cell? ⟨w.heap.size, 1, none⟩ = some (.int .i64 l))
        (first | go_keep | (go_split_ands; exact ⟨cell_later (by assumption) (by assumption), cell_later (by assumption) (by assumption)⟩))
        (first | (go_at_call 46; refine (l2Digit_c (k : Int) (by omega) (by omega) _).mono ?_; rintro e w' ⟨rfl, hb2⟩) | (go_at_call 80; refine (l3Shown_c d l (dg k) d0 d1 l0 l1 bdx.1 bdx.2 _).mono ?_; rintro e w' ⟨rfl, hb3⟩))
      go_split_ands
      have g02 : w'.cell? ⟨w.heap.size, 0, none⟩ = some (.int .i64 d) := by assumption
      have g12 : w'.cell? ⟨w.heap.size, 1, none⟩ = some (.int .i64 l) := by assumption
      have hb23 : Below wr.heap.size wr w' := Below.chain (Below.chain (Below.refl _ _).drew hb2) hb3
      have hb4 := Below.chain hb hb23
      have ho2 := own_keep ho hb23
      have hsz2 := Nat.le_trans hsz hb23.size
      clear g0 g1 hb hb3 hb2 hb23 ho hsz
      rcases hq : (shC d l (dg (k : Int)) == c) with _ | _
      · have hS2 : digTo d l c (k + 1) = cur := by rw [HS.out]; simp [hq]
        have HS2 := Lib.hid hS2; clear hS2 HS
        go_wp2
        go_roundw
        case rel => exact ⟨k + 1, by omega, by go_num, by rw [HS2.out]; exact ho2, hb4, hsz2, g02, g12⟩
        case measure => simp [intOf]; omega
      · have hS2 : digTo d l c (k + 1) = cur ++ [(k : Int)] := by rw [HS.out]; simp [hq]
        have HS2 := Lib.hid hS2; clear hS2 HS
        go_wp2_with (at_builtin; refine wpList_append_own_at _ rfl _ _ 39 rfl (w.heap.size + 1) 3 i (.int .i64 0) 1 8 Tryz.underlying39 hi hz0 hz1 hz2 rfl (by decide) _ cur.length (cur.map (Value.int .i64)) rfl (ho2.alloc _) ⟨w'.heap.size, 0, none⟩ 1 1 [.int .i64 k] rfl rfl (news_new _ [.int .i64 k] _) (by simp [Value.oneCell']) (by unfold maxLen; omega) (by omega) (by simp; omega) ?_)
        intro v' w3 ho5 hg5 _ _
        have hlt2 := World.block_lt_of_cell? _ _ g02
        have hb7 : Below w.heap.size w w3 := (Below.alc hb4 _).grown hg5 (by have := hb4.size; simp; omega) (fun g hg => by have := (ho2.lt g hg).1; omega)
        have hkeep : ∀ o v, w'.cell? ⟨w.heap.size, o, none⟩ = some v → w3.cell? ⟨w.heap.size, o, none⟩ = some v := fun o v h =>
          hg5.cell (cell_later (below_one _) h) (fun e => by have := (ho2.lt _ e.symm).1; simp at this; omega)
        have g03 := hkeep _ _ g02
        have g13 := hkeep _ _ g12
        have hsz3 : w.heap.size + 1 ≤ w3.heap.size := Nat.le_trans (by simp; omega) hg5.size
        clear ho2 hb4 hg5 g02 g12 hkeep hlt2 hsz2
        go_wp2
        go_roundw
        case rel => exact ⟨k + 1, by omega, by go_num, by rw [HS2.out]; exact ownsRow_cast ho5 (by simp) (ints_snoc _ _).symm, hb7, hsz3, g03, g13⟩
        case measure => simp [intOf]; omega
    · obtain rfl : k = 10 := by omega
      go_wp2
      go_ret
      exact ⟨_, rfl, by rw [← digTo_all]; exact own_lo ho (by omega), hb⟩
end Go.Proofs.YtbobiiodbbcodaaGreatDoor
namespace Go.Proofs.YtbobiiodbbcodaaGreatDoor
open Go.RowKit
set_option linter.unusedVariables false
set_option linter.unusedSimpArgs false
set_option maxRecDepth 100000
/-- the table that the library's decimal text reads -/
def TabM (w : World) : Prop := Lib.TabIs Tryz.prog w "internal/strconv.uint64pow10" .u64 Lib.pow10Tab
theorem TabM.on {w w' : World} (h : TabM w) (hb : Below w.heap.size w w') : TabM w' :=
  Joins.tab_stays (g := 0) (by kernel_rfl) h hb (Nat.le_refl _)
theorem below_growM (w : World) (q : Nat) (os : Array Obj) : Below w.heap.size w (Sort.grow (w.drewN q) os) :=
  ⟨rfl, rfl, rfl, by simp [Sort.grow], fun i hi => by
    show ((w.drewN q).heap ++ os)[i]? = _
    rw [Array.getElem?_append_left (by show i < w.heap.size; omega)]
    rfl⟩
/-- the decimal digits of a number -/
def decN (u : Nat) : List Nat := if h : u < 10 then [u] else decN (u / 10) ++ [u % 10]
termination_by u
decreasing_by omega
theorem decN_lt (u : Nat) : ∀ d ∈ decN u, d < 10 := by
  induction u using Nat.strongRecOn with
  | _ u ih =>
    intro d hd
    rw [decN] at hd
    split at hd
    · simp only [List.mem_singleton] at hd; omega
    · rcases List.mem_append.1 hd with h | h
      · exact ih (u / 10) (by omega) d h
      · simp only [List.mem_singleton] at h; omega
theorem decN_len : ∀ (k u : Nat), u < 10 ^ (k + 1) → (decN u).length ≤ k + 1
  | 0, u, h => by rw [decN, dif_pos (by simpa using h)]; simp
  | k + 1, u, h => by
    rw [decN]
    split
    · simp
    · have := decN_len k (u / 10) (by rw [Nat.pow_succ] at h; omega)
      simp; omega
theorem dec_digits (u : Nat) : Lib.decDigits u = (decN u).map fun (d : Nat) => UInt8.ofNat (48 + d) := by
  induction u using Nat.strongRecOn with
  | _ u ih =>
    rw [Lib.decDigits, decN]
    split
    · simp
    · rw [ih (u / 10) (by omega)]; simp
def rowL (u : Nat) : List Int := (decN u).map fun (d : Nat) => dg (d : Int)
def cN (c : Int) : Nat := (cnt c).toNat
def litL (xs : List Int) : Nat := (xs.map cN).sum
def litN (u : Nat) : Nat := litL (rowL u)
theorem litN_small {u : Nat} (h : u < 10) : litN u = cN (dg (u : Int)) := by unfold litN litL rowL; rw [decN, dif_pos h]; simp
theorem litN_big {u : Nat} (h : ¬ u < 10) : litN u = litN (u / 10) + cN (dg ((u % 10 : Nat) : Int)) := by
  unfold litN litL rowL
  rw [decN, dif_neg h]; simp
theorem cnt_all : ∀ n : Fin 128, 0 ≤ cnt (n.1 : Int) ∧ cnt (n.1 : Int) ≤ 7 := by decide +kernel
theorem cnt_cN {c : Int} (h0 : 0 ≤ c) (h1 : c ≤ 127) : cnt c = (cN c : Int) ∧ cN c ≤ 7 := by
  obtain ⟨n, rfl⟩ := Int.eq_ofNat_of_zero_le h0
  have := cnt_all ⟨n, by omega⟩
  simp only at this
  unfold cN
  omega
theorem litL_take {xs : List Int} {k : Nat} {x : Int} (h : xs[k]? = some x) : litL (xs.take (k + 1)) = litL (xs.take k) + cN x := by
  unfold litL; rw [take_snoc h]; simp
theorem litL_bd {xs : List Int} (hd : ∀ x ∈ xs, 0 ≤ x ∧ x ≤ 127) : ∀ k, k ≤ xs.length → litL (xs.take k) ≤ 7 * k
  | 0, _ => by simp [litL]
  | k + 1, hk => by
    have ih := litL_bd hd k (by omega)
    have hx : xs[k]? = some (xs[k]'(by omega)) := List.getElem?_eq_getElem (by omega)
    rw [litL_take hx]
    have h1 := hd _ (List.getElem_mem (show k < xs.length by omega))
    have := (cnt_cN h1.1 h1.2).2
    omega
theorem rowL_cells (u : Nat) : ∀ x ∈ rowL u, 0 ≤ x ∧ x ≤ 127 := fun x hx => by
  unfold rowL at hx
  obtain ⟨d, _, rfl⟩ := List.mem_map.1 hx
  exact dg_bd _
theorem rowL_row {u : Nat} (h : u < 10000) : rowB (rowL u) = true ∧ (rowL u).length ≤ 4 := by
  have hl := decN_len 3 u h
  have hl2 : (rowL u).length ≤ 4 := by unfold rowL; simpa using hl
  refine ⟨?_, hl2⟩
  unfold rowB
  rw [decide_eq_true (by omega), Bool.true_and, List.all_eq_true]
  intro x hx
  have := rowL_cells u x hx
  exact inB_mk this.1 this.2
theorem index_d32 (d : Nat) (h : d < 10) (w : World) : (Instr.index 67 digA (.int .i32 (d : Int))).run Tryz.prog w = .ok (.int .i64 (dg (d : Int))) w := by
  have h2 : d = 0 ∨ d = 1 ∨ d = 2 ∨ d = 3 ∨ d = 4 ∨ d = 5 ∨ d = 6 ∨ d = 7 ∨ d = 8 ∨ d = 9 := by omega
  rcases h2 with rfl | rfl | rfl | rfl | rfl | rfl | rfl | rfl | rfl | rfl <;> rfl
theorem own_iter {w : World} {lo n size N : Nat} {e : TypeId} {v : Value} {xs : List Value} {s : ByteArray} {p p' : Nat} (h : w.ownsRow lo e size v n xs) (hk : w.heap[N]? = some (.stringIter s p)) : v.ownBlock ≠ some N ∧ (w.iterAt N s p').ownsRow lo e size v n xs := by
  rcases h.2 with ⟨rfl, h0⟩ | ⟨g, cap, cur, rfl, hb, hg, h3⟩
  · exact ⟨by simp [Value.ownBlock], h.1, Or.inl ⟨rfl, h0⟩⟩
  · have hne : g ≠ N := fun e => by subst e; rw [hk] at hg; cases hg
    exact ⟨by simpa [Value.ownBlock] using hne, h.1, Or.inr ⟨g, cap, cur, rfl, hb, by rw [Lib.iterAt_other _ _ _ _ _ hne]; exact hg, h3⟩⟩
set_option maxHeartbeats 4000000 in
theorem rowOf_c (u : Nat) (hu : u < 10000) (w : World) (ht : TabM w) :
    Calls Tryz.prog 44 #[.int .i64 (u : Int)] w fun e w' => ∃ v, e = .returned v ∧ w'.ownsRow w.heap.size 3 1 v (rowL u).length ((rowL u).map (Value.int .i64)) ∧ Below w.heap.size w w' := by
  obtain ⟨inf, hi, hz0, hz1, hz2⟩ := info_parts info_int
  have HIt := Lib.hid (Tryz.strconv_Itoa (u : Int) (by omega) (by omega) w ht)
  have hit : Lib.itoa (u : Int) = (decN u).map fun (d : Nat) => UInt8.ofNat (48 + d) := by
    unfold Lib.itoa; rw [if_neg (by omega), ← dec_digits]; simp
  have HDL := Lib.hid (decN_lt u)
  have hl4 := decN_len 3 u hu
  have hrl : (rowL u).length = (decN u).length := by simp [rowL]
  have HRL := Lib.hid hrl
  have HRA : Hid (∀ (k d : Nat), (decN u)[k]? = some d → (rowL u).take (k + 1) = (rowL u).take k ++ [dg (d : Int)]) := fun k d hd => take_snoc (by unfold rowL; rw [List.getElem?_map, hd]; rfl)
  have HRT : Hid ((rowL u).take (decN u).length = rowL u) := by show _ = _; rw [← hrl, List.take_length]
  rw [hit] at HIt
  clear hit hrl ht
  generalize decN u = D at *
  generalize rowL u = R at *
  have hsz : (ByteArray.mk ((D.map fun (d : Nat) => UInt8.ofNat (48 + d)).toArray)).size = D.length := by show (List.toArray _).size = _; simp
  have HCH : Hid (∀ (k d : Nat), D[k]? = some d → ∀ (h : k < (ByteArray.mk ((D.map fun (d : Nat) => UInt8.ofNat (48 + d)).toArray)).size), ((ByteArray.mk ((D.map fun (d : Nat) => UInt8.ofNat (48 + d)).toArray))[k]'h).toNat = 48 + d) := fun k d hd h => by
    have hd10 := HDL.out d (List.mem_of_getElem? hd)
    show ((List.toArray (D.map fun (d : Nat) => UInt8.ofNat (48 + d)))[k]'(by have h9 := h; rw [hsz] at h9; simpa using h9)).toNat = _
    have hk : k < D.length := (List.getElem?_eq_some_iff.1 hd).1
    have he : D[k] = d := by rw [List.getElem?_eq_getElem hk] at hd; exact Option.some.inj hd
    simp [he]
    omega
  generalize (ByteArray.mk ((D.map fun (d : Nat) => UInt8.ofNat (48 + d)).toArray)) = s at *
  go_enter Tryz.func44, Tryz.ntmps44
  go_wp2_with fail
  refine HIt.out.mono ?_
  rintro e w1 ⟨rfl, kk, os, rfl⟩
  have hb1 := below_growM w kk os
  generalize Sort.grow (w.drewN kk) os = w1 at *
  have hk0 := World.iter_heap w1 s 0
  have hB0 : Below w.heap.size w (w1.iter s 0) := Below.alc hb1 _
  have hN := hb1.size
  have HK0 := Lib.hid hk0
  have HB0 := Lib.hid hB0
  clear hk0 hB0 hb1 HIt
  go_wp2
  generalize hNN : w1.heap.size = N at *
  go_loopw [3] (fun o wr => ∃ pos : Nat, pos ≤ D.length ∧ Hid (wr.heap[N]? = some (.stringIter s pos)) ∧ Hid (wr.ownsRow w.heap.size 3 1 o pos ((R.take pos).map (Value.int .i64))) ∧ Hid (Below w.heap.size w wr)) (fun _ wr => D.length - wr.iterPos N)
  case atStart => exact ⟨0, by omega, HK0, World.ownsRow_nil _ _ _ _, HB0⟩
  case round =>
    obtain ⟨pos, hps, HK, HO, HB⟩ := hrel
    have hk := HK.out
    have hmu : wr.iterPos N = pos := by simp [World.iterPos, hk]
    by_cases hp : pos < D.length
    · obtain ⟨d, hd⟩ := elem_at hp
      have hd10 := HDL.out d (List.mem_of_getElem? hd.out)
      have hch := HCH.out pos d hd.out (by omega)
      have hnext : ∀ ty, (Instr.next (.pointer (some ⟨N, 0, none⟩)) true ty).run Tryz.prog wr = _ := fun ty => Lib.run_next_ascii_at wr N s pos ty hk (by omega) (by rw [hch]; omega)
      rw [hch] at hnext
      have hk1 := Lib.iterAt_heap wr N s pos (pos + 1) hk
      obtain ⟨hne1, ho1⟩ := own_iter (p' := pos + 1) HO.out hk
      have hB1 : Below w.heap.size w (wr.iterAt N s (pos + 1)) := Lib.below_iterAt HB.out hN s (pos + 1)
      have HK1 := Lib.hid hk1
      have HO1 := Lib.hid ho1
      have HB1 := Lib.hid hB1
      have HN1 := Lib.hid hne1
      have hix := fun w => index_d32 d hd10 w
      have HRS := Lib.hid (HRA.out pos d hd.out)
      have hc48 : (48 : Int) + (d : Int) - 48 = (d : Int) := by omega
      have hw32 : IntKind.i32.wrap (d : Int) = (d : Int) := by simp [IntKind.wrap, IntKind.bits, IntKind.signed]; omega
      generalize hz : dg (d : Int) = z at *
      clear hk1 ho1 hB1 hk hch hne1 hz
      generalize wr.iterAt N s (pos + 1) = W1 at *
      go_wp2_with fail
      refine (digitCells_c _).mono ?_
      rintro e w2 ⟨rfl, hb2⟩
      have HO2 := Lib.hid (own_keep HO1.out hb2)
      have HB2 := Lib.hid (Below.chain HB1.out hb2)
      have hNlt : N < W1.heap.size := (Array.getElem?_eq_some_iff.1 HK1.out).1
      have HK2 : Hid (w2.heap[N]? = some (.stringIter s (pos + 1))) := (hb2.block N hNlt).trans HK1.out
      have hN2 : N < w2.heap.size := Nat.lt_of_lt_of_le hNlt hb2.size
      clear hb2 HO1 HB1 HK1
      go_wp2_with (at_builtin; refine wpList_append_own_at _ rfl _ _ 39 rfl w.heap.size 3 inf (.int .i64 0) 1 8 Tryz.underlying39 hi hz0 hz1 hz2 rfl (by decide) _ pos ((R.take pos).map (Value.int .i64)) rfl (HO2.out.alloc _) ⟨w2.heap.size, 0, none⟩ 1 1 [.int .i64 z] rfl rfl (news_new _ [.int .i64 z] _) (by simp [Value.oneCell']) (by unfold maxLen; omega) (by omega) (by have := HB2.out.size; simp; omega) ?_)
      intro v' w4 ho5 hg5 _ _
      have HO5 := Lib.hid ho5
      have HB5 : Hid (Below w.heap.size w w4) := (Below.alc HB2.out _).grown hg5 (by have := HB2.out.size; simp; omega) (fun g hg => (HO2.out.lt g hg).1)
      have HK5 : Hid (w4.heap[N]? = some (.stringIter s (pos + 1))) := by
        show _ = _
        rw [hg5.block N (by simp; omega) (fun e => HN1.out e.symm), (below_one (w := w2) (.cells #[.int .i64 z] 3)).block N hN2]; exact HK2.out
      have hmu2 : w4.iterPos N = pos + 1 := by simp [World.iterPos, HK5.out]
      clear ho5 hg5
      go_wp2
      go_roundw
      case rel => exact ⟨pos + 1, by omega, HK5, by rw [HRS.out]; show World.ownsRow _ _ _ _ _ _ _; simpa using HO5.out, HB5⟩
      case measure => rw [hmu, hmu2]; omega
    · have hnext : ∀ ty, (Instr.next (.pointer (some ⟨N, 0, none⟩)) true ty).run Tryz.prog wr = _ := fun ty => Lib.run_next_end_at wr N s pos ty hk (by omega)
      obtain rfl : pos = D.length := by omega
      have HOF : Hid (wr.ownsRow w.heap.size 3 1 _ R.length (R.map (Value.int .i64))) := ownsRow_cast HO.out HRL.out.symm (by rw [HRT.out])
      clear HO hk
      go_wp2
      go_ret
      exact ⟨_, rfl, HOF.out, HB.out⟩
theorem LitOf_c (v : Value) (xs : List Int) (w : World) (hv : Ints w v xs) (hr : rowB xs = true) :
    Calls Tryz.prog 43 #[v] w fun e w' => e = .returned (.tuple #[.int .i64 (litL xs : Nat), .bool true]) ∧ Below w.heap.size w w' := by
  have HV := Lib.hid hv
  obtain ⟨a, c, rfl, _, _, _⟩ := hv.parts
  have HR := Lib.hid (IsRow_c (.slice a xs.length c) xs w hv)
  rw [hr] at HR
  have hcl : ∀ x ∈ xs, 0 ≤ x ∧ x ≤ 127 := fun x hx => by
    obtain ⟨k, hk⟩ := List.mem_iff_getElem?.1 hx
    exact rowB_cell hr hk
  have hn : xs.length ≤ 6 := by unfold rowB at hr; simp only [Bool.and_eq_true, decide_eq_true_eq] at hr; exact hr.1
  have HCL := Lib.hid hcl
  have HBD := Lib.hid (litL_bd hcl)
  have HALL : Hid (litL (xs.take xs.length) = litL xs) := by show _ = _; rw [List.take_length]
  clear hv hcl hr
  go_enter Tryz.func43, Tryz.ntmps43
  go_wp2_with fail
  refine HR.out.mono ?_
  rintro e w1 ⟨rfl, hb1⟩
  go_wp2
  go_loopw [4, 12] (fun s j wr => ∃ k : Nat, k ≤ xs.length ∧ j = .int .i64 (k : Int) ∧ s = .int .i64 ((litL (xs.take k) : Nat) : Int) ∧ w1 = wr) (fun _ j _ => xs.length - (intOf j).toNat)
  case atStart => exact ⟨0, by omega, rfl, rfl, rfl⟩
  case round =>
    obtain ⟨k, hk, rfl, rfl, rfl⟩ := hrel
    by_cases hlt : k < xs.length
    · have hdd : decide ((k : Int) < (xs.length : Int)) = true := by simp; omega
      obtain ⟨x, hx⟩ := elem_at hlt
      obtain ⟨_, _, he, _, _, HC⟩ := (HV.out.below hb1).parts
      cases he
      obtain ⟨b, off, rfl, f0⟩ := HC.out k x hx.out
      obtain ⟨x0, x1⟩ := HCL.out x (List.mem_of_getElem? hx.out)
      obtain ⟨e1, e2⟩ := cnt_cN x0 x1
      have hb := HBD.out k hk
      have HX := Lib.hid (litL_take hx.out)
      have HC2 := Lib.hid (fun w => count_c x x0 x1 w)
      rw [e1] at HC2
      generalize litL (xs.take k) = s at *
      generalize cN x = c9 at *
      clear e1 HC
      go_wp2_with fail
      refine (HC2.out _).mono ?_
      rintro e _ ⟨rfl, rfl⟩
      go_wp2
      go_roundw
      case rel => exact ⟨k + 1, by omega, by go_num, by rw [HX.out]; first | rfl | (exact int_val (by rw [IntWalk.i64_in _ (by omega)]; simp)) | simp, trivial⟩
      case measure => simp [intOf]; omega
    · obtain rfl : k = xs.length := by omega
      have hdd : decide ((xs.length : Int) < (xs.length : Int)) = false := by simp
      go_wp2
      go_ret2
      exact ⟨by rw [HALL.out]; rfl, hb1⟩
end Go.Proofs.YtbobiiodbbcodaaGreatDoor
namespace Go.Proofs.YtbobiiodbbcodaaGreatDoor
open Go.ChangeShapes Go.WideShapes Go.ChangeAt Go.RowKit
set_option maxRecDepth 100000
abbrev laidL : List (String × DataW Unit) := [("math/bits.deBruijn32tab", Rows.laid_math_bits_deBruijn32tab), ("math/bits.deBruijn64tab", Rows.laid_math_bits_deBruijn64tab), ("internal/strconv.uint64pow10", Rows.laid_internal_strconv_uint64pow10)]
/-- The door's own heap meets the condition: closed facts. -/
theorem door_met (os : Os) (args : Array Value) : laidMetH Tryz.prog laidL ((World.doorLaid Tryz.prog 24 os).forCall (fun _ _ => 0) ⟨#[], args, []⟩).memory :=
  laidMetH_of_parts3 (fuel := 8) (laidMet_of_run' 8 (by kernel_rfl) (by kernel_rfl)) (by kernel_rfl) (by kernel_rfl)
theorem pow_data : (Rows.laid_internal_strconv_uint64pow10 : DataW Unit) = Lib.tabData .u64 Lib.pow10Tab := by kernel_rfl
theorem tab_of_laid {W : World} (h : laidMetH Tryz.prog laidL W) : TabM W := by
  rw [MakeChecks.laidMetH_plain _ _ _ (by kernel_rfl)] at h
  have h2 := laidMet.tail (laidMet.tail h)
  rw [pow_data] at h2
  exact Lib.tabIs_of_head (g := 0) (t := 97) (e := 51) (n := 20) (by kernel_rfl) (by kernel_rfl) (by kernel_rfl) (by kernel_rfl) (by kernel_rfl) (by kernel_rfl) h2
end Go.Proofs.YtbobiiodbbcodaaGreatDoor
namespace Go.Proofs.YtbobiiodbbcodaaGreatDoor
open Go.RowKit
set_option linter.unusedVariables false
set_option maxRecDepth 100000
abbrev ints (xs : List Int) : List Value := xs.map (Value.int .i64)
/-- slices of ints of the call's own, one beside the other, none over another's array -/
def Inn (w : World) (lo : Nat) (vs : List Value) (xss : List (List Int)) : Prop :=
  vs.length = xss.length ∧ (∀ (k : Nat) (v : Value) (xs : List Int), vs[k]? = some v → xss[k]? = some xs → w.ownsRow lo 3 1 v xs.length (ints xs)) ∧
  (∀ (i j : Nat) (a b : Value), i < j → vs[i]? = some a → vs[j]? = some b → b.ownBlock = none ∨ b.ownBlock ≠ a.ownBlock)
/-- a slice of such slices -/
def OwnSS (w : World) (lo : Nat) (u : Value) (xss : List (List Int)) : Prop :=
  ∃ vs, w.ownsRow lo 39 1 u xss.length vs ∧ Inn w lo vs xss
theorem own_ne_type {w : World} {lo lo' size size' n n' : Nat} {e e' : TypeId} {v v' : Value} {xs xs' : List Value} (h : w.ownsRow lo e size v n xs) (h' : w.ownsRow lo' e' size' v' n' xs') (hne : e ≠ e') : v.ownBlock = none ∨ v.ownBlock ≠ v'.ownBlock := by
  rcases h.2 with ⟨rfl, _⟩ | ⟨g, c, cur, rfl, _, hg, _⟩
  · exact .inl rfl
  · rcases h'.2 with ⟨rfl, _⟩ | ⟨g', c', cur', rfl, _, hg', _⟩
    · right; simp [Value.ownBlock]
    · right
      intro e0
      simp [Value.ownBlock] at e0
      subst e0
      rw [hg] at hg'
      injection hg' with h1; injection h1 with _ h2; exact hne h2
theorem Inn.nil_ (w : World) (lo : Nat) : Inn w lo [] [] := ⟨rfl, fun k v xs h => by simp at h, fun i j a b _ h => by simp at h⟩
theorem Inn.keep {w w' : World} {lo : Nat} {vs : List Value} {xss : List (List Int)} (h : Inn w lo vs xss) (hb : Below w.heap.size w w') : Inn w' lo vs xss :=
  ⟨h.1, fun k v xs h1 h2 => own_keep (h.2.1 k v xs h1 h2) hb, h.2.2⟩
/-- kept while another row (of another type of element) is written -/
theorem Inn.grown {w w' : World} {lo lo' size n : Nat} {e : TypeId} {u : Value} {us : List Value} {vs : List Value} {xss : List (List Int)} (h : Inn w lo vs xss) (ho : w.ownsRow lo' e size u n us) (hne : (3 : Nat) ≠ e) (hg : w.grownBy w' u.ownBlock) : Inn w' lo vs xss :=
  ⟨h.1, fun k v xs h1 h2 => (h.2.1 k v xs h1 h2).kept hg (own_ne_type (h.2.1 k v xs h1 h2) ho hne), h.2.2⟩
theorem Inn.snoc {w : World} {lo lo2 : Nat} {vs : List Value} {xss : List (List Int)} {v : Value} {xs : List Int} (h : Inn w lo vs xss) (hv : w.ownsRow lo2 3 1 v xs.length (ints xs)) (hl : lo ≤ lo2)
    (hnew : ∀ (k : Nat) (a : Value), vs[k]? = some a → ∀ g, a.ownBlock = some g → g < lo2) : Inn w lo (vs ++ [v]) (xss ++ [xs]) := by
  refine ⟨by simp [h.1], fun k a ys h1 h2 => ?_, fun i j a b hij h1 h2 => ?_⟩
  · by_cases hk : k < vs.length
    · rw [List.getElem?_append_left hk] at h1
      rw [List.getElem?_append_left (by rw [← h.1]; exact hk)] at h2
      exact h.2.1 k a ys h1 h2
    · rw [List.getElem?_append_right (by omega)] at h1
      rw [List.getElem?_append_right (by rw [← h.1]; omega)] at h2
      have hk0 : k - vs.length = 0 := by
        by_cases hz : k - vs.length = 0
        · exact hz
        · rw [List.getElem?_eq_none (by simp; omega)] at h1; cases h1
      have hk1 : k - xss.length = 0 := by rw [← h.1]; exact hk0
      rw [hk0] at h1; rw [hk1] at h2
      simp at h1 h2
      subst h1 h2
      exact own_lo hv hl
  · by_cases hj : j < vs.length
    · rw [List.getElem?_append_left (by omega)] at h1
      rw [List.getElem?_append_left hj] at h2
      exact h.2.2 i j a b hij h1 h2
    · rw [List.getElem?_append_right (by omega)] at h2
      have hj0 : j - vs.length = 0 := by
        by_cases hz : j - vs.length = 0
        · exact hz
        · rw [List.getElem?_eq_none (by simp; omega)] at h2; cases h2
      rw [hj0] at h2; simp at h2; subst h2
      rw [List.getElem?_append_left (by omega)] at h1
      cases hb : v.ownBlock with
      | none => exact .inl rfl
      | some g =>
        right; intro e
        have h3 := (hv.lt g hb).1
        have h4 := hnew i a h1 g e.symm
        omega
theorem Inn.lt {w : World} {lo : Nat} {vs : List Value} {xss : List (List Int)} (h : Inn w lo vs xss) : ∀ (k : Nat) (a : Value), vs[k]? = some a → ∀ g, a.ownBlock = some g → g < w.heap.size := by
  intro k a ha g hg
  have hk : k < xss.length := by rw [← h.1]; exact (List.getElem?_eq_some_iff.1 ha).1
  exact ((h.2.1 k a _ ha (List.getElem?_eq_getElem hk)).lt g hg).2

/-! the groups -/
def grpOf (d l x : Int) : List Int := digL d l (shC d l (dg x))
def isHead (d l x : Int) : Bool := (grpOf d l x).headD (-1) == x
def grpTo (d l : Int) (n : Nat) : List (List Int) := ((tenI.take n).filter (isHead d l)).map (grpOf d l)
def grpL (d l : Int) : List (List Int) := grpTo d l 10
theorem grpTo_le (d l : Int) (n : Nat) : (grpTo d l n).length ≤ 10 := by
  unfold grpTo
  rw [List.length_map]
  exact Nat.le_trans (List.length_filter_le _ _) (by rw [List.length_take]; simp [tenI]; omega)
theorem grpTo_succ (d l : Int) {n : Nat} (h : n < 10) : grpTo d l (n + 1) = grpTo d l n ++ if isHead d l n then [grpOf d l n] else [] := by
  unfold grpTo
  rw [take_snoc (tenI_at h), List.filter_append, List.map_append]
  cases hq : isHead d l n <;> simp [hq]
theorem grpOf_head {d l : Int} {n : Nat} (h : n < 10) : (grpOf d l n)[0]? = some ((grpOf d l n).headD (-1)) := by
  have hm : (n : Int) ∈ grpOf d l n := by
    unfold grpOf digL
    rw [List.mem_filter]
    exact ⟨List.mem_of_getElem? (tenI_at h), by simp⟩
  cases hg : grpOf d l n with
  | nil => rw [hg] at hm; simp at hm
  | cons a t => simp
theorem ownss_snoc (xs : List Value) (v : Value) : xs ++ [v] = xs ++ [v] := rfl
theorem info_ints : (Tryz.prog.info? 39).map (fun i => (i.zero, i.size, i.bytes)) = some (some (.slice none 0 0), 1, 24) := by kernel_rfl
theorem groups_c (d l : Int) (w : World) (d0 : 0 ≤ d) (d1 : d ≤ 127) (l0 : 0 ≤ l) (l1 : l ≤ 127) :
    Calls Tryz.prog 37 #[.agg #[.int .i64 d, .int .i64 l]] w fun e w' => ∃ u, e = .returned u ∧ OwnSS w' w.heap.size u (grpL d l) ∧ Below w.heap.size w w' := by
  obtain ⟨i, hi, hz0, hz1, hz2⟩ := info_parts info_ints
  have q0 : (w.alloc (.cells #[.int .i64 d, .int .i64 l] 30)).cell? ⟨w.heap.size, 0, none⟩ = some (.int .i64 d) := by rw [World.cell?_alloc_at _ _ _ _ rfl]; rfl
  have q1 : (w.alloc (.cells #[.int .i64 d, .int .i64 l] 30)).cell? ⟨w.heap.size, 1, none⟩ = some (.int .i64 l) := by rw [World.cell?_alloc_at _ _ _ _ rfl]; rfl
  have hb0 := below_one (w := w) (.cells #[.int .i64 d, .int .i64 l] 30)
  go_enter Tryz.func37, Tryz.ntmps37
  go_wp2_with fail
  refine (digitCells_c _).mono ?_
  rintro e w1 ⟨rfl, hb1⟩
  have r0 := cell_later hb1 q0
  have r1 := cell_later hb1 q1
  have hb2 := Below.chain hb0 hb1
  clear q0 q1 hb0 hb1
  go_wp2
  go_loopw [3, 4, 5, 6, 8] (fun o _ _ _ j wr => ∃ (k : Nat) (vs : List Value), k ≤ 10 ∧ j = .int .i64 (k : Int) ∧ wr.ownsRow (w.heap.size + 1) 39 1 o (grpTo d l k).length vs ∧ Inn wr (w.heap.size + 1) vs (grpTo d l k) ∧ Below w.heap.size w wr ∧ w.heap.size + 1 ≤ wr.heap.size ∧ wr.cell? ⟨w.heap.size, 0, none⟩ = some (.int .i64 d) ∧ wr.cell? ⟨w.heap.size, 1, none⟩ = some (.int .i64 l)) (fun _ _ _ _ j _ => 11 - (intOf j).toNat)
  case atStart => exact ⟨0, [], by omega, rfl, World.ownsRow_nil _ _ _ _, Inn.nil_ _ _, hb2, World.block_lt_of_cell? _ _ r0, r0, r1⟩
  case round =>
    obtain ⟨k, vs, hk, rfl, ho, hin, hb, hsz, g0, g1⟩ := hrel
    clear r0 r1 hb2
    by_cases hlt : k < 10
    · have hd : decide ((k : Int) < 10) = true := by simp; omega
      have hix := fun w => index_dig (k : Int) (by omega) (by omega) w
      have bdx := dg_bd (k : Int)
      have hsc := grpTo_succ d l hlt
      have hle := grpTo_le d l k
      have hh := grpOf_head (d := d) (l := l) hlt
      generalize grpTo d l k = cur at *
      have HS := Lib.hid hsc; have HH := Lib.hid hh; clear hsc hh
      go_wp2_with fail
      go_region_held3 (fun w' => w'.cell? ⟨w.heap.size, 0, none⟩ = some (.int .i64 d) ∧ w'.cell? ⟨w.heap.size, 1, none⟩ = some (.int .i64 l))
        (first | go_keep | (go_split_ands; exact ⟨cell_later hb3 (by assumption), cell_later hb3 (by assumption)⟩) | (go_split_ands; exact ⟨cell_later hb4 (by assumption), cell_later hb4 (by assumption)⟩))
        (first | (go_at_call 66; refine (shown_c d l (dg k) d0 d1 l0 l1 bdx.1 bdx.2 _).mono ?_; rintro e w' ⟨rfl, hb3⟩) | (go_at_call 65; refine (digits_c d l (shC d l (dg k)) _ d0 d1 l0 l1).mono ?_; rintro e w'' ⟨ug, rfl, hog, hb4⟩))
      have g02 : w''.cell? ⟨w.heap.size, 0, none⟩ = some (.int .i64 d) := by go_split_ands; assumption
      have g12 : w''.cell? ⟨w.heap.size, 1, none⟩ = some (.int .i64 l) := by go_split_ands; assumption
      have hb34 : Below wr.heap.size wr w'' := Below.chain (Below.chain (Below.refl _ _).drew hb3) hb4
      have hsz3 : wr.heap.size ≤ w'.heap.size := hb3.size
      have hb5 := Below.chain hb hb34
      have ho2 := own_keep ho hb34
      have hin2 := hin.keep hb34
      have hsz2 := Nat.le_trans hsz hb34.size
      have hlt0 := hin.lt
      have hog2 : w''.ownsRow w'.heap.size 3 1 ug (grpOf d l k).length (ints (grpOf d l k)) := hog
      obtain ⟨a3, c3, hu3, hc3, hcm3, H3⟩ := (Ints.of_own hog2).parts
      obtain ⟨b3, o3, e3, g3⟩ := H3.out 0 _ HH.out
      subst hu3 e3
      simp only [Nat.add_zero] at g3
      have hpos : 0 < (grpOf d l (k : Int)).length := (List.getElem?_eq_some_iff.1 HH.out).1
      have hposI : (0 : Int) < ((grpOf d l (k : Int)).length : Int) := by omega
      clear hog ho hin hb hb3 hb4 hb34 g0 g1 H3 HH hix
      rcases hq : isHead d l (k : Int) with _ | _
      · have hqb : (((grpOf d l (k : Int)).headD (-1)) == (k : Int)) = false := hq
        have hS2 : grpTo d l (k + 1) = cur := by rw [HS.out]; simp [hq]
        have HS2 := Lib.hid hS2; clear hS2 HS hq
        generalize (grpOf d l (k : Int)).headD (-1) = hx at *
        go_wp2
        go_roundw
        case rel => exact ⟨k + 1, vs, by omega, by go_num, by rw [HS2.out]; exact ho2, by rw [HS2.out]; exact hin2, hb5, hsz2, g02, g12⟩
        case measure => simp [intOf]; omega
      · have hqb : (((grpOf d l (k : Int)).headD (-1)) == (k : Int)) = true := hq
        have hS2 : grpTo d l (k + 1) = cur ++ [grpOf d l k] := by rw [HS.out]; simp [hq]
        have HS2 := Lib.hid hS2; clear hS2 HS hq
        have hin3 := hin2.snoc hog2 (by omega) (fun k a ha g hg => Nat.lt_of_lt_of_le (hlt0 k a ha g hg) hsz3)
        generalize hG : (grpOf d l (k : Int)).headD (-1) = hx at *
        clear hG
        generalize grpOf d l (k : Int) = G at *
        go_wp2_with (at_builtin; refine wpList_append_own_at _ rfl _ _ 47 rfl (w.heap.size + 1) 39 i (.slice none 0 0) 1 24 Tryz.underlying47 hi hz0 hz1 hz2 rfl (by decide) _ cur.length vs rfl (ho2.alloc _) ⟨w''.heap.size, 0, none⟩ 1 1 [.slice (some ⟨b3, o3, none⟩) G.length c3] rfl rfl (news_new _ [.slice (some ⟨b3, o3, none⟩) G.length c3] _) (by simp [Value.oneCell']) (by unfold maxLen; omega) (by omega) (by simp; omega) ?_)
        intro v' w3 ho5 hg5 _ _
        have hlt2 := World.block_lt_of_cell? _ _ g02
        have hb7 : Below w.heap.size w w3 := (Below.alc hb5 _).grown hg5 (by have := hb5.size; simp; omega) (fun g hg => by have := (ho2.lt g hg).1; omega)
        have hkeep : ∀ o v, w''.cell? ⟨w.heap.size, o, none⟩ = some v → w3.cell? ⟨w.heap.size, o, none⟩ = some v := fun o v h =>
          hg5.cell (cell_later (below_one _) h) (fun e => by have := (ho2.lt _ e.symm).1; simp at this; omega)
        have g03 := hkeep _ _ g02
        have g13 := hkeep _ _ g12
        have hin5 : Inn w3 (w.heap.size + 1) (vs ++ [.slice (some ⟨b3, o3, none⟩) G.length c3]) (cur ++ [G]) := (hin3.keep (below_one _)).grown (ho2.alloc _) (by decide) hg5
        have hsz3' : w.heap.size + 1 ≤ w3.heap.size := Nat.le_trans (by simp; omega) hg5.size
        clear ho2 hb5 hg5 g02 g12 hkeep hlt2 hsz2 hin2 hin3 hog2 hlt0 g3
        go_wp2
        go_roundw
        case rel => exact ⟨k + 1, _, by omega, by go_num, by rw [HS2.out]; exact ownsRow_cast ho5 (by simp) rfl, by rw [HS2.out]; exact hin5, hb7, hsz3', g03, g13⟩
        case measure => simp [intOf]; omega
    · obtain rfl : k = 10 := by omega
      go_wp2
      go_ret
      exact ⟨_, rfl, ⟨vs, own_lo ho (by omega), ⟨hin.1, fun k v xs h1 h2 => own_lo (hin.2.1 k v xs h1 h2) (by omega), hin.2.2⟩⟩, hb⟩
theorem l3Groups_c (d l : Int) (w : World) (d0 : 0 ≤ d) (d1 : d ≤ 127) (l0 : 0 ≤ l) (l1 : l ≤ 127) :
    Calls Tryz.prog 59 #[.agg #[.int .i64 d, .int .i64 l]] w fun e w' => ∃ u, e = .returned u ∧ OwnSS w' w.heap.size u (grpL d l) ∧ Below w.heap.size w w' := by
  obtain ⟨i, hi, hz0, hz1, hz2⟩ := info_parts info_ints
  have q0 : (w.alloc (.cells #[.int .i64 d, .int .i64 l] 30)).cell? ⟨w.heap.size, 0, none⟩ = some (.int .i64 d) := by rw [World.cell?_alloc_at _ _ _ _ rfl]; rfl
  have q1 : (w.alloc (.cells #[.int .i64 d, .int .i64 l] 30)).cell? ⟨w.heap.size, 1, none⟩ = some (.int .i64 l) := by rw [World.cell?_alloc_at _ _ _ _ rfl]; rfl
  have hb0 := below_one (w := w) (.cells #[.int .i64 d, .int .i64 l] 30)
  have r0 := cell_later (below_one (.cells #[] 39)) q0
  have r1 := cell_later (below_one (.cells #[] 39)) q1
  have hb2 : Below w.heap.size w ((w.alloc (.cells #[.int .i64 d, .int .i64 l] 30)).alloc (.cells #[] 39)) := by (repeat (first | exact Below.refl _ _ | exact (Below.refl _ _).drew | assumption | exact below_one _ | refine Below.chain ?_ (by assumption) | refine Below.drew ?_ | refine Below.alc ?_ _ | refine below_drewN ?_ | (refine Below.setCell ?_ ?_ _) | exact Nat.le_refl _ | (simp; done) | (simp; omega)))
  have ho0 := World.ownsRow_lit (e := 39) (size := 1) (base := w.heap.size + 1) (w.alloc (.cells #[.int .i64 d, .int .i64 l] 30)) #[] 0 (by simp) (by decide) rfl
  rw [show (w.alloc (.cells #[.int .i64 d, .int .i64 l] 30)).heap.size = w.heap.size + 1 by simp] at ho0
  clear q0 q1 hb0
  go_enter Tryz.func59, Tryz.ntmps59
  go_wp2
  go_loopw [3, 4, 5] (fun o j _ wr => ∃ (k : Nat) (vs : List Value), k ≤ 10 ∧ j = .int .i64 (k : Int) ∧ wr.ownsRow (w.heap.size + 1) 39 1 o (grpTo d l k).length vs ∧ Inn wr (w.heap.size + 1) vs (grpTo d l k) ∧ Below w.heap.size w wr ∧ w.heap.size + 1 ≤ wr.heap.size ∧ wr.cell? ⟨w.heap.size, 0, none⟩ = some (.int .i64 d) ∧ wr.cell? ⟨w.heap.size, 1, none⟩ = some (.int .i64 l)) (fun _ j _ _ => 11 - (intOf j).toNat)
  case atStart => exact ⟨0, [], by omega, rfl, ho0, Inn.nil_ _ _, hb2, World.block_lt_of_cell? _ _ r0, r0, r1⟩
  case round =>
    obtain ⟨k, vs, hk, rfl, ho, hin, hb, hsz, g0, g1⟩ := hrel
    clear r0 r1 hb2 ho0
    by_cases hlt : k < 10
    · have hd : decide ((k : Int) < 10) = true := by simp; omega
      have bdx := dg_bd (k : Int)
      have hsc := grpTo_succ d l hlt
      have hle := grpTo_le d l k
      have hh := grpOf_head (d := d) (l := l) hlt
      generalize grpTo d l k = cur at *
      have HS := Lib.hid hsc; have HH := Lib.hid hh; clear hsc hh
      go_wp2_with fail
      go_region_held3 (fun w' => w'.cell? ⟨w.heap.size, 0, none⟩ = some (.int .i64 d) ∧ w'.cell? ⟨w.heap.size, 1, none⟩ = some (.int .i64 l))
        (first | go_keep | (go_split_ands; exact ⟨cell_later hb4 (by assumption), cell_later hb4 (by assumption)⟩) | (go_split_ands; exact ⟨cell_later hb3 (by assumption), cell_later hb3 (by assumption)⟩) | (go_split_ands; exact ⟨cell_later hb9 (by assumption), cell_later hb9 (by assumption)⟩))
        (first | (go_at_call 46; refine (l2Digit_c (k : Int) (by omega) (by omega) _).mono ?_; rintro e w9 ⟨rfl, hb9⟩) | (go_at_call 80; refine (l3Shown_c d l (dg k) d0 d1 l0 l1 bdx.1 bdx.2 _).mono ?_; rintro e w' ⟨rfl, hb3⟩) | (go_at_call 79; refine (l3Digits_c d l (shC d l (dg k)) _ d0 d1 l0 l1).mono ?_; rintro e w'' ⟨ug, rfl, hog, hb4⟩))
      have g02 : w''.cell? ⟨w.heap.size, 0, none⟩ = some (.int .i64 d) := by go_split_ands; assumption
      have g12 : w''.cell? ⟨w.heap.size, 1, none⟩ = some (.int .i64 l) := by go_split_ands; assumption
      have hb34 : Below wr.heap.size wr w'' := Below.chain (Below.chain (Below.chain (Below.refl _ _).drew hb9) hb3) hb4
      have hsz3 : wr.heap.size ≤ w'.heap.size := Nat.le_trans hb9.size hb3.size
      have hb5 := Below.chain hb hb34
      have ho2 := own_keep ho hb34
      have hin2 := hin.keep hb34
      have hsz2 := Nat.le_trans hsz hb34.size
      have hlt0 := hin.lt
      have hog2 : w''.ownsRow w'.heap.size 3 1 ug (grpOf d l k).length (ints (grpOf d l k)) := hog
      obtain ⟨a3, c3, hu3, hc3, hcm3, H3⟩ := (Ints.of_own hog2).parts
      obtain ⟨b3, o3, e3, g3⟩ := H3.out 0 _ HH.out
      subst hu3 e3
      simp only [Nat.add_zero] at g3
      have hpos : 0 < (grpOf d l (k : Int)).length := (List.getElem?_eq_some_iff.1 HH.out).1
      have hposI : (0 : Int) < ((grpOf d l (k : Int)).length : Int) := by omega
      clear hog ho hin hb hb3 hb9 hb4 hb34 g0 g1 H3 HH
      rcases hq : isHead d l (k : Int) with _ | _
      · have hqb : (((grpOf d l (k : Int)).headD (-1)) == (k : Int)) = false := hq
        have hS2 : grpTo d l (k + 1) = cur := by rw [HS.out]; simp [hq]
        have HS2 := Lib.hid hS2; clear hS2 HS hq
        generalize (grpOf d l (k : Int)).headD (-1) = hx at *
        go_wp2
        go_roundw
        case rel => exact ⟨k + 1, vs, by omega, by go_num, by rw [HS2.out]; exact ho2, by rw [HS2.out]; exact hin2, hb5, hsz2, g02, g12⟩
        case measure => simp [intOf]; omega
      · have hqb : (((grpOf d l (k : Int)).headD (-1)) == (k : Int)) = true := hq
        have hS2 : grpTo d l (k + 1) = cur ++ [grpOf d l k] := by rw [HS.out]; simp [hq]
        have HS2 := Lib.hid hS2; clear hS2 HS hq
        have hin3 := hin2.snoc hog2 (by omega) (fun k a ha g hg => Nat.lt_of_lt_of_le (hlt0 k a ha g hg) hsz3)
        generalize hG : (grpOf d l (k : Int)).headD (-1) = hx at *
        clear hG
        generalize grpOf d l (k : Int) = G at *
        go_wp2_with (at_builtin; refine wpList_append_own_at _ rfl _ _ 47 rfl (w.heap.size + 1) 39 i (.slice none 0 0) 1 24 Tryz.underlying47 hi hz0 hz1 hz2 rfl (by decide) _ cur.length vs rfl (ho2.alloc _) ⟨w''.heap.size, 0, none⟩ 1 1 [.slice (some ⟨b3, o3, none⟩) G.length c3] rfl rfl (news_new _ [.slice (some ⟨b3, o3, none⟩) G.length c3] _) (by simp [Value.oneCell']) (by unfold maxLen; omega) (by omega) (by simp; omega) ?_)
        intro v' w3 ho5 hg5 _ _
        have hlt2 := World.block_lt_of_cell? _ _ g02
        have hb7 : Below w.heap.size w w3 := (Below.alc hb5 _).grown hg5 (by have := hb5.size; simp; omega) (fun g hg => by have := (ho2.lt g hg).1; omega)
        have hkeep : ∀ o v, w''.cell? ⟨w.heap.size, o, none⟩ = some v → w3.cell? ⟨w.heap.size, o, none⟩ = some v := fun o v h =>
          hg5.cell (cell_later (below_one _) h) (fun e => by have := (ho2.lt _ e.symm).1; simp at this; omega)
        have g03 := hkeep _ _ g02
        have g13 := hkeep _ _ g12
        have hin5 : Inn w3 (w.heap.size + 1) (vs ++ [.slice (some ⟨b3, o3, none⟩) G.length c3]) (cur ++ [G]) := (hin3.keep (below_one _)).grown (ho2.alloc _) (by decide) hg5
        have hsz3' : w.heap.size + 1 ≤ w3.heap.size := Nat.le_trans (by simp; omega) hg5.size
        clear ho2 hb5 hg5 g02 g12 hkeep hlt2 hsz2 hin2 hin3 hog2 hlt0 g3
        go_wp2
        go_roundw
        case rel => exact ⟨k + 1, _, by omega, by go_num, by rw [HS2.out]; exact ownsRow_cast ho5 (by simp) rfl, by rw [HS2.out]; exact hin5, hb7, hsz3', g03, g13⟩
        case measure => simp [intOf]; omega
    · obtain rfl : k = 10 := by omega
      go_wp2
      go_ret
      exact ⟨_, rfl, ⟨vs, own_lo ho (by omega), ⟨hin.1, fun k v xs h1 h2 => own_lo (hin.2.1 k v xs h1 h2) (by omega), hin.2.2⟩⟩, hb⟩
theorem isHarmless_c (d l : Int) (w : World) (d0 : 0 ≤ d) (d1 : d ≤ 127) (l0 : 0 ≤ l) (l1 : l ≤ 127) :
    Calls Tryz.prog 39 #[.agg #[.int .i64 d, .int .i64 l]] w fun e w' => e = .returned (.bool (decide ((grpL d l).length = 10))) ∧ Below w.heap.size w w' := by
  go_enter Tryz.func39, Tryz.ntmps39
  go_wp2_with fail
  refine (groups_c d l _ d0 d1 l0 l1).mono ?_
  rintro e w1 ⟨u, rfl, ho, hb⟩
  obtain ⟨vs, hov, hin⟩ := ho
  obtain ⟨a, c, rfl, _⟩ := (Sl.of_own hov).slice
  go_wp2
  go_ret
  refine ⟨bool_ret ?_, by (repeat (first | exact Below.refl _ _ | exact (Below.refl _ _).drew | assumption | exact below_one _ | refine Below.chain ?_ (by assumption) | refine Below.drew ?_ | refine Below.alc ?_ _ | refine below_drewN ?_ | (refine Below.setCell ?_ ?_ _) | exact Nat.le_refl _ | (simp; done) | (simp; omega)))⟩
  rw [Bool.eq_iff_iff]; simp; omega
end Go.Proofs.YtbobiiodbbcodaaGreatDoor
namespace Go.Proofs.YtbobiiodbbcodaaGreatDoor
open Go.RowKit
set_option linter.unusedVariables false
set_option maxRecDepth 100000
def dkS (g : Nat → Nat) (k : Int) (n : Nat) : Nat := (((List.range n).filter fun d : Nat => cnt (d : Int) == k).map g).sum
def dkM (k : Int) (n : Nat) : Nat := ((List.range n).filter fun d : Nat => cnt (d : Int) == k).length
theorem dkS_succ (g : Nat → Nat) (k : Int) (n : Nat) : dkS g k (n + 1) = dkS g k n + if cnt (n : Int) == k then g n else 0 := by
  unfold dkS
  rw [List.range_succ, List.filter_append, List.map_append, List.sum_append]
  cases h : cnt (n : Int) == k <;> simp [h]
theorem dkM_succ (k : Int) (n : Nat) : dkM k (n + 1) = dkM k n + if cnt (n : Int) == k then 1 else 0 := by
  unfold dkM
  rw [List.range_succ, List.filter_append, List.length_append]
  cases h : cnt (n : Int) == k <;> simp [h]
theorem dkM_le (k : Int) (n : Nat) : dkM k n ≤ n := by
  unfold dkM; exact Nat.le_trans (List.length_filter_le _ _) (by simp)
theorem dkS_le {g : Nat → Nat} (hg : ∀ d, g d ≤ 10) (k : Int) (n : Nat) : dkS g k n ≤ 10 * n := by
  induction n with
  | zero => simp [dkS]
  | succ n ih => rw [dkS_succ]; have := hg n; split <;> omega
theorem dkM_pos : ∀ k : Fin 8, 0 < dkM (k.1 : Int) 128 := by decide +kernel
theorem overDark_c (k : Int) (fn : Nat) (g : Nat → Nat) (w : World) (hg : ∀ d, g d ≤ 10) (hf : CallsIt fn)
    (hp : ∀ (d : Nat) (w' : World), d < 128 → Calls Tryz.prog fn #[.agg #[.int .i64 (d : Int), .int .i64 0]] w' fun e w'' => e = .returned (.int .i64 (g d : Nat)) ∧ Below w'.heap.size w' w'') :
    Calls Tryz.prog 29 #[.int .i64 k, .func (.func fn) #[] #[]] w fun e w' => e = .returned (.tuple #[.int .i64 (dkS g k 128 : Nat), .int .i64 (dkM k 128 : Nat), .bool (inB k 0 7)]) ∧ Below w.heap.size w w' := by
  have hf' : ∀ (bs : Array Value) (w : World), (callFunc fn bs).run Tryz.prog w = .ok (.enter fn bs) w := hf
  go_enter Tryz.func29, Tryz.ntmps29
  go_wp2
  go_loopw [7, 8, 9, 10] (fun s m _ j wr => ∃ n : Nat, n ≤ 128 ∧ j = .int .i64 (n : Int) ∧ s = .int .i64 (dkS g k n : Nat) ∧ m = .int .i64 (dkM k n : Nat) ∧ Below w.heap.size w wr) (fun _ _ _ j _ => 129 - (intOf j).toNat)
  case atStart => exact ⟨0, by omega, rfl, rfl, rfl, Below.refl _ _⟩
  case round =>
    obtain ⟨n, hn, rfl, rfl, rfl, hb⟩ := hrel
    by_cases hlt : n < 128
    · have hd : decide ((n : Int) < 128) = true := by simp; omega
      have hS := dkS_succ g k n
      have hM := dkM_succ k n
      have hSl := dkS_le hg k n
      have hMl := dkM_le k n
      have hgn := hg n
      generalize dkS g k n = s at *
      generalize dkM k n = m at *
      have HS := Lib.hid hS; have HM := Lib.hid hM; clear hS hM
      go_wp2_with fail
      refine (count_c (n : Int) (by omega) (by omega) _).mono ?_
      rintro e w2 ⟨rfl, rfl⟩
      rcases hq : cnt (n : Int) == k with _ | _
      · have HS2 := Lib.hid (show dkS g k (n + 1) = s by rw [HS.out, hq]; rfl)
        have HM2 := Lib.hid (show dkM k (n + 1) = m by rw [HM.out, hq]; rfl)
        clear HS HM
        go_wp2
        go_roundw
        case rel => exact ⟨n + 1, by omega, by go_num, by rw [HS2.out], by rw [HM2.out], by (repeat (first | exact Below.refl _ _ | exact (Below.refl _ _).drew | assumption | exact below_one _ | refine Below.chain ?_ (by assumption) | refine Below.drew ?_ | refine Below.alc ?_ _ | refine below_drewN ?_ | (refine Below.setCell ?_ ?_ _) | exact Nat.le_refl _ | (simp; done) | (simp; omega)))⟩
        case measure => simp [intOf]; omega
      · have HS2 := Lib.hid (show dkS g k (n + 1) = s + g n by rw [HS.out, hq]; rfl)
        have HM2 := Lib.hid (show dkM k (n + 1) = m + 1 by rw [HM.out, hq]; rfl)
        clear HS HM
        go_wp2_with fail
        refine (hp n _ hlt).mono ?_
        rintro e w3 ⟨rfl, hb3⟩
        have hb4 : Below w.heap.size w w3 := Below.chain hb hb3
        clear hb3
        go_wp2
        go_roundw
        case rel => exact ⟨n + 1, by omega, by go_num, by rw [HS2.out]; exact int_val (by omega), by rw [HM2.out]; exact int_val (by omega), hb4⟩
        case measure => simp [intOf]; omega
    · obtain rfl : n = 128 := by omega
      go_wp2_with fail
      refine (within_c k 0 7 _).mono ?_
      rintro e w4 ⟨rfl, rfl⟩
      go_wp2
      exact bodyPost_ret (v := .tuple #[.int .i64 (dkS g k 128 : Nat), .int .i64 (dkM k 128 : Nat), .bool (inB k 0 7)]) (by simp [results, Tryz.results29, go_sem]) rfl ⟨rfl, hb⟩
end Go.Proofs.YtbobiiodbbcodaaGreatDoor
