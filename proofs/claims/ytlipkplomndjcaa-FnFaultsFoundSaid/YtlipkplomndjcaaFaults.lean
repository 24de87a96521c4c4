/- Walks of the functions on faults: the digits that show a cell, the groups of digits that show the same cell. -/
import Derived.Test.YtlipkplomndjcaaHelp
import Derived.Test.YtlipkplomndjcaaPairs
import Derived.Test.YtlipkplomndjcaaAll
import Derived.Deep.RegionHeld3
namespace Go.Proofs.Ytlipkplomndjcaa
open Go.RowKit
set_option linter.unusedVariables false
set_option maxRecDepth 100000
def tenI : List Int := [0, 1, 2, 3, 4, 5, 6, 7, 8, 9]
theorem tenI_fin : ∀ k : Fin 10, tenI[k.1]? = some (k.1 : Int) := by decide
theorem tenI_at {k : Nat} (h : k < 10) : tenI[k]? = some (k : Int) := tenI_fin ⟨k, h⟩
/-- those of the first n digits that show a cell under a fault -/
def digTo (d l c : Int) (n : Nat) : List Int := (tenI.take n).filter fun x => shC d l (dg x) == c
def digL (d l c : Int) : List Int := tenI.filter fun x => shC d l (dg x) == c
theorem digTo_all (d l c : Int) : digTo d l c 10 = digL d l c := rfl
theorem digTo_le (d l c : Int) (n : Nat) : (digTo d l c n).length ≤ 10 := Nat.le_trans (List.length_filter_le _ _) (by rw [List.length_take]; simp [tenI]; omega)
theorem digL_le (d l c : Int) : (digL d l c).length ≤ 10 := Nat.le_trans (List.length_filter_le _ _) (by simp [tenI])
theorem digTo_succ (d l c : Int) {n : Nat} (h : n < 10) : digTo d l c (n + 1) = digTo d l c n ++ if shC d l (dg n) == c then [(n : Int)] else [] := by
  unfold digTo
  rw [take_snoc (tenI_at h), List.filter_append]
  cases hq : (shC d l (dg n) == c) <;> simp [hq]
theorem ints_snoc (xs : List Int) (x : Int) : (xs ++ [x]).map (Value.int .i64) = xs.map (Value.int .i64) ++ [.int .i64 x] := by simp

theorem digits_c (d l c : Int) (w : World) (d0 : 0 ≤ d) (d1 : d ≤ 127) (l0 : 0 ≤ l) (l1 : l ≤ 127) :
    Calls Try.prog 99 #[.agg #[.int .i64 d, .int .i64 l], .int .i64 c] w fun e w' => ∃ u, e = .returned u ∧ w'.ownsRow w.heap.size 3 1 u (digL d l c).length ((digL d l c).map (Value.int .i64)) ∧ Below w.heap.size w w' := by
  obtain ⟨i, hi, hz0, hz1, hz2⟩ := info_parts info_int
  have q0 : (w.alloc (.cells #[.int .i64 d, .int .i64 l] 42)).cell? ⟨w.heap.size, 0, none⟩ = some (.int .i64 d) := by rw [World.cell?_alloc_at _ _ _ _ rfl]; rfl
  have q1 : (w.alloc (.cells #[.int .i64 d, .int .i64 l] 42)).cell? ⟨w.heap.size, 1, none⟩ = some (.int .i64 l) := by rw [World.cell?_alloc_at _ _ _ _ rfl]; rfl
  have hb0 := below_one (w := w) (.cells #[.int .i64 d, .int .i64 l] 42)
  go_enter Try.func99, Try.ntmps99
  go_wp2_with fail
  refine (digitCells_c _).mono ?_
  rintro e w1 ⟨rfl, hb1⟩
  have r0 := cell_later hb1 q0
  have r1 := cell_later hb1 q1
  have hb2 := Below.chain hb0 hb1
  clear q0 q1 hb0 hb1
  go_wp2
  go_loopw [5, 6, 7, 9] (fun o _ _ j wr => ∃ k : Nat, k ≤ 10 ∧ j = .int .i64 (k : Int) ∧ wr.ownsRow (w.heap.size + 1) 3 1 o (digTo d l c k).length ((digTo d l c k).map (Value.int .i64)) ∧ Below w.heap.size w wr ∧ w.heap.size + 1 ≤ wr.heap.size ∧ wr.cell? ⟨w.heap.size, 0, none⟩ = some (.int .i64 d) ∧ wr.cell? ⟨w.heap.size, 1, none⟩ = some (.int .i64 l)) (fun _ _ _ j _ => 11 - (intOf j).toNat)
  case atStart => exact ⟨0, by omega, rfl, World.ownsRow_nil _ _ _ _, hb2, World.block_lt_of_cell? _ _ r0, r0, r1⟩
  case round =>
    obtain ⟨k, hk, rfl, ho, hb, hsz, g0, g1⟩ := hrel
    clear r0 r1 hb2
    by_cases hlt : k < 10
    · have hd : decide ((k : Int) < 10) = true := by simp; omega
      have hix := fun w => index_dig (k : Int) (by omega) (by omega) w
      have bdx := dg_bd (k : Int)
      have hsc := digTo_succ d l c hlt
      have hle := digTo_le d l c k
      generalize digTo d l c k = cur at *
      have HS := Lib.hid hsc; clear hsc
      go_wp2_with fail
      refine (shown_c d l (dg k) d0 d1 l0 l1 bdx.1 bdx.2 _).mono ?_
      rintro e w2 ⟨rfl, hb3⟩
      have g02 := cell_later hb3 g0
      have g12 := cell_later hb3 g1
      have hb4 := Below.chain hb hb3
      have ho2 := own_keep ho hb3
      have hsz2 := Nat.le_trans hsz hb3.size
      clear g0 g1 hb hb3 ho hsz hix
      rcases hq : (shC d l (dg (k : Int)) == c) with _ | _
      · have hS2 : digTo d l c (k + 1) = cur := by rw [HS.out]; simp [hq]
        have HS2 := Lib.hid hS2; clear hS2 HS
        go_wp2
        go_roundw
        case rel => exact ⟨k + 1, by omega, by go_num, by rw [HS2.out]; exact ho2, hb4, hsz2, g02, g12⟩
        case measure => simp [intOf]; omega
      · have hS2 : digTo d l c (k + 1) = cur ++ [(k : Int)] := by rw [HS.out]; simp [hq]
        have HS2 := Lib.hid hS2; clear hS2 HS
        go_wp2_with (at_builtin; refine wpList_append_own_at _ rfl _ _ 24 rfl (w.heap.size + 1) 3 i (.int .i64 0) 1 8 Try.underlying24 hi hz0 hz1 hz2 rfl (by decide) _ cur.length (cur.map (Value.int .i64)) rfl (ho2.alloc _) ⟨w2.heap.size, 0, none⟩ 1 1 [.int .i64 k] rfl rfl (news_new _ [.int .i64 k] _) (by simp [Value.oneCell']) (by unfold maxLen; omega) (by omega) (by simp; omega) ?_)
        intro v' w3 ho5 hg5 _ _
        have hlt2 := World.block_lt_of_cell? _ _ g02
        have hb7 : Below w.heap.size w w3 := (Below.alc hb4 _).grown hg5 (by have := hb4.size; simp; omega) (fun g hg => by have := (ho2.lt g hg).1; omega)
        have hkeep : ∀ o v, w2.cell? ⟨w.heap.size, o, none⟩ = some v → w3.cell? ⟨w.heap.size, o, none⟩ = some v := fun o v h =>
          hg5.cell (cell_later (below_one _) h) (fun e => by have := (ho2.lt _ e.symm).1; simp at this; omega)
        have g03 := hkeep _ _ g02
        have g13 := hkeep _ _ g12
        have hsz3 : w.heap.size + 1 ≤ w3.heap.size := Nat.le_trans (by simp; omega) hg5.size
        clear ho2 hb4 hg5 g02 g12 hkeep hlt2 hsz2
        go_wp2
        go_roundw
        case rel => exact ⟨k + 1, by omega, by go_num, by rw [HS2.out]; exact ownsRow_cast ho5 (by simp) (ints_snoc _ _).symm, hb7, hsz3, g03, g13⟩
        case measure => simp [intOf]; omega
    · obtain rfl : k = 10 := by omega
      go_wp2
      go_ret
      exact ⟨_, rfl, by rw [← digTo_all]; exact own_lo ho (by omega), hb⟩

theorem l3Digits_c (d l c : Int) (w : World) (d0 : 0 ≤ d) (d1 : d ≤ 127) (l0 : 0 ≤ l) (l1 : l ≤ 127) :
    Calls Try.prog 101 #[.agg #[.int .i64 d, .int .i64 l], .int .i64 c] w fun e w' => ∃ u, e = .returned u ∧ w'.ownsRow w.heap.size 3 1 u (digL d l c).length ((digL d l c).map (Value.int .i64)) ∧ Below w.heap.size w w' := by
  obtain ⟨i, hi, hz0, hz1, hz2⟩ := info_parts info_int
  have q0 : (w.alloc (.cells #[.int .i64 d, .int .i64 l] 42)).cell? ⟨w.heap.size, 0, none⟩ = some (.int .i64 d) := by rw [World.cell?_alloc_at _ _ _ _ rfl]; rfl
  have q1 : (w.alloc (.cells #[.int .i64 d, .int .i64 l] 42)).cell? ⟨w.heap.size, 1, none⟩ = some (.int .i64 l) := by rw [World.cell?_alloc_at _ _ _ _ rfl]; rfl
  have r0 := cell_later (below_one (.cells #[] 3)) q0
  have r1 := cell_later (below_one (.cells #[] 3)) q1
  have hb2 : Below w.heap.size w ((w.alloc (.cells #[.int .i64 d, .int .i64 l] 42)).alloc (.cells #[] 3)) := by (repeat (first | exact Below.refl _ _ | exact (Below.refl _ _).drew | assumption | exact below_one _ | refine Below.chain ?_ (by assumption) | refine Below.drew ?_ | refine Below.alc ?_ _ | refine below_drewN ?_ | (refine Below.setCell ?_ ?_ _) | exact Nat.le_refl _ | (simp; done) | (simp; omega)))
  have ho0 := World.ownsRow_lit (e := 3) (size := 1) (base := w.heap.size + 1) (w.alloc (.cells #[.int .i64 d, .int .i64 l] 42)) #[] 0 (by simp) (by decide) rfl
  rw [show (w.alloc (.cells #[.int .i64 d, .int .i64 l] 42)).heap.size = w.heap.size + 1 by simp] at ho0
  clear q0 q1
  go_enter Try.func101, Try.ntmps101
  go_wp2
  go_loopw [5, 6] (fun o j wr => ∃ k : Nat, k ≤ 10 ∧ j = .int .i64 (k : Int) ∧ wr.ownsRow (w.heap.size + 1) 3 1 o (digTo d l c k).length ((digTo d l c k).map (Value.int .i64)) ∧ Below w.heap.size w wr ∧ w.heap.size + 1 ≤ wr.heap.size ∧ wr.cell? ⟨w.heap.size, 0, none⟩ = some (.int .i64 d) ∧ wr.cell? ⟨w.heap.size, 1, none⟩ = some (.int .i64 l)) (fun _ j _ => 11 - (intOf j).toNat)
  case atStart => exact ⟨0, by omega, rfl, ho0, hb2, World.block_lt_of_cell? _ _ r0, r0, r1⟩
  case round =>
    obtain ⟨k, hk, rfl, ho, hb, hsz, g0, g1⟩ := hrel
    clear r0 r1 hb2 ho0
    by_cases hlt : k < 10
    · have hd : decide ((k : Int) < 10) = true := by simp; omega
      have bdx := dg_bd (k : Int)
      have hsc := digTo_succ d l c hlt
      have hle := digTo_le d l c k
      generalize digTo d l c k = cur at *
      have HS := Lib.hid hsc; clear hsc
      go_wp2_with fail
      go_region_held3 (fun w' => w'.cell? ⟨w.heap.size, 0, none⟩ = some (.int .i64 d) ∧ w'.cell? ⟨w.heap.size, 1, none⟩ = some (.int .i64 l))
        (first | go_keep | (go_split_ands; exact ⟨cell_later (by assumption) (by assumption), cell_later (by assumption) (by assumption)⟩))
        (first | (go_at_call 82; refine (l2Digit_c (k : Int) (by omega) (by omega) _).mono ?_; rintro e w' ⟨rfl, hb2⟩) | (go_at_call 81; refine (l3Shown_c d l (dg k) d0 d1 l0 l1 bdx.1 bdx.2 _).mono ?_; rintro e w' ⟨rfl, hb3⟩))
      go_split_ands
      have g02 : w'.cell? ⟨w.heap.size, 0, none⟩ = some (.int .i64 d) := by assumption
      have g12 : w'.cell? ⟨w.heap.size, 1, none⟩ = some (.int .i64 l) := by assumption
      have hb23 : Below wr.heap.size wr w' := Below.chain (Below.chain (Below.refl _ _).drew hb2) hb3
      have hb4 := Below.chain hb hb23
      have ho2 := own_keep ho hb23
      have hsz2 := Nat.le_trans hsz hb23.size
      clear g0 g1 hb hb3 hb2 hb23 ho hsz
      rcases hq : (shC d l (dg (k : Int)) == c) with _ | _
      · have hS2 : digTo d l c (k + 1) = cur := by rw [HS.out]; simp [hq]
        have HS2 := Lib.hid hS2; clear hS2 HS
        go_wp2
        go_roundw
        case rel => exact ⟨k + 1, by omega, by go_num, by rw [HS2.out]; exact ho2, hb4, hsz2, g02, g12⟩
        case measure => simp [intOf]; omega
      · have hS2 : digTo d l c (k + 1) = cur ++ [(k : Int)] := by rw [HS.out]; simp [hq]
        have HS2 := Lib.hid hS2; clear hS2 HS
        go_wp2_with (at_builtin; refine wpList_append_own_at _ rfl _ _ 24 rfl (w.heap.size + 1) 3 i (.int .i64 0) 1 8 Try.underlying24 hi hz0 hz1 hz2 rfl (by decide) _ cur.length (cur.map (Value.int .i64)) rfl (ho2.alloc _) ⟨w'.heap.size, 0, none⟩ 1 1 [.int .i64 k] rfl rfl (news_new _ [.int .i64 k] _) (by simp [Value.oneCell']) (by unfold maxLen; omega) (by omega) (by simp; omega) ?_)
        intro v' w3 ho5 hg5 _ _
        have hlt2 := World.block_lt_of_cell? _ _ g02
        have hb7 : Below w.heap.size w w3 := (Below.alc hb4 _).grown hg5 (by have := hb4.size; simp; omega) (fun g hg => by have := (ho2.lt g hg).1; omega)
        have hkeep : ∀ o v, w'.cell? ⟨w.heap.size, o, none⟩ = some v → w3.cell? ⟨w.heap.size, o, none⟩ = some v := fun o v h =>
          hg5.cell (cell_later (below_one _) h) (fun e => by have := (ho2.lt _ e.symm).1; simp at this; omega)
        have g03 := hkeep _ _ g02
        have g13 := hkeep _ _ g12
        have hsz3 : w.heap.size + 1 ≤ w3.heap.size := Nat.le_trans (by simp; omega) hg5.size
        clear ho2 hb4 hg5 g02 g12 hkeep hlt2 hsz2
        go_wp2
        go_roundw
        case rel => exact ⟨k + 1, by omega, by go_num, by rw [HS2.out]; exact ownsRow_cast ho5 (by simp) (ints_snoc _ _).symm, hb7, hsz3, g03, g13⟩
        case measure => simp [intOf]; omega
    · obtain rfl : k = 10 := by omega
      go_wp2
      go_ret
      exact ⟨_, rfl, by rw [← digTo_all]; exact own_lo ho (by omega), hb⟩
end Go.Proofs.Ytlipkplomndjcaa
