/- Texts of this claim, gathered: Faults, Groups, Ones, State, Frac, Dark, Dark2, Box. -/
import Derived.Test.YtlipkplomndjcaaK2
import Derived.Deep.RegionHeld3
namespace Go.Proofs.Ytlipkplomndjcaa
open Go.RowKit
set_option linter.unusedVariables false
set_option maxRecDepth 100000
def tenI : List Int := [0, 1, 2, 3, 4, 5, 6, 7, 8, 9]
theorem tenI_fin : ∀ k : Fin 10, tenI[k.1]? = some (k.1 : Int) := by decide
theorem tenI_at {k : Nat} (h : k < 10) : tenI[k]? = some (k : Int) := tenI_fin ⟨k, h⟩
/-- those of the first n digits that show a cell under a fault -/
def digTo (d l c : Int) (n : Nat) : List Int := (tenI.take n).filter fun x => shC d l (dg x) == c
def digL (d l c : Int) : List Int := tenI.filter fun x => shC d l (dg x) == c
theorem digTo_all (d l c : Int) : digTo d l c 10 = digL d l c := rfl
theorem digTo_le (d l c : Int) (n : Nat) : (digTo d l c n).length ≤ 10 := Nat.le_trans (List.length_filter_le _ _) (by rw [List.length_take]; simp [tenI]; omega)
theorem digL_le (d l c : Int) : (digL d l c).length ≤ 10 := Nat.le_trans (List.length_filter_le _ _) (by simp [tenI])
theorem digTo_succ (d l c : Int) {n : Nat} (h : n < 10) : digTo d l c (n + 1) = digTo d l c n ++ if shC d l (dg n) == c then [(n : Int)] else [] := by
  unfold digTo
  rw [take_snoc (tenI_at h), List.filter_append]
  cases hq : (shC d l (dg n) == c) <;> simp [hq]
theorem ints_snoc (xs : List Int) (x : Int) : (xs ++ [x]).map (Value.int .i64) = xs.map (Value.int .i64) ++ [.int .i64 x] := by simp

theorem digits_c (d l c : Int) (w : World) (d0 : 0 ≤ d) (d1 : d ≤ 127) (l0 : 0 ≤ l) (l1 : l ≤ 127) :
    Calls Try.prog 99 #[.agg #[.int .i64 d, .int .i64 l], .int .i64 c] w fun e w' => ∃ u, e = .returned u ∧ w'.ownsRow w.heap.size 3 1 u (digL d l c).length ((digL d l c).map (Value.int .i64)) ∧ Below w.heap.size w w' := by
  obtain ⟨i, hi, hz0, hz1, hz2⟩ := info_parts info_int
  have q0 : (w.alloc (.cells #[.int .i64 d, .int .i64 l] 42)).cell? ⟨w.heap.size, 0, none⟩ = some (.int .i64 d) := by rw [World.cell?_alloc_at _ _ _ _ rfl]; rfl
  have q1 : (w.alloc (.cells #[.int .i64 d, .int .i64 l] 42)).cell? ⟨w.heap.size, 1, none⟩ = some (.int .i64 l) := by rw [World.cell?_alloc_at _ _ _ _ rfl]; rfl
  have hb0 := below_one (w := w) (.cells #[.int .i64 d, .int .i64 l] 42)
  go_enter Try.func99, Try.ntmps99
  go_wp2_with fail
  refine (digitCells_c _).mono ?_
  rintro e w1 ⟨rfl, hb1⟩
  have r0 := cell_later hb1 q0
  have r1 := cell_later hb1 q1
  have hb2 := Below.chain hb0 hb1
  clear q0 q1 hb0 hb1
  go_wp2
  go_loopw [5, 6, 7, 9] (fun o _ _ j wr => ∃ k : Nat, k ≤ 10 ∧ j = .int .i64 (k : Int) ∧ wr.ownsRow (w.heap.size + 1) 3 1 o (digTo d l c k).length ((digTo d l c k).map (Value.int .i64)) ∧ Below w.heap.size w wr ∧ w.heap.size + 1 ≤ wr.heap.size ∧ wr.cell? ⟨w.heap.size, 0, none⟩ = some (.int .i64 d) ∧ wr.cell? ⟨w.heap.size, 1, none⟩ = some (.int .i64 l)) (fun _ _ _ j _ => 11 - (intOf j).toNat)
  case atStart => exact ⟨0, by omega, rfl, World.ownsRow_nil _ _ _ _, hb2, World.block_lt_of_cell? _ _ r0, r0, r1⟩
  case round =>
    obtain ⟨k, hk, rfl, ho, hb, hsz, g0, g1⟩ := hrel
    clear r0 r1 hb2
    by_cases hlt : k < 10
    · have hd : decide ((k : Int) < 10) = true := by simp; omega
      have hix := fun w => index_dig (k : Int) (by omega) (by omega) w
      have bdx := dg_bd (k : Int)
      have hsc := digTo_succ d l c hlt
      have hle := digTo_le d l c k
      generalize digTo d l c k = cur at *
      have HS := Lib.hid hsc; clear hsc
      go_wp2_with fail
      refine (shown_c d l (dg k) d0 d1 l0 l1 bdx.1 bdx.2 _).mono ?_
      rintro e w2 ⟨rfl, hb3⟩
      have g02 := cell_later hb3 g0
      have g12 := cell_later hb3 g1
      have hb4 := Below.chain hb hb3
      have ho2 := own_keep ho hb3
      have hsz2 := Nat.le_trans hsz hb3.size
      clear g0 g1 hb hb3 ho hsz hix
      rcases hq : (shC d l (dg (k : Int)) == c) with _ | _
      · have hS2 : digTo d l c (k + 1) = cur := by rw [HS.out]; simp [hq]
        have HS2 := Lib.hid hS2; clear hS2 HS
        go_wp2
        go_roundw
        case rel => exact ⟨k + 1, by omega, by go_num, by rw [HS2.out]; exact ho2, hb4, hsz2, g02, g12⟩
        case measure => simp [intOf]; omega
      · have hS2 : digTo d l c (k + 1) = cur ++ [(k : Int)] := by rw [HS.out]; simp [hq]
        have HS2 := Lib.hid hS2; clear hS2 HS
        go_wp2_with (at_builtin; refine wpList_append_own_at _ rfl _ _ 24 rfl (w.heap.size + 1) 3 i (.int .i64 0) 1 8 Try.underlying24 hi hz0 hz1 hz2 rfl (by decide) _ cur.length (cur.map (Value.int .i64)) rfl (ho2.alloc _) ⟨w2.heap.size, 0, none⟩ 1 1 [.int .i64 k] rfl rfl (news_new _ [.int .i64 k] _) (by simp [Value.oneCell']) (by unfold maxLen; omega) (by omega) (by simp; omega) ?_)
        intro v' w3 ho5 hg5 _ _
        have hlt2 := World.block_lt_of_cell? _ _ g02
        have hb7 : Below w.heap.size w w3 := (Below.alc hb4 _).grown hg5 (by have := hb4.size; simp; omega) (fun g hg => by have := (ho2.lt g hg).1; omega)
        have hkeep : ∀ o v, w2.cell? ⟨w.heap.size, o, none⟩ = some v → w3.cell? ⟨w.heap.size, o, none⟩ = some v := fun o v h =>
          hg5.cell (cell_later (below_one _) h) (fun e => by have := (ho2.lt _ e.symm).1; simp at this; omega)
        have g03 := hkeep _ _ g02
        have g13 := hkeep _ _ g12
        have hsz3 : w.heap.size + 1 ≤ w3.heap.size := Nat.le_trans (by simp; omega) hg5.size
        clear ho2 hb4 hg5 g02 g12 hkeep hlt2 hsz2
        go_wp2
        go_roundw
        case rel => exact ⟨k + 1, by omega, by go_num, by rw [HS2.out]; exact ownsRow_cast ho5 (by simp) (ints_snoc _ _).symm, hb7, hsz3, g03, g13⟩
        case measure => simp [intOf]; omega
    · obtain rfl : k = 10 := by omega
      go_wp2
      go_ret
      exact ⟨_, rfl, by rw [← digTo_all]; exact own_lo ho (by omega), hb⟩

theorem l3Digits_c (d l c : Int) (w : World) (d0 : 0 ≤ d) (d1 : d ≤ 127) (l0 : 0 ≤ l) (l1 : l ≤ 127) :
    Calls Try.prog 101 #[.agg #[.int .i64 d, .int .i64 l], .int .i64 c] w fun e w' => ∃ u, e = .returned u ∧ w'.ownsRow w.heap.size 3 1 u (digL d l c).length ((digL d l c).map (Value.int .i64)) ∧ Below w.heap.size w w' := by
  obtain ⟨i, hi, hz0, hz1, hz2⟩ := info_parts info_int
  have q0 : (w.alloc (.cells #[.int .i64 d, .int .i64 l] 42)).cell? ⟨w.heap.size, 0, none⟩ = some (.int .i64 d) := by rw [World.cell?_alloc_at _ _ _ _ rfl]; rfl
  have q1 : (w.alloc (.cells #[.int .i64 d, .int .i64 l] 42)).cell? ⟨w.heap.size, 1, none⟩ = some (.int .i64 l) := by rw [World.cell?_alloc_at _ _ _ _ rfl]; rfl
  have r0 := cell_later (below_one (.cells #[] 3)) q0
  have r1 := cell_later (below_one (.cells #[] 3)) q1
  have hb2 : Below w.heap.size w ((w.alloc (.cells #[.int .i64 d, .int .i64 l] 42)).alloc (.cells #[] 3)) := by (repeat (first | exact Below.refl _ _ | exact (Below.refl _ _).drew | assumption | exact below_one _ | refine Below.chain ?_ (by assumption) | refine Below.drew ?_ | refine Below.alc ?_ _ | refine below_drewN ?_ | (refine Below.setCell ?_ ?_ _) | exact Nat.le_refl _ | (simp; done) | (simp; omega)))
  have ho0 := World.ownsRow_lit (e := 3) (size := 1) (base := w.heap.size + 1) (w.alloc (.cells #[.int .i64 d, .int .i64 l] 42)) #[] 0 (by simp) (by decide) rfl
  rw [show (w.alloc (.cells #[.int .i64 d, .int .i64 l] 42)).heap.size = w.heap.size + 1 by simp] at ho0
  clear q0 q1
  go_enter Try.func101, Try.ntmps101
  go_wp2
  go_loopw [5, 6] (fun o j wr => ∃ k : Nat, k ≤ 10 ∧ j = .int .i64 (k : Int) ∧ wr.ownsRow (w.heap.size + 1) 3 1 o (digTo d l c k).length ((digTo d l c k).map (Value.int .i64)) ∧ Below w.heap.size w wr ∧ w.heap.size + 1 ≤ wr.heap.size ∧ wr.cell? ⟨w.heap.size, 0, none⟩ = some (.int .i64 d) ∧ wr.cell? ⟨w.heap.size, 1, none⟩ = some (.int .i64 l)) (fun _ j _ => 11 - (intOf j).toNat)
  case atStart => exact ⟨0, by omega, rfl, ho0, hb2, World.block_lt_of_cell? _ _ r0, r0, r1⟩
  case round =>
    obtain ⟨k, hk, rfl, ho, hb, hsz, g0, g1⟩ := hrel
    clear r0 r1 hb2 ho0
    by_cases hlt : k < 10
    · have hd : decide ((k : Int) < 10) = true := by simp; omega
      have bdx := dg_bd (k : Int)
      have hsc := digTo_succ d l c hlt
      have hle := digTo_le d l c k
      generalize digTo d l c k = cur at *
      have HS := Lib.hid hsc; clear hsc
      go_wp2_with fail
      go_region_held3 (fun w' => w'.cell? ⟨w.heap.size, 0, none⟩ = some (.int .i64 d) ∧ w'.cell? ⟨w.heap.size, 1, none⟩ = some (.int .i64 l))
        (first | go_keep | (go_split_ands; exact ⟨cell_later (by assumption) (by assumption), cell_later (by assumption) (by assumption)⟩))
        (first | (go_at_call 82; refine (l2Digit_c (k : Int) (by omega) (by omega) _).mono ?_; rintro e w' ⟨rfl, hb2⟩) | (go_at_call 81; refine (l3Shown_c d l (dg k) d0 d1 l0 l1 bdx.1 bdx.2 _).mono ?_; rintro e w' ⟨rfl, hb3⟩))
      go_split_ands
      have g02 : w'.cell? ⟨w.heap.size, 0, none⟩ = some (.int .i64 d) := by assumption
      have g12 : w'.cell? ⟨w.heap.size, 1, none⟩ = some (.int .i64 l) := by assumption
      have hb23 : Below wr.heap.size wr w' := Below.chain (Below.chain (Below.refl _ _).drew hb2) hb3
      have hb4 := Below.chain hb hb23
      have ho2 := own_keep ho hb23
      have hsz2 := Nat.le_trans hsz hb23.size
      clear g0 g1 hb hb3 hb2 hb23 ho hsz
      rcases hq : (shC d l (dg (k : Int)) == c) with _ | _
      · have hS2 : digTo d l c (k + 1) = cur := by rw [HS.out]; simp [hq]
        have HS2 := Lib.hid hS2; clear hS2 HS
        go_wp2
        go_roundw
        case rel => exact ⟨k + 1, by omega, by go_num, by rw [HS2.out]; exact ho2, hb4, hsz2, g02, g12⟩
        case measure => simp [intOf]; omega
      · have hS2 : digTo d l c (k + 1) = cur ++ [(k : Int)] := by rw [HS.out]; simp [hq]
        have HS2 := Lib.hid hS2; clear hS2 HS
        go_wp2_with (at_builtin; refine wpList_append_own_at _ rfl _ _ 24 rfl (w.heap.size + 1) 3 i (.int .i64 0) 1 8 Try.underlying24 hi hz0 hz1 hz2 rfl (by decide) _ cur.length (cur.map (Value.int .i64)) rfl (ho2.alloc _) ⟨w'.heap.size, 0, none⟩ 1 1 [.int .i64 k] rfl rfl (news_new _ [.int .i64 k] _) (by simp [Value.oneCell']) (by unfold maxLen; omega) (by omega) (by simp; omega) ?_)
        intro v' w3 ho5 hg5 _ _
        have hlt2 := World.block_lt_of_cell? _ _ g02
        have hb7 : Below w.heap.size w w3 := (Below.alc hb4 _).grown hg5 (by have := hb4.size; simp; omega) (fun g hg => by have := (ho2.lt g hg).1; omega)
        have hkeep : ∀ o v, w'.cell? ⟨w.heap.size, o, none⟩ = some v → w3.cell? ⟨w.heap.size, o, none⟩ = some v := fun o v h =>
          hg5.cell (cell_later (below_one _) h) (fun e => by have := (ho2.lt _ e.symm).1; simp at this; omega)
        have g03 := hkeep _ _ g02
        have g13 := hkeep _ _ g12
        have hsz3 : w.heap.size + 1 ≤ w3.heap.size := Nat.le_trans (by simp; omega) hg5.size
        clear ho2 hb4 hg5 g02 g12 hkeep hlt2 hsz2
        go_wp2
        go_roundw
        case rel => exact ⟨k + 1, by omega, by go_num, by rw [HS2.out]; exact ownsRow_cast ho5 (by simp) (ints_snoc _ _).symm, hb7, hsz3, g03, g13⟩
        case measure => simp [intOf]; omega
    · obtain rfl : k = 10 := by omega
      go_wp2
      go_ret
      exact ⟨_, rfl, by rw [← digTo_all]; exact own_lo ho (by omega), hb⟩
end Go.Proofs.Ytlipkplomndjcaa
namespace Go.Proofs.Ytlipkplomndjcaa
open Go.RowKit
set_option linter.unusedVariables false
set_option maxRecDepth 100000
abbrev ints (xs : List Int) : List Value := xs.map (Value.int .i64)
/-- slices of ints of the call's own, one beside the other, none over another's array -/
def Inn (w : World) (lo : Nat) (vs : List Value) (xss : List (List Int)) : Prop :=
  vs.length = xss.length ∧ (∀ (k : Nat) (v : Value) (xs : List Int), vs[k]? = some v → xss[k]? = some xs → w.ownsRow lo 3 1 v xs.length (ints xs)) ∧
  (∀ (i j : Nat) (a b : Value), i < j → vs[i]? = some a → vs[j]? = some b → b.ownBlock = none ∨ b.ownBlock ≠ a.ownBlock)
/-- a slice of such slices -/
def OwnSS (w : World) (lo : Nat) (u : Value) (xss : List (List Int)) : Prop :=
  ∃ vs, w.ownsRow lo 24 1 u xss.length vs ∧ Inn w lo vs xss
theorem own_ne_type {w : World} {lo lo' size size' n n' : Nat} {e e' : TypeId} {v v' : Value} {xs xs' : List Value} (h : w.ownsRow lo e size v n xs) (h' : w.ownsRow lo' e' size' v' n' xs') (hne : e ≠ e') : v.ownBlock = none ∨ v.ownBlock ≠ v'.ownBlock := by
  rcases h.2 with ⟨rfl, _⟩ | ⟨g, c, cur, rfl, _, hg, _⟩
  · exact .inl rfl
  · rcases h'.2 with ⟨rfl, _⟩ | ⟨g', c', cur', rfl, _, hg', _⟩
    · right; simp [Value.ownBlock]
    · right
      intro e0
      simp [Value.ownBlock] at e0
      subst e0
      rw [hg] at hg'
      injection hg' with h1; injection h1 with _ h2; exact hne h2
theorem Inn.nil_ (w : World) (lo : Nat) : Inn w lo [] [] := ⟨rfl, fun k v xs h => by simp at h, fun i j a b _ h => by simp at h⟩
theorem Inn.keep {w w' : World} {lo : Nat} {vs : List Value} {xss : List (List Int)} (h : Inn w lo vs xss) (hb : Below w.heap.size w w') : Inn w' lo vs xss :=
  ⟨h.1, fun k v xs h1 h2 => own_keep (h.2.1 k v xs h1 h2) hb, h.2.2⟩
/-- kept while another row (of another type of element) is written -/
theorem Inn.grown {w w' : World} {lo lo' size n : Nat} {e : TypeId} {u : Value} {us : List Value} {vs : List Value} {xss : List (List Int)} (h : Inn w lo vs xss) (ho : w.ownsRow lo' e size u n us) (hne : (3 : Nat) ≠ e) (hg : w.grownBy w' u.ownBlock) : Inn w' lo vs xss :=
  ⟨h.1, fun k v xs h1 h2 => (h.2.1 k v xs h1 h2).kept hg (own_ne_type (h.2.1 k v xs h1 h2) ho hne), h.2.2⟩
theorem Inn.snoc {w : World} {lo lo2 : Nat} {vs : List Value} {xss : List (List Int)} {v : Value} {xs : List Int} (h : Inn w lo vs xss) (hv : w.ownsRow lo2 3 1 v xs.length (ints xs)) (hl : lo ≤ lo2)
    (hnew : ∀ (k : Nat) (a : Value), vs[k]? = some a → ∀ g, a.ownBlock = some g → g < lo2) : Inn w lo (vs ++ [v]) (xss ++ [xs]) := by
  refine ⟨by simp [h.1], fun k a ys h1 h2 => ?_, fun i j a b hij h1 h2 => ?_⟩
  · by_cases hk : k < vs.length
    · rw [List.getElem?_append_left hk] at h1
      rw [List.getElem?_append_left (by rw [← h.1]; exact hk)] at h2
      exact h.2.1 k a ys h1 h2
    · rw [List.getElem?_append_right (by omega)] at h1
      rw [List.getElem?_append_right (by rw [← h.1]; omega)] at h2
      have hk0 : k - vs.length = 0 := by
        by_cases hz : k - vs.length = 0
        · exact hz
        · rw [List.getElem?_eq_none (by simp; omega)] at h1; cases h1
      have hk1 : k - xss.length = 0 := by rw [← h.1]; exact hk0
      rw [hk0] at h1; rw [hk1] at h2
      simp at h1 h2
      subst h1 h2
      exact own_lo hv hl
  · by_cases hj : j < vs.length
    · rw [List.getElem?_append_left (by omega)] at h1
      rw [List.getElem?_append_left hj] at h2
      exact h.2.2 i j a b hij h1 h2
    · rw [List.getElem?_append_right (by omega)] at h2
      have hj0 : j - vs.length = 0 := by
        by_cases hz : j - vs.length = 0
        · exact hz
        · rw [List.getElem?_eq_none (by simp; omega)] at h2; cases h2
      rw [hj0] at h2; simp at h2; subst h2
      rw [List.getElem?_append_left (by omega)] at h1
      cases hb : v.ownBlock with
      | none => exact .inl rfl
      | some g =>
        right; intro e
        have h3 := (hv.lt g hb).1
        have h4 := hnew i a h1 g e.symm
        omega
theorem Inn.lt {w : World} {lo : Nat} {vs : List Value} {xss : List (List Int)} (h : Inn w lo vs xss) : ∀ (k : Nat) (a : Value), vs[k]? = some a → ∀ g, a.ownBlock = some g → g < w.heap.size := by
  intro k a ha g hg
  have hk : k < xss.length := by rw [← h.1]; exact (List.getElem?_eq_some_iff.1 ha).1
  exact ((h.2.1 k a _ ha (List.getElem?_eq_getElem hk)).lt g hg).2

/-! the groups -/
def grpOf (d l x : Int) : List Int := digL d l (shC d l (dg x))
def isHead (d l x : Int) : Bool := (grpOf d l x).headD (-1) == x
def grpTo (d l : Int) (n : Nat) : List (List Int) := ((tenI.take n).filter (isHead d l)).map (grpOf d l)
def grpL (d l : Int) : List (List Int) := grpTo d l 10
theorem grpTo_le (d l : Int) (n : Nat) : (grpTo d l n).length ≤ 10 := by
  unfold grpTo
  rw [List.length_map]
  exact Nat.le_trans (List.length_filter_le _ _) (by rw [List.length_take]; simp [tenI]; omega)
theorem grpTo_succ (d l : Int) {n : Nat} (h : n < 10) : grpTo d l (n + 1) = grpTo d l n ++ if isHead d l n then [grpOf d l n] else [] := by
  unfold grpTo
  rw [take_snoc (tenI_at h), List.filter_append, List.map_append]
  cases hq : isHead d l n <;> simp [hq]
theorem grpOf_head {d l : Int} {n : Nat} (h : n < 10) : (grpOf d l n)[0]? = some ((grpOf d l n).headD (-1)) := by
  have hm : (n : Int) ∈ grpOf d l n := by
    unfold grpOf digL
    rw [List.mem_filter]
    exact ⟨List.mem_of_getElem? (tenI_at h), by simp⟩
  cases hg : grpOf d l n with
  | nil => rw [hg] at hm; simp at hm
  | cons a t => simp
theorem ownss_snoc (xs : List Value) (v : Value) : xs ++ [v] = xs ++ [v] := rfl
theorem info_ints : (Try.prog.info? 24).map (fun i => (i.zero, i.size, i.bytes)) = some (some (.slice none 0 0), 1, 24) := by kernel_rfl
theorem groups_c (d l : Int) (w : World) (d0 : 0 ≤ d) (d1 : d ≤ 127) (l0 : 0 ≤ l) (l1 : l ≤ 127) :
    Calls Try.prog 106 #[.agg #[.int .i64 d, .int .i64 l]] w fun e w' => ∃ u, e = .returned u ∧ OwnSS w' w.heap.size u (grpL d l) ∧ Below w.heap.size w w' := by
  obtain ⟨i, hi, hz0, hz1, hz2⟩ := info_parts info_ints
  have q0 : (w.alloc (.cells #[.int .i64 d, .int .i64 l] 42)).cell? ⟨w.heap.size, 0, none⟩ = some (.int .i64 d) := by rw [World.cell?_alloc_at _ _ _ _ rfl]; rfl
  have q1 : (w.alloc (.cells #[.int .i64 d, .int .i64 l] 42)).cell? ⟨w.heap.size, 1, none⟩ = some (.int .i64 l) := by rw [World.cell?_alloc_at _ _ _ _ rfl]; rfl
  have hb0 := below_one (w := w) (.cells #[.int .i64 d, .int .i64 l] 42)
  go_enter Try.func106, Try.ntmps106
  go_wp2_with fail
  refine (digitCells_c _).mono ?_
  rintro e w1 ⟨rfl, hb1⟩
  have r0 := cell_later hb1 q0
  have r1 := cell_later hb1 q1
  have hb2 := Below.chain hb0 hb1
  clear q0 q1 hb0 hb1
  go_wp2
  go_loopw [3, 4, 5, 6, 8] (fun o _ _ _ j wr => ∃ (k : Nat) (vs : List Value), k ≤ 10 ∧ j = .int .i64 (k : Int) ∧ wr.ownsRow (w.heap.size + 1) 24 1 o (grpTo d l k).length vs ∧ Inn wr (w.heap.size + 1) vs (grpTo d l k) ∧ Below w.heap.size w wr ∧ w.heap.size + 1 ≤ wr.heap.size ∧ wr.cell? ⟨w.heap.size, 0, none⟩ = some (.int .i64 d) ∧ wr.cell? ⟨w.heap.size, 1, none⟩ = some (.int .i64 l)) (fun _ _ _ _ j _ => 11 - (intOf j).toNat)
  case atStart => exact ⟨0, [], by omega, rfl, World.ownsRow_nil _ _ _ _, Inn.nil_ _ _, hb2, World.block_lt_of_cell? _ _ r0, r0, r1⟩
  case round =>
    obtain ⟨k, vs, hk, rfl, ho, hin, hb, hsz, g0, g1⟩ := hrel
    clear r0 r1 hb2
    by_cases hlt : k < 10
    · have hd : decide ((k : Int) < 10) = true := by simp; omega
      have hix := fun w => index_dig (k : Int) (by omega) (by omega) w
      have bdx := dg_bd (k : Int)
      have hsc := grpTo_succ d l hlt
      have hle := grpTo_le d l k
      have hh := grpOf_head (d := d) (l := l) hlt
      generalize grpTo d l k = cur at *
      have HS := Lib.hid hsc; have HH := Lib.hid hh; clear hsc hh
      go_wp2_with fail
      go_region_held3 (fun w' => w'.cell? ⟨w.heap.size, 0, none⟩ = some (.int .i64 d) ∧ w'.cell? ⟨w.heap.size, 1, none⟩ = some (.int .i64 l))
        (first | go_keep | (go_split_ands; exact ⟨cell_later hb3 (by assumption), cell_later hb3 (by assumption)⟩) | (go_split_ands; exact ⟨cell_later hb4 (by assumption), cell_later hb4 (by assumption)⟩))
        (first | (go_at_call 91; refine (shown_c d l (dg k) d0 d1 l0 l1 bdx.1 bdx.2 _).mono ?_; rintro e w' ⟨rfl, hb3⟩) | (go_at_call 99; refine (digits_c d l (shC d l (dg k)) _ d0 d1 l0 l1).mono ?_; rintro e w'' ⟨ug, rfl, hog, hb4⟩))
      have g02 : w''.cell? ⟨w.heap.size, 0, none⟩ = some (.int .i64 d) := by go_split_ands; assumption
      have g12 : w''.cell? ⟨w.heap.size, 1, none⟩ = some (.int .i64 l) := by go_split_ands; assumption
      have hb34 : Below wr.heap.size wr w'' := Below.chain (Below.chain (Below.refl _ _).drew hb3) hb4
      have hsz3 : wr.heap.size ≤ w'.heap.size := hb3.size
      have hb5 := Below.chain hb hb34
      have ho2 := own_keep ho hb34
      have hin2 := hin.keep hb34
      have hsz2 := Nat.le_trans hsz hb34.size
      have hlt0 := hin.lt
      have hog2 : w''.ownsRow w'.heap.size 3 1 ug (grpOf d l k).length (ints (grpOf d l k)) := hog
      obtain ⟨a3, c3, hu3, hc3, hcm3, H3⟩ := (Ints.of_own hog2).parts
      obtain ⟨b3, o3, e3, g3⟩ := H3.out 0 _ HH.out
      subst hu3 e3
      simp only [Nat.add_zero] at g3
      have hpos : 0 < (grpOf d l (k : Int)).length := (List.getElem?_eq_some_iff.1 HH.out).1
      have hposI : (0 : Int) < ((grpOf d l (k : Int)).length : Int) := by omega
      clear hog ho hin hb hb3 hb4 hb34 g0 g1 H3 HH hix
      rcases hq : isHead d l (k : Int) with _ | _
      · have hqb : (((grpOf d l (k : Int)).headD (-1)) == (k : Int)) = false := hq
        have hS2 : grpTo d l (k + 1) = cur := by rw [HS.out]; simp [hq]
        have HS2 := Lib.hid hS2; clear hS2 HS hq
        generalize (grpOf d l (k : Int)).headD (-1) = hx at *
        go_wp2
        go_roundw
        case rel => exact ⟨k + 1, vs, by omega, by go_num, by rw [HS2.out]; exact ho2, by rw [HS2.out]; exact hin2, hb5, hsz2, g02, g12⟩
        case measure => simp [intOf]; omega
      · have hqb : (((grpOf d l (k : Int)).headD (-1)) == (k : Int)) = true := hq
        have hS2 : grpTo d l (k + 1) = cur ++ [grpOf d l k] := by rw [HS.out]; simp [hq]
        have HS2 := Lib.hid hS2; clear hS2 HS hq
        have hin3 := hin2.snoc hog2 (by omega) (fun k a ha g hg => Nat.lt_of_lt_of_le (hlt0 k a ha g hg) hsz3)
        generalize hG : (grpOf d l (k : Int)).headD (-1) = hx at *
        clear hG
        generalize grpOf d l (k : Int) = G at *
        go_wp2_with (at_builtin; refine wpList_append_own_at _ rfl _ _ 54 rfl (w.heap.size + 1) 24 i (.slice none 0 0) 1 24 Try.underlying54 hi hz0 hz1 hz2 rfl (by decide) _ cur.length vs rfl (ho2.alloc _) ⟨w''.heap.size, 0, none⟩ 1 1 [.slice (some ⟨b3, o3, none⟩) G.length c3] rfl rfl (news_new _ [.slice (some ⟨b3, o3, none⟩) G.length c3] _) (by simp [Value.oneCell']) (by unfold maxLen; omega) (by omega) (by simp; omega) ?_)
        intro v' w3 ho5 hg5 _ _
        have hlt2 := World.block_lt_of_cell? _ _ g02
        have hb7 : Below w.heap.size w w3 := (Below.alc hb5 _).grown hg5 (by have := hb5.size; simp; omega) (fun g hg => by have := (ho2.lt g hg).1; omega)
        have hkeep : ∀ o v, w''.cell? ⟨w.heap.size, o, none⟩ = some v → w3.cell? ⟨w.heap.size, o, none⟩ = some v := fun o v h =>
          hg5.cell (cell_later (below_one _) h) (fun e => by have := (ho2.lt _ e.symm).1; simp at this; omega)
        have g03 := hkeep _ _ g02
        have g13 := hkeep _ _ g12
        have hin5 : Inn w3 (w.heap.size + 1) (vs ++ [.slice (some ⟨b3, o3, none⟩) G.length c3]) (cur ++ [G]) := (hin3.keep (below_one _)).grown (ho2.alloc _) (by decide) hg5
        have hsz3' : w.heap.size + 1 ≤ w3.heap.size := Nat.le_trans (by simp; omega) hg5.size
        clear ho2 hb5 hg5 g02 g12 hkeep hlt2 hsz2 hin2 hin3 hog2 hlt0 g3
        go_wp2
        go_roundw
        case rel => exact ⟨k + 1, _, by omega, by go_num, by rw [HS2.out]; exact ownsRow_cast ho5 (by simp) rfl, by rw [HS2.out]; exact hin5, hb7, hsz3', g03, g13⟩
        case measure => simp [intOf]; omega
    · obtain rfl : k = 10 := by omega
      go_wp2
      go_ret
      exact ⟨_, rfl, ⟨vs, own_lo ho (by omega), ⟨hin.1, fun k v xs h1 h2 => own_lo (hin.2.1 k v xs h1 h2) (by omega), hin.2.2⟩⟩, hb⟩
theorem l3Groups_c (d l : Int) (w : World) (d0 : 0 ≤ d) (d1 : d ≤ 127) (l0 : 0 ≤ l) (l1 : l ≤ 127) :
    Calls Try.prog 107 #[.agg #[.int .i64 d, .int .i64 l]] w fun e w' => ∃ u, e = .returned u ∧ OwnSS w' w.heap.size u (grpL d l) ∧ Below w.heap.size w w' := by
  obtain ⟨i, hi, hz0, hz1, hz2⟩ := info_parts info_ints
  have q0 : (w.alloc (.cells #[.int .i64 d, .int .i64 l] 42)).cell? ⟨w.heap.size, 0, none⟩ = some (.int .i64 d) := by rw [World.cell?_alloc_at _ _ _ _ rfl]; rfl
  have q1 : (w.alloc (.cells #[.int .i64 d, .int .i64 l] 42)).cell? ⟨w.heap.size, 1, none⟩ = some (.int .i64 l) := by rw [World.cell?_alloc_at _ _ _ _ rfl]; rfl
  have hb0 := below_one (w := w) (.cells #[.int .i64 d, .int .i64 l] 42)
  have r0 := cell_later (below_one (.cells #[] 24)) q0
  have r1 := cell_later (below_one (.cells #[] 24)) q1
  have hb2 : Below w.heap.size w ((w.alloc (.cells #[.int .i64 d, .int .i64 l] 42)).alloc (.cells #[] 24)) := by (repeat (first | exact Below.refl _ _ | exact (Below.refl _ _).drew | assumption | exact below_one _ | refine Below.chain ?_ (by assumption) | refine Below.drew ?_ | refine Below.alc ?_ _ | refine below_drewN ?_ | (refine Below.setCell ?_ ?_ _) | exact Nat.le_refl _ | (simp; done) | (simp; omega)))
  have ho0 := World.ownsRow_lit (e := 24) (size := 1) (base := w.heap.size + 1) (w.alloc (.cells #[.int .i64 d, .int .i64 l] 42)) #[] 0 (by simp) (by decide) rfl
  rw [show (w.alloc (.cells #[.int .i64 d, .int .i64 l] 42)).heap.size = w.heap.size + 1 by simp] at ho0
  clear q0 q1 hb0
  go_enter Try.func107, Try.ntmps107
  go_wp2
  go_loopw [3, 4, 5] (fun o j _ wr => ∃ (k : Nat) (vs : List Value), k ≤ 10 ∧ j = .int .i64 (k : Int) ∧ wr.ownsRow (w.heap.size + 1) 24 1 o (grpTo d l k).length vs ∧ Inn wr (w.heap.size + 1) vs (grpTo d l k) ∧ Below w.heap.size w wr ∧ w.heap.size + 1 ≤ wr.heap.size ∧ wr.cell? ⟨w.heap.size, 0, none⟩ = some (.int .i64 d) ∧ wr.cell? ⟨w.heap.size, 1, none⟩ = some (.int .i64 l)) (fun _ j _ _ => 11 - (intOf j).toNat)
  case atStart => exact ⟨0, [], by omega, rfl, ho0, Inn.nil_ _ _, hb2, World.block_lt_of_cell? _ _ r0, r0, r1⟩
  case round =>
    obtain ⟨k, vs, hk, rfl, ho, hin, hb, hsz, g0, g1⟩ := hrel
    clear r0 r1 hb2 ho0
    by_cases hlt : k < 10
    · have hd : decide ((k : Int) < 10) = true := by simp; omega
      have bdx := dg_bd (k : Int)
      have hsc := grpTo_succ d l hlt
      have hle := grpTo_le d l k
      have hh := grpOf_head (d := d) (l := l) hlt
      generalize grpTo d l k = cur at *
      have HS := Lib.hid hsc; have HH := Lib.hid hh; clear hsc hh
      go_wp2_with fail
      go_region_held3 (fun w' => w'.cell? ⟨w.heap.size, 0, none⟩ = some (.int .i64 d) ∧ w'.cell? ⟨w.heap.size, 1, none⟩ = some (.int .i64 l))
        (first | go_keep | (go_split_ands; exact ⟨cell_later hb4 (by assumption), cell_later hb4 (by assumption)⟩) | (go_split_ands; exact ⟨cell_later hb3 (by assumption), cell_later hb3 (by assumption)⟩) | (go_split_ands; exact ⟨cell_later hb9 (by assumption), cell_later hb9 (by assumption)⟩))
        (first | (go_at_call 82; refine (l2Digit_c (k : Int) (by omega) (by omega) _).mono ?_; rintro e w9 ⟨rfl, hb9⟩) | (go_at_call 81; refine (l3Shown_c d l (dg k) d0 d1 l0 l1 bdx.1 bdx.2 _).mono ?_; rintro e w' ⟨rfl, hb3⟩) | (go_at_call 101; refine (l3Digits_c d l (shC d l (dg k)) _ d0 d1 l0 l1).mono ?_; rintro e w'' ⟨ug, rfl, hog, hb4⟩))
      have g02 : w''.cell? ⟨w.heap.size, 0, none⟩ = some (.int .i64 d) := by go_split_ands; assumption
      have g12 : w''.cell? ⟨w.heap.size, 1, none⟩ = some (.int .i64 l) := by go_split_ands; assumption
      have hb34 : Below wr.heap.size wr w'' := Below.chain (Below.chain (Below.chain (Below.refl _ _).drew hb9) hb3) hb4
      have hsz3 : wr.heap.size ≤ w'.heap.size := Nat.le_trans hb9.size hb3.size
      have hb5 := Below.chain hb hb34
      have ho2 := own_keep ho hb34
      have hin2 := hin.keep hb34
      have hsz2 := Nat.le_trans hsz hb34.size
      have hlt0 := hin.lt
      have hog2 : w''.ownsRow w'.heap.size 3 1 ug (grpOf d l k).length (ints (grpOf d l k)) := hog
      obtain ⟨a3, c3, hu3, hc3, hcm3, H3⟩ := (Ints.of_own hog2).parts
      obtain ⟨b3, o3, e3, g3⟩ := H3.out 0 _ HH.out
      subst hu3 e3
      simp only [Nat.add_zero] at g3
      have hpos : 0 < (grpOf d l (k : Int)).length := (List.getElem?_eq_some_iff.1 HH.out).1
      have hposI : (0 : Int) < ((grpOf d l (k : Int)).length : Int) := by omega
      clear hog ho hin hb hb3 hb9 hb4 hb34 g0 g1 H3 HH
      rcases hq : isHead d l (k : Int) with _ | _
      · have hqb : (((grpOf d l (k : Int)).headD (-1)) == (k : Int)) = false := hq
        have hS2 : grpTo d l (k + 1) = cur := by rw [HS.out]; simp [hq]
        have HS2 := Lib.hid hS2; clear hS2 HS hq
        generalize (grpOf d l (k : Int)).headD (-1) = hx at *
        go_wp2
        go_roundw
        case rel => exact ⟨k + 1, vs, by omega, by go_num, by rw [HS2.out]; exact ho2, by rw [HS2.out]; exact hin2, hb5, hsz2, g02, g12⟩
        case measure => simp [intOf]; omega
      · have hqb : (((grpOf d l (k : Int)).headD (-1)) == (k : Int)) = true := hq
        have hS2 : grpTo d l (k + 1) = cur ++ [grpOf d l k] := by rw [HS.out]; simp [hq]
        have HS2 := Lib.hid hS2; clear hS2 HS hq
        have hin3 := hin2.snoc hog2 (by omega) (fun k a ha g hg => Nat.lt_of_lt_of_le (hlt0 k a ha g hg) hsz3)
        generalize hG : (grpOf d l (k : Int)).headD (-1) = hx at *
        clear hG
        generalize grpOf d l (k : Int) = G at *
        go_wp2_with (at_builtin; refine wpList_append_own_at _ rfl _ _ 54 rfl (w.heap.size + 1) 24 i (.slice none 0 0) 1 24 Try.underlying54 hi hz0 hz1 hz2 rfl (by decide) _ cur.length vs rfl (ho2.alloc _) ⟨w''.heap.size, 0, none⟩ 1 1 [.slice (some ⟨b3, o3, none⟩) G.length c3] rfl rfl (news_new _ [.slice (some ⟨b3, o3, none⟩) G.length c3] _) (by simp [Value.oneCell']) (by unfold maxLen; omega) (by omega) (by simp; omega) ?_)
        intro v' w3 ho5 hg5 _ _
        have hlt2 := World.block_lt_of_cell? _ _ g02
        have hb7 : Below w.heap.size w w3 := (Below.alc hb5 _).grown hg5 (by have := hb5.size; simp; omega) (fun g hg => by have := (ho2.lt g hg).1; omega)
        have hkeep : ∀ o v, w''.cell? ⟨w.heap.size, o, none⟩ = some v → w3.cell? ⟨w.heap.size, o, none⟩ = some v := fun o v h =>
          hg5.cell (cell_later (below_one _) h) (fun e => by have := (ho2.lt _ e.symm).1; simp at this; omega)
        have g03 := hkeep _ _ g02
        have g13 := hkeep _ _ g12
        have hin5 : Inn w3 (w.heap.size + 1) (vs ++ [.slice (some ⟨b3, o3, none⟩) G.length c3]) (cur ++ [G]) := (hin3.keep (below_one _)).grown (ho2.alloc _) (by decide) hg5
        have hsz3' : w.heap.size + 1 ≤ w3.heap.size := Nat.le_trans (by simp; omega) hg5.size
        clear ho2 hb5 hg5 g02 g12 hkeep hlt2 hsz2 hin2 hin3 hog2 hlt0 g3
        go_wp2
        go_roundw
        case rel => exact ⟨k + 1, _, by omega, by go_num, by rw [HS2.out]; exact ownsRow_cast ho5 (by simp) rfl, by rw [HS2.out]; exact hin5, hb7, hsz3', g03, g13⟩
        case measure => simp [intOf]; omega
    · obtain rfl : k = 10 := by omega
      go_wp2
      go_ret
      exact ⟨_, rfl, ⟨vs, own_lo ho (by omega), ⟨hin.1, fun k v xs h1 h2 => own_lo (hin.2.1 k v xs h1 h2) (by omega), hin.2.2⟩⟩, hb⟩
theorem isHarmless_c (d l : Int) (w : World) (d0 : 0 ≤ d) (d1 : d ≤ 127) (l0 : 0 ≤ l) (l1 : l ≤ 127) :
    Calls Try.prog 110 #[.agg #[.int .i64 d, .int .i64 l]] w fun e w' => e = .returned (.bool (decide ((grpL d l).length = 10))) ∧ Below w.heap.size w w' := by
  go_enter Try.func110, Try.ntmps110
  go_wp2_with fail
  refine (groups_c d l _ d0 d1 l0 l1).mono ?_
  rintro e w1 ⟨u, rfl, ho, hb⟩
  obtain ⟨vs, hov, hin⟩ := ho
  obtain ⟨a, c, rfl, _⟩ := (Sl.of_own hov).slice
  go_wp2
  go_ret
  refine ⟨bool_ret ?_, by (repeat (first | exact Below.refl _ _ | exact (Below.refl _ _).drew | assumption | exact below_one _ | refine Below.chain ?_ (by assumption) | refine Below.drew ?_ | refine Below.alc ?_ _ | refine below_drewN ?_ | (refine Below.setCell ?_ ?_ _) | exact Nat.le_refl _ | (simp; done) | (simp; omega)))⟩
  rw [Bool.eq_iff_iff]; simp; omega
end Go.Proofs.Ytlipkplomndjcaa
namespace Go.Proofs.Ytlipkplomndjcaa
open Go.RowKit
set_option linter.unusedVariables false
set_option maxRecDepth 100000
/-- the number of bars of a cell that light -/
def cnt (c : Int) : Int := ((List.range 7).map fun (i : Nat) => ((c.toNat / 2 ^ i % 2 : Nat) : Int)).sum
def on1 (x : Int) : Int := IntKind.u64.wrap (bits .and .u64 (x / 2) 6148914691236517205 + bits .and .u64 x 6148914691236517205)
def on2 (x : Int) : Int := IntKind.u64.wrap (bits .and .u64 (x / 4) 3689348814741910323 + bits .and .u64 x 3689348814741910323)
def on3 (x : Int) : Int := bits .and .u64 (IntKind.u64.wrap (x / 16 + x)) 1085102592571150095
def on4 (x : Int) : Int := IntKind.u64.wrap (x + x / 256)
def on5 (x : Int) : Int := IntKind.u64.wrap (x + x / 65536)
def on6 (x : Int) : Int := IntKind.u64.wrap (x + x / 4294967296)
def onesF (x : Int) : Int := on6 (on5 (on4 (on3 (on2 (on1 x)))))
theorem onesF_all : ∀ c : Fin 128, onesF (c.1 : Int) = cnt (c.1 : Int) ∧ 0 ≤ cnt (c.1 : Int) ∧ cnt (c.1 : Int) ≤ 7 ∧ bits .and .i64 (wrap64 (cnt (c.1 : Int))) 127 = cnt (c.1 : Int) := by decide +kernel
theorem Ones64_c (c : Nat) (hc : c < 128) (w : World) : Calls Try.prog 168 #[.int .u64 c] w fun e w' => e = .returned (.int .i64 (cnt c)) ∧ w = w' := by
  have h0 : (0 : Int) ≤ c := by omega
  have h1 : (c : Int) ≤ 127 := by omega
  have H := Lib.hid (onesF_all ⟨c, hc⟩)
  go_enter Try.func168, Try.ntmps168
  go_wp2
  go_ret
  refine ⟨?_, rfl⟩
  refine int_ret ?_
  show bits .and .i64 (wrap64 (onesF (c : Int))) 127 = cnt (c : Int)
  rw [H.out.1]; exact H.out.2.2.2
theorem Ones_c (c : Nat) (hc : c < 128) (w : World) : Calls Try.prog 150 #[.int .u64 c] w fun e w' => e = .returned (.int .i64 (cnt c)) ∧ w = w' := by
  have h0 : (0 : Int) ≤ c := by omega
  have h1 : (c : Int) ≤ 127 := by omega
  go_enter Try.func150, Try.ntmps150
  go_wp2_with fail
  refine (Ones64_c c hc _).mono ?_
  rintro e w' ⟨rfl, rfl⟩
  go_wp2
  go_ret
  exact ⟨rfl, rfl⟩
theorem count_c (c : Int) (h0 : 0 ≤ c) (h1 : c ≤ 127) (w : World) : Calls Try.prog 111 #[.int .i64 c] w fun e w' => e = .returned (.int .i64 (cnt c)) ∧ w = w' := by
  obtain ⟨n, rfl⟩ := Int.eq_ofNat_of_zero_le h0
  go_enter Try.func111, Try.ntmps111
  go_wp2_with fail
  refine (Ones_c n (by omega) _).mono ?_
  rintro e w' ⟨rfl, rfl⟩
  go_wp2
  go_ret
  exact ⟨rfl, rfl⟩
def cntTo (c : Int) (k : Nat) : Int := ((List.range k).map fun (i : Nat) => ((c.toNat / 2 ^ i % 2 : Nat) : Int)).sum
theorem cntTo_fin : ∀ (c : Fin 128) (k : Fin 7), cntTo (c.1 : Int) (k.1 + 1) = cntTo (c.1 : Int) k.1 + ((c.1 / 2 ^ k.1 % 2 : Nat) : Int) ∧ 0 ≤ cntTo (c.1 : Int) k.1 ∧ cntTo (c.1 : Int) k.1 ≤ 7 := by decide +kernel
theorem bit_at (n k : Nat) (hn : n < 128) : bits .and .i64 ((n : Int) / 2 ^ k) 1 = ((n / 2 ^ k % 2 : Nat) : Int) := by
  have e : ((n : Int) / 2 ^ k) = ((n / 2 ^ k : Nat) : Int) := by simp
  have hle : n / 2 ^ k ≤ n := Nat.div_le_self _ _
  rw [e, show (1 : Int) = ((1 : Nat) : Int) from rfl, i64_and_nat _ 1 (by omega) (by omega), Nat.and_one_is_mod]
theorem l2Count_c (c : Int) (h0 : 0 ≤ c) (h1 : c ≤ 127) (w : World) : Calls Try.prog 151 #[.int .i64 c] w fun e w' => e = .returned (.int .i64 (cnt c)) ∧ w = w' := by
  obtain ⟨n, rfl⟩ := Int.eq_ofNat_of_zero_le h0
  go_enter Try.func151, Try.ntmps151
  go_wp2
  go_loopw [3, 4] (fun m j wr => ∃ k : Nat, k ≤ 7 ∧ j = .int .i64 (k : Int) ∧ m = .int .i64 (cntTo (n : Int) k) ∧ w = wr) (fun _ j _ => 8 - (intOf j).toNat)
  case atStart => exact ⟨0, by omega, rfl, rfl, by trivial⟩
  case round =>
    obtain ⟨k, hk, rfl, rfl, rfl⟩ := hrel
    by_cases hlt : k < 7
    · have hd : decide ((k : Int) < 7) = true := by simp; omega
      have hf := cntTo_fin ⟨n, by omega⟩ ⟨k, hlt⟩
      simp only at hf
      obtain ⟨hS, hb0, hb1⟩ := hf
      have HS := Lib.hid hS; clear hS
      generalize cntTo (n : Int) k = m at *
      go_wp2
      exact ⟨⟨k + 1, by omega, by go_num, by
        rw [HS.out, bit_at n k (by omega)]
        exact int_val (by have : n / 2 ^ k % 2 < 2 := Nat.mod_lt _ (by omega); simp only [wrap64]; omega), trivial⟩, by simp [intOf]; omega⟩
    · obtain rfl : k = 7 := by omega
      go_wp2
      go_ret
      exact ⟨rfl, rfl⟩
end Go.Proofs.Ytlipkplomndjcaa
namespace Go.Proofs.Ytlipkplomndjcaa
open Go.RowKit
set_option linter.unusedVariables false

theorem IsState_c (bar kind : Int) (w : World) : Calls Try.prog 184 #[.agg #[.int .i64 bar, .int .i64 kind]] w fun e w' => e = .returned (.bool (stateB bar kind)) ∧ Below w.heap.size w w' := by
  by_cases h0 : kind = 0
  · subst h0
    go_enter Try.func184, Try.ntmps184
    go_wp2_with (go_at_call 84; refine (within_c _ _ _ _).mono ?_; rintro e w' ⟨rfl, rfl⟩)
    all_goals (go_ret; exact ⟨bool_ret (by simp_all [stateB, inB]; try omega), below_one _⟩)
  · have h1 : (kind != 0) = true := by simpa using h0
    go_enter Try.func184, Try.ntmps184
    go_wp2_with (go_at_call 84; refine (within_c _ _ _ _).mono ?_; rintro e w' ⟨rfl, rfl⟩)
    all_goals (go_ret; exact ⟨bool_ret (by simp_all [stateB, inB]; try omega), below_one _⟩)
def faultV (bar kind : Int) : Value := .agg #[.int .i64 (stD bar kind), .int .i64 (stL bar kind)]
theorem Sfault_c (bar kind : Int) (h : stateB bar kind = true) (w : World) : Calls Try.prog 185 #[.agg #[.int .i64 bar, .int .i64 kind]] w fun e w' => e = .returned (faultV bar kind) ∧ Below w.heap.size w w' := by
  rcases stateB_cases h with ⟨rfl, rfl⟩ | ⟨rfl, h0, h1⟩ | ⟨rfl, h0, h1⟩
  · go_enter Try.func185, Try.ntmps185
    go_wp2
    exact bodyPost_ret (v := faultV 0 0) (by simp [results, Try.results185, go_sem, faultV, stD, stL]) rfl ⟨rfl, (below_one _).alloc (by simp) _⟩
  · rcases bar_cases h0 h1 with rfl | rfl | rfl | rfl | rfl | rfl | rfl
    all_goals
      clear h0 h1 h
      go_enter Try.func185, Try.ntmps185
      go_wp2
      refine bodyPost_ret (v := faultV _ 1) (by simp [results, Try.results185, go_sem, faultV, stD, stL]) rfl ⟨rfl, ?_⟩
      repeat (first | exact below_one _ | apply Below.setCell | apply Below.alloc | simp)
  · rcases bar_cases h0 h1 with rfl | rfl | rfl | rfl | rfl | rfl | rfl
    all_goals
      clear h0 h1 h
      go_enter Try.func185, Try.ntmps185
      go_wp2
      refine bodyPost_ret (v := faultV _ 2) (by simp [results, Try.results185, go_sem, faultV, stD, stL]) rfl ⟨rfl, ?_⟩
      repeat (first | exact below_one _ | apply Below.setCell | apply Below.alloc | simp)
theorem isTest_c (v : Value) (xs : List Int) (w : World) (hv : Ints w v xs) : Calls Try.prog 141 #[v] w fun e w' => e = .returned (.bool (testB xs)) ∧ Below w.heap.size w w' := by
  obtain ⟨a, c, hvv, hc1, hc2, HC⟩ := hv.parts
  by_cases h : xs.length ≤ 10
  · subst hvv
    go_enter Try.func141, Try.ntmps141
    go_wp2_with (go_at_call 85; refine (areAllInt_c _ xs 86 digitB _ hv (fun _ _ => by kernel_rfl) (fun x w' => isDigit_c x w')).mono ?_; rintro e w' ⟨rfl, hb⟩)
    go_ret
    exact ⟨bool_ret (by simp [testB, h]), by assumption⟩
  · subst hvv
    go_enter Try.func141, Try.ntmps141
    go_wp2_with fail
    go_ret
    exact ⟨bool_ret (by simp [testB]; omega), Below.refl _ _⟩
/-- the place of the first digit of a test that finds a state, or -1 -/
def placeOf (bar kind : Int) (xs : List Int) : Int := firstAt (finds bar kind) xs
theorem finding_c (v : Value) (xs : List Int) (bar kind : Int) (w : World) (hv : Ints w v xs) (hs : stateB bar kind = true) (ht : testB xs = true) :
    Calls Try.prog 178 #[.agg #[.int .i64 bar, .int .i64 kind], v] w fun e w' => e = .returned (.int .i64 (placeOf bar kind xs)) ∧ Below w.heap.size w w' := by
  have bd := stDL_bd hs
  go_enter Try.func178, Try.ntmps178
  go_wp2_with fail
  refine (Sfault_c bar kind hs _).mono ?_
  rintro e w1 ⟨rfl, hb1⟩
  unfold faultV
  go_wp2_with fail
  refine (IndexFuncInt_c v xs 186 #[.pointer (some ⟨w1.heap.size, 0, none⟩)] (finds bar kind) _ ?_ (fun _ _ => by kernel_rfl) ?_).mono ?_
  · exact Ints.below (Ints.below (Ints.below hv (below_one _)) hb1) (below_one _)
  · intro x w2 hx hb2
    have hd : 0 ≤ x ∧ x ≤ 9 := by
      simp only [testB, Bool.and_eq_true, List.all_eq_true] at ht
      exact digitB_true (ht.2 x hx)
    have hx0 := hd.1; have hx1 := hd.2
    have bdx := dg_bd x
    have c0 : w2.cell? ⟨w1.heap.size, 0, none⟩ = some (.int .i64 (stD bar kind)) := by
      rw [(bcell hb2).1 _ _ (by simp), World.cell?_alloc_at _ _ _ _ rfl]; rfl
    have c1 : w2.cell? ⟨w1.heap.size, 1, none⟩ = some (.int .i64 (stL bar kind)) := by
      rw [(bcell hb2).1 _ _ (by simp), World.cell?_alloc_at _ _ _ _ rfl]; rfl
    have hix := fun w => index_dig x hx0 hx1 w
    clear hv hb1 hb2 hs ht hx hd
    go_enter Try.func186, Try.ntmps186
    go_wp2_with fail
    go_region_held3 (fun w' => w'.cell? ⟨w1.heap.size, 0, none⟩ = some (.int .i64 (stD bar kind)) ∧ w'.cell? ⟨w1.heap.size, 1, none⟩ = some (.int .i64 (stL bar kind)))
      (first | go_keep | (go_split_ands; exact ⟨cell_later (by assumption) (by assumption), cell_later (by assumption) (by assumption)⟩))
      (first | (go_at_call 87; refine (digitCells_c _).mono ?_; rintro e w' ⟨rfl, hb⟩) | (go_at_call 91; refine (shown_c _ _ _ (by omega) (by omega) (by omega) (by omega) (by omega) (by omega) _).mono ?_; rintro e w' ⟨rfl, hb⟩))
    go_wp2
    go_ret
    exact ⟨rfl, by (repeat (first | exact Below.refl _ _ | exact (Below.refl _ _).drew | assumption | exact below_one _ | refine Below.chain ?_ (by assumption) | refine Below.drew ?_ | refine Below.alc ?_ _ | refine below_drewN ?_ | (refine Below.setCell ?_ ?_ _) | exact Nat.le_refl _ | (simp; done) | (simp; omega)))⟩
  · rintro e w3 ⟨rfl, hb3⟩
    go_wp2
    go_ret
    exact ⟨rfl, ((((below_one _).trans (hb1.mono (by simp))).alloc (by have := hb1.size; simp at this; omega) _).trans (hb3.mono (by have := hb1.size; simp at this ⊢; omega)))⟩
/-- what both texts of FirstFinding return -/
def ffOk (xs : List Int) (bar kind : Int) : Bool := testB xs && (stateB bar kind && decide (0 ≤ placeOf bar kind xs))
def ffN (xs : List Int) (bar kind : Int) : Int := if ffOk xs bar kind then placeOf bar kind xs else 0
def firstFindingV (xs : List Int) (bar kind : Int) : Value := .tuple #[.int .i64 (ffN xs bar kind), .bool (ffOk xs bar kind)]

theorem l7Fault_c (bar kind : Int) (h : stateB bar kind = true) (w : World) : Calls Try.prog 183 #[.agg #[.int .i64 bar, .int .i64 kind]] w fun e w' => e = .returned (faultV bar kind) ∧ Below w.heap.size w w' := by
  rcases stateB_cases h with ⟨rfl, rfl⟩ | ⟨rfl, h0, h1⟩ | ⟨rfl, h0, h1⟩
  · go_enter Try.func183, Try.ntmps183
    go_wp2
    exact bodyPost_ret (v := faultV 0 0) (by simp [results, Try.results183, go_sem, faultV, stD, stL]) rfl ⟨rfl, (below_one _).alloc (by simp) _⟩
  · rcases bar_cases h0 h1 with rfl | rfl | rfl | rfl | rfl | rfl | rfl
    all_goals
      clear h0 h1 h
      go_enter Try.func183, Try.ntmps183
      go_wp2
      refine bodyPost_ret (v := faultV _ 1) (by simp [results, Try.results183, go_sem, faultV, stD, stL]) rfl ⟨rfl, ?_⟩
      repeat (first | exact below_one _ | apply Below.setCell | apply Below.alloc | simp)
  · rcases bar_cases h0 h1 with rfl | rfl | rfl | rfl | rfl | rfl | rfl
    all_goals
      clear h0 h1 h
      go_enter Try.func183, Try.ntmps183
      go_wp2
      refine bodyPost_ret (v := faultV _ 2) (by simp [results, Try.results183, go_sem, faultV, stD, stL]) rfl ⟨rfl, ?_⟩
      repeat (first | exact below_one _ | apply Below.setCell | apply Below.alloc | simp)
theorem testB_digit {xs : List Int} (ht : testB xs = true) {k : Nat} {x : Int} (hx : xs[k]? = some x) : 0 ≤ x ∧ x ≤ 9 := by
  simp only [testB, Bool.and_eq_true, List.all_eq_true] at ht
  exact digitB_true (ht.2 x (List.mem_of_getElem? hx))
theorem l7Place_c (v : Value) (xs : List Int) (bar kind : Int) (w : World) (hv : Ints w v xs) (hs : stateB bar kind = true) (ht : testB xs = true) :
    Calls Try.prog 175 #[v, .agg #[.int .i64 bar, .int .i64 kind]] w fun e w' => e = .returned (.int .i64 (placeOf bar kind xs)) ∧ Below w.heap.size w w' := by
  have bd := stDL_bd hs
  have hm := hv.le
  obtain ⟨a, c, rfl, hc1, hc2, HC⟩ := hv.parts
  clear hv
  go_enter Try.func175, Try.ntmps175
  go_wp2_with fail
  refine (l7Fault_c bar kind hs _).mono ?_
  rintro e w1 ⟨rfl, hb1⟩
  unfold faultV
  have hz1 : w.heap.size < w1.heap.size := by have := hb1.size; simp at this; omega
  go_wp2_with fail
  go_loopw [6, 7] (fun i q wr => ∃ k : Nat, k ≤ xs.length ∧ i = .int .i64 k ∧ Hid (∀ j x, j < k → xs[j]? = some x → finds bar kind x = false) ∧ Below w.heap.size w wr ∧
      wr.cell? ⟨w1.heap.size, 0, none⟩ = some (.int .i64 (stD bar kind)) ∧ wr.cell? ⟨w1.heap.size, 1, none⟩ = some (.int .i64 (stL bar kind))) (fun i _ _ => xs.length - (intOf i).toNat)
  case atStart => exact ⟨0, by omega, rfl, fun j x hj => by omega, by (repeat (first | exact Below.refl _ _ | exact (Below.refl _ _).drew | assumption | exact below_one _ | refine Below.chain ?_ (by assumption) | refine Below.drew ?_ | refine Below.alc ?_ _ | refine below_drewN ?_ | (refine Below.setCell ?_ ?_ _) | exact Nat.le_refl _ | (simp; done) | (simp; omega))), by rw [World.cell?_alloc_at _ _ _ _ rfl]; rfl, by rw [World.cell?_alloc_at _ _ _ _ rfl]; rfl⟩
  case round =>
    obtain ⟨k, hk, rfl, hbef, hb, g0, g1⟩ := hrel
    by_cases hlt : k < xs.length
    · obtain ⟨x, hx⟩ := elem_at hlt
      obtain ⟨b, off, rfl, h0⟩ := HC.out k x hx.out
      have hblt : b < w.heap.size := World.block_lt_of_cell? w _ h0
      have h1 : wr.cell? ⟨b, off + k, none⟩ = some (.int .i64 x) := ((bcell hb).1 _ _ hblt).trans h0
      have hxd := testB_digit ht hx.out
      have bdx := dg_bd x
      clear h0 hb1
      go_wp2_with fail
      refine (l2Digit_c x hxd.1 hxd.2 _).mono ?_
      rintro e w2 ⟨rfl, hb2⟩
      have g02 := cell_later hb2 g0
      have g12 := cell_later hb2 g1
      go_wp2_with fail
      refine (l3Shown_c _ _ _ bd.1 bd.2.1 bd.2.2.1 bd.2.2.2 bdx.1 bdx.2 _).mono ?_
      rintro e w3 ⟨rfl, hb3⟩
      have g03 := cell_later hb3 g02
      have g13 := cell_later hb3 g12
      clear g0 g1 g02 g12
      have hb4 : Below w.heap.size w w3 := by (repeat (first | exact Below.refl _ _ | exact (Below.refl _ _).drew | assumption | exact below_one _ | refine Below.chain ?_ (by assumption) | refine Below.drew ?_ | refine Below.alc ?_ _ | refine below_drewN ?_ | (refine Below.setCell ?_ ?_ _) | exact Nat.le_refl _ | (simp; done) | (simp; omega)))
      rcases hf : finds bar kind x with _ | _
      · have ht2 : (shC (stD bar kind) (stL bar kind) (dg x) != dg x) = false := hf
        have HP := Lib.hid hf; clear hf
        go_wp2
        go_roundw
        case rel => exact ⟨k + 1, by omega, by go_num, fun j y hj hy => by
          by_cases hj2 : j < k
          · exact hbef.out j y hj2 hy
          · obtain rfl : j = k := by omega
            rw [hx.out] at hy; obtain rfl := Option.some.inj hy; exact HP.out, hb4, g03, g13⟩
        case measure => simp [intOf]; omega
      · have ht2 : (shC (stD bar kind) (stL bar kind) (dg x) != dg x) = true := hf
        have HP := Lib.hid hf; clear hf
        go_wp2
        go_ret
        exact ⟨int_ret (firstAt_some hx.out HP.out hbef.out).symm, hb4⟩
    · go_wp2
      go_ret
      exact ⟨int_ret (firstAt_none (by omega) hbef.out).symm, hb⟩
end Go.Proofs.Ytlipkplomndjcaa
namespace Go.Proofs.Ytlipkplomndjcaa
open Go.RowKit
set_option linter.unusedVariables false
set_option maxRecDepth 100000
def fracN (a b : Nat) : Int := ((a / Nat.gcd a b : Nat) : Int)
def fracD (a b : Nat) : Int := ((b / Nat.gcd a b : Nat) : Int)
def fracV (a b : Nat) : Value := .agg #[.int .i64 (fracN a b), .int .i64 (fracD a b)]
theorem wrapK (n : Int) : IntKind.i64.wrap n = wrap64 n := by
  simp only [IntKind.wrap, IntKind.bits, IntKind.signed, wrap64]; simp; split <;> omega
end Go.Proofs.Ytlipkplomndjcaa
namespace Go.Proofs.Ytlipkplomndjcaa
open Go.RowKit
set_option linter.unusedVariables false
set_option maxRecDepth 100000
def dkS (g : Nat → Nat) (k : Int) (n : Nat) : Nat := (((List.range n).filter fun d : Nat => cnt (d : Int) == k).map g).sum
def dkM (k : Int) (n : Nat) : Nat := ((List.range n).filter fun d : Nat => cnt (d : Int) == k).length
theorem dkS_succ (g : Nat → Nat) (k : Int) (n : Nat) : dkS g k (n + 1) = dkS g k n + if cnt (n : Int) == k then g n else 0 := by
  unfold dkS
  rw [List.range_succ, List.filter_append, List.map_append, List.sum_append]
  cases h : cnt (n : Int) == k <;> simp [h]
theorem dkM_succ (k : Int) (n : Nat) : dkM k (n + 1) = dkM k n + if cnt (n : Int) == k then 1 else 0 := by
  unfold dkM
  rw [List.range_succ, List.filter_append, List.length_append]
  cases h : cnt (n : Int) == k <;> simp [h]
theorem dkM_le (k : Int) (n : Nat) : dkM k n ≤ n := by
  unfold dkM; exact Nat.le_trans (List.length_filter_le _ _) (by simp)
theorem dkS_le {g : Nat → Nat} (hg : ∀ d, g d ≤ 10) (k : Int) (n : Nat) : dkS g k n ≤ 10 * n := by
  induction n with
  | zero => simp [dkS]
  | succ n ih => rw [dkS_succ]; have := hg n; split <;> omega
theorem dkM_pos : ∀ k : Fin 8, 0 < dkM (k.1 : Int) 128 := by decide +kernel
end Go.Proofs.Ytlipkplomndjcaa
namespace Go.Proofs.Ytlipkplomndjcaa
open Go.RowKit
set_option linter.unusedVariables false
set_option maxRecDepth 100000
theorem OwnSS.parts {w : World} {lo : Nat} {u : Value} {xss : List (List Int)} (h : OwnSS w lo u xss) : ∃ a c, u = .slice a xss.length c ∧ xss.length ≤ 9223372036854775807 ∧
    Hid (∀ k xs, xss[k]? = some xs → ∃ b off a' c', a = some ⟨b, off, none⟩ ∧ w.cell? ⟨b, off + k, none⟩ = some (.slice a' xs.length c') ∧ xs.length ≤ 9223372036854775807 ∧ Ints w (.slice a' xs.length c') xs) := by
  obtain ⟨vs, ho, hi⟩ := h
  have hle := (Sl.of_own ho).le
  obtain ⟨a, c, rfl, h1, h2, h3, h4⟩ := Sl.of_own ho
  refine ⟨a, c, rfl, hle, fun k xs hk => ?_⟩
  have hlt : k < xss.length := (List.getElem?_eq_some_iff.1 hk).1
  obtain ⟨b, off, rfl, hc⟩ := h4 (by omega)
  have hv : vs[k]? = some vs[k] := List.getElem?_eq_getElem (by rw [hi.1]; exact hlt)
  have hown := hi.2.1 k _ _ hv hk
  have hI : Ints w vs[k] xs := Ints.of_own hown
  obtain ⟨a', c', e, _⟩ := hI.parts
  refine ⟨b, off, a', c', rfl, by rw [hc k (by omega), hv, e], ?_, by rw [← e]; exact hI⟩
  exact hI.le
def dkH (kind : Int) (xs : List Int) : Bool := kind == 1 || (kind == 2 && xs.length == 1)
def dkI (kind : Int) (xss : List (List Int)) (i : Nat) : Nat := ((xss.take i).filter (dkH kind)).length
theorem dkI_succ {kind : Int} {xss : List (List Int)} {i : Nat} {xs : List Int} (h : xss[i]? = some xs) : dkI kind xss (i + 1) = dkI kind xss i + if dkH kind xs then 1 else 0 := by
  unfold dkI
  rw [take_snoc h, List.filter_append, List.length_append]
  cases hq : dkH kind xs <;> simp [hq]
theorem dkI_le (kind : Int) (xss : List (List Int)) (i : Nat) : dkI kind xss i ≤ xss.length :=
  Nat.le_trans (List.length_filter_le _ _) (List.length_take_le' _ _)
def dkG (kind : Int) (d : Nat) : Nat := dkI kind (grpL d 0) (grpL d 0).length + if kind == 3 && (grpL d 0).length == 10 then 1 else 0
theorem dkG_le {kind : Int} (hk : kind = 1 ∨ kind = 2 ∨ kind = 3) (d : Nat) : dkG kind d ≤ 10 := by
  have h1 := dkI_le kind (grpL d 0) (grpL d 0).length
  have h2 : (grpL d 0).length ≤ 10 := grpTo_le _ _ _
  unfold dkG
  rcases hk with rfl | rfl | rfl
  · simp; omega
  · simp; omega
  · have : dkI 3 (grpL d 0) (grpL d 0).length = 0 := by unfold dkI; simp [dkH]
    rw [this]; split <;> omega
end Go.Proofs.Ytlipkplomndjcaa
namespace Go.Proofs.Ytlipkplomndjcaa
open Go.RowKit
set_option linter.unusedVariables false
/-- the cells of a box that was made ahead of a call -/
theorem box_after {w w1 : World} {cs : Array Value} {t : TypeId} (hb : Below (w.alloc (.cells cs t)).heap.size (w.alloc (.cells cs t)) w1) :
    (∀ j v, cs[j]? = some v → w1.cell? ⟨w.heap.size, j, none⟩ = some v) ∧ ∀ j, w1.frozen? ⟨w.heap.size, j, none⟩ = false := by
  refine ⟨fun j v h => ?_, fun j => ?_⟩
  · rw [hb.cell (p := ⟨w.heap.size, j, none⟩) (by simp), World.cell?_alloc_at _ _ _ _ rfl]; exact h
  · rw [hb.frozen (p := ⟨w.heap.size, j, none⟩) (by simp), World.frozen?_alloc_new]
theorem two_set {w w2 : World} {b : Nat} {x y : Value} (X Y : Value) (h0 : w2.cell? ⟨b, 0, none⟩ = some x) (h1 : w2.cell? ⟨b, 1, none⟩ = some y) (hb : Below w.heap.size w w2) (hbb : w.heap.size ≤ b) :
    ((w2.setCell ⟨b, 0, none⟩ X).setCell ⟨b, 1, none⟩ Y).cell? ⟨b, 0, none⟩ = some X ∧ ((w2.setCell ⟨b, 0, none⟩ X).setCell ⟨b, 1, none⟩ Y).cell? ⟨b, 1, none⟩ = some Y ∧ Below w.heap.size w ((w2.setCell ⟨b, 0, none⟩ X).setCell ⟨b, 1, none⟩ Y) := by
  refine ⟨?_, ?_, (hb.setCell hbb _).setCell hbb _⟩
  · rw [World.cell?_setCell_other _ _ _ _ (by simp)]; exact World.cell?_setCell_same _ _ _ h0
  · exact World.cell?_setCell_same _ _ _ (u := y) (by rw [World.cell?_setCell_other _ _ _ _ (by simp)]; exact h1)
end Go.Proofs.Ytlipkplomndjcaa
