/- Texts of this claim, gathered: Groups, Ones, State, Frac, Dark, Dark2, Box, Told, Mem, Del. -/
import Derived.Test.YtfbnmkpkihfocaaK2
import Derived.Deep.RegionHeld3
import Derived.Deep.MidRow
namespace Go.Proofs.Ytfbnmkpkihfocaa
open Go.RowKit
set_option linter.unusedVariables false
set_option maxRecDepth 100000
abbrev ints (xs : List Int) : List Value := xs.map (Value.int .i64)
/-- slices of ints of the call's own, one beside the other, none over another's array -/
def Inn (w : World) (lo : Nat) (vs : List Value) (xss : List (List Int)) : Prop :=
  vs.length = xss.length ∧ (∀ (k : Nat) (v : Value) (xs : List Int), vs[k]? = some v → xss[k]? = some xs → w.ownsRow lo 3 1 v xs.length (ints xs)) ∧
  (∀ (i j : Nat) (a b : Value), i < j → vs[i]? = some a → vs[j]? = some b → b.ownBlock = none ∨ b.ownBlock ≠ a.ownBlock)
/-- a slice of such slices -/
def OwnSS (w : World) (lo : Nat) (u : Value) (xss : List (List Int)) : Prop :=
  ∃ vs, w.ownsRow lo 27 1 u xss.length vs ∧ Inn w lo vs xss
theorem own_ne_type {w : World} {lo lo' size size' n n' : Nat} {e e' : TypeId} {v v' : Value} {xs xs' : List Value} (h : w.ownsRow lo e size v n xs) (h' : w.ownsRow lo' e' size' v' n' xs') (hne : e ≠ e') : v.ownBlock = none ∨ v.ownBlock ≠ v'.ownBlock := by
  rcases h.2 with ⟨rfl, _⟩ | ⟨g, c, cur, rfl, _, hg, _⟩
  · exact .inl rfl
  · rcases h'.2 with ⟨rfl, _⟩ | ⟨g', c', cur', rfl, _, hg', _⟩
    · right; simp [Value.ownBlock]
    · right
      intro e0
      simp [Value.ownBlock] at e0
      subst e0
      rw [hg] at hg'
      injection hg' with h1; injection h1 with _ h2; exact hne h2
theorem Inn.nil_ (w : World) (lo : Nat) : Inn w lo [] [] := ⟨rfl, fun k v xs h => by simp at h, fun i j a b _ h => by simp at h⟩
theorem Inn.keep {w w' : World} {lo : Nat} {vs : List Value} {xss : List (List Int)} (h : Inn w lo vs xss) (hb : Below w.heap.size w w') : Inn w' lo vs xss :=
  ⟨h.1, fun k v xs h1 h2 => own_keep (h.2.1 k v xs h1 h2) hb, h.2.2⟩
/-- kept while another row (of another type of element) is written -/
theorem Inn.grown {w w' : World} {lo lo' size n : Nat} {e : TypeId} {u : Value} {us : List Value} {vs : List Value} {xss : List (List Int)} (h : Inn w lo vs xss) (ho : w.ownsRow lo' e size u n us) (hne : (3 : Nat) ≠ e) (hg : w.grownBy w' u.ownBlock) : Inn w' lo vs xss :=
  ⟨h.1, fun k v xs h1 h2 => (h.2.1 k v xs h1 h2).kept hg (own_ne_type (h.2.1 k v xs h1 h2) ho hne), h.2.2⟩
theorem Inn.snoc {w : World} {lo lo2 : Nat} {vs : List Value} {xss : List (List Int)} {v : Value} {xs : List Int} (h : Inn w lo vs xss) (hv : w.ownsRow lo2 3 1 v xs.length (ints xs)) (hl : lo ≤ lo2)
    (hnew : ∀ (k : Nat) (a : Value), vs[k]? = some a → ∀ g, a.ownBlock = some g → g < lo2) : Inn w lo (vs ++ [v]) (xss ++ [xs]) := by
  refine ⟨by simp [h.1], fun k a ys h1 h2 => ?_, fun i j a b hij h1 h2 => ?_⟩
  · by_cases hk : k < vs.length
    · rw [List.getElem?_append_left hk] at h1
      rw [List.getElem?_append_left (by rw [← h.1]; exact hk)] at h2
      exact h.2.1 k a ys h1 h2
    · rw [List.getElem?_append_right (by omega)] at h1
      rw [List.getElem?_append_right (by rw [← h.1]; omega)] at h2
      have hk0 : k - vs.length = 0 := by
        by_cases hz : k - vs.length = 0
        · exact hz
        · rw [List.getElem?_eq_none (by simp; omega)] at h1; cases h1
      have hk1 : k - xss.length = 0 := by rw [← h.1]; exact hk0
      rw [hk0] at h1; rw [hk1] at h2
      simp at h1 h2
      subst h1 h2
      exact own_lo hv hl
  · by_cases hj : j < vs.length
    · rw [List.getElem?_append_left (by omega)] at h1
      rw [List.getElem?_append_left hj] at h2
      exact h.2.2 i j a b hij h1 h2
    · rw [List.getElem?_append_right (by omega)] at h2
      have hj0 : j - vs.length = 0 := by
        by_cases hz : j - vs.length = 0
        · exact hz
        · rw [List.getElem?_eq_none (by simp; omega)] at h2; cases h2
      rw [hj0] at h2; simp at h2; subst h2
      rw [List.getElem?_append_left (by omega)] at h1
      cases hb : v.ownBlock with
      | none => exact .inl rfl
      | some g =>
        right; intro e
        have h3 := (hv.lt g hb).1
        have h4 := hnew i a h1 g e.symm
        omega
theorem Inn.lt {w : World} {lo : Nat} {vs : List Value} {xss : List (List Int)} (h : Inn w lo vs xss) : ∀ (k : Nat) (a : Value), vs[k]? = some a → ∀ g, a.ownBlock = some g → g < w.heap.size := by
  intro k a ha g hg
  have hk : k < xss.length := by rw [← h.1]; exact (List.getElem?_eq_some_iff.1 ha).1
  exact ((h.2.1 k a _ ha (List.getElem?_eq_getElem hk)).lt g hg).2

/-! the groups -/
def grpOf (d l x : Int) : List Int := digL d l (shC d l (dg x))
def isHead (d l x : Int) : Bool := (grpOf d l x).headD (-1) == x
def grpTo (d l : Int) (n : Nat) : List (List Int) := ((tenI.take n).filter (isHead d l)).map (grpOf d l)
def grpL (d l : Int) : List (List Int) := grpTo d l 10
theorem grpTo_le (d l : Int) (n : Nat) : (grpTo d l n).length ≤ 10 := by
  unfold grpTo
  rw [List.length_map]
  exact Nat.le_trans (List.length_filter_le _ _) (by rw [List.length_take]; simp [tenI]; omega)
theorem grpTo_succ (d l : Int) {n : Nat} (h : n < 10) : grpTo d l (n + 1) = grpTo d l n ++ if isHead d l n then [grpOf d l n] else [] := by
  unfold grpTo
  rw [take_snoc (tenI_at h), List.filter_append, List.map_append]
  cases hq : isHead d l n <;> simp [hq]
theorem grpOf_head {d l : Int} {n : Nat} (h : n < 10) : (grpOf d l n)[0]? = some ((grpOf d l n).headD (-1)) := by
  have hm : (n : Int) ∈ grpOf d l n := by
    unfold grpOf digL
    rw [List.mem_filter]
    exact ⟨List.mem_of_getElem? (tenI_at h), by simp⟩
  cases hg : grpOf d l n with
  | nil => rw [hg] at hm; simp at hm
  | cons a t => simp
theorem ownss_snoc (xs : List Value) (v : Value) : xs ++ [v] = xs ++ [v] := rfl
theorem info_ints : (Try.prog.info? 27).map (fun i => (i.zero, i.size, i.bytes)) = some (some (.slice none 0 0), 1, 24) := by kernel_rfl
theorem groups_c (d l : Int) (w : World) (d0 : 0 ≤ d) (d1 : d ≤ 127) (l0 : 0 ≤ l) (l1 : l ≤ 127) :
    Calls Try.prog 46 #[.agg #[.int .i64 d, .int .i64 l]] w fun e w' => ∃ u, e = .returned u ∧ OwnSS w' w.heap.size u (grpL d l) ∧ Below w.heap.size w w' := by
  obtain ⟨i, hi, hz0, hz1, hz2⟩ := info_parts info_ints
  have q0 : (w.alloc (.cells #[.int .i64 d, .int .i64 l] 25)).cell? ⟨w.heap.size, 0, none⟩ = some (.int .i64 d) := by rw [World.cell?_alloc_at _ _ _ _ rfl]; rfl
  have q1 : (w.alloc (.cells #[.int .i64 d, .int .i64 l] 25)).cell? ⟨w.heap.size, 1, none⟩ = some (.int .i64 l) := by rw [World.cell?_alloc_at _ _ _ _ rfl]; rfl
  have hb0 := below_one (w := w) (.cells #[.int .i64 d, .int .i64 l] 25)
  go_enter Try.func46, Try.ntmps46
  go_wp2_with fail
  refine (digitCells_c _).mono ?_
  rintro e w1 ⟨rfl, hb1⟩
  have r0 := cell_later hb1 q0
  have r1 := cell_later hb1 q1
  have hb2 := Below.chain hb0 hb1
  clear q0 q1 hb0 hb1
  go_wp2
  go_loopw [3, 4, 5, 6, 8] (fun o _ _ _ j wr => ∃ (k : Nat) (vs : List Value), k ≤ 10 ∧ j = .int .i64 (k : Int) ∧ wr.ownsRow (w.heap.size + 1) 27 1 o (grpTo d l k).length vs ∧ Inn wr (w.heap.size + 1) vs (grpTo d l k) ∧ Below w.heap.size w wr ∧ w.heap.size + 1 ≤ wr.heap.size ∧ wr.cell? ⟨w.heap.size, 0, none⟩ = some (.int .i64 d) ∧ wr.cell? ⟨w.heap.size, 1, none⟩ = some (.int .i64 l)) (fun _ _ _ _ j _ => 11 - (intOf j).toNat)
  case atStart => exact ⟨0, [], by omega, rfl, World.ownsRow_nil _ _ _ _, Inn.nil_ _ _, hb2, World.block_lt_of_cell? _ _ r0, r0, r1⟩
  case round =>
    obtain ⟨k, vs, hk, rfl, ho, hin, hb, hsz, g0, g1⟩ := hrel
    clear r0 r1 hb2
    by_cases hlt : k < 10
    · have hd : decide ((k : Int) < 10) = true := by simp; omega
      have hix := fun w => index_dig (k : Int) (by omega) (by omega) w
      have bdx := dg_bd (k : Int)
      have hsc := grpTo_succ d l hlt
      have hle := grpTo_le d l k
      have hh := grpOf_head (d := d) (l := l) hlt
      generalize grpTo d l k = cur at *
      have HS := Lib.hid hsc; have HH := Lib.hid hh; clear hsc hh
      go_wp2_with fail
      go_region_held3 (fun w' => w'.cell? ⟨w.heap.size, 0, none⟩ = some (.int .i64 d) ∧ w'.cell? ⟨w.heap.size, 1, none⟩ = some (.int .i64 l))
        (first | go_keep | (go_split_ands; exact ⟨cell_later hb3 (by assumption), cell_later hb3 (by assumption)⟩) | (go_split_ands; exact ⟨cell_later hb4 (by assumption), cell_later hb4 (by assumption)⟩))
        (first | (go_at_call 70; refine (shown_c d l (dg k) d0 d1 l0 l1 bdx.1 bdx.2 _).mono ?_; rintro e w' ⟨rfl, hb3⟩) | (go_at_call 59; refine (digits_c d l (shC d l (dg k)) _ d0 d1 l0 l1).mono ?_; rintro e w'' ⟨ug, rfl, hog, hb4⟩))
      have g02 : w''.cell? ⟨w.heap.size, 0, none⟩ = some (.int .i64 d) := by go_split_ands; assumption
      have g12 : w''.cell? ⟨w.heap.size, 1, none⟩ = some (.int .i64 l) := by go_split_ands; assumption
      have hb34 : Below wr.heap.size wr w'' := Below.chain (Below.chain (Below.refl _ _).drew hb3) hb4
      have hsz3 : wr.heap.size ≤ w'.heap.size := hb3.size
      have hb5 := Below.chain hb hb34
      have ho2 := own_keep ho hb34
      have hin2 := hin.keep hb34
      have hsz2 := Nat.le_trans hsz hb34.size
      have hlt0 := hin.lt
      have hog2 : w''.ownsRow w'.heap.size 3 1 ug (grpOf d l k).length (ints (grpOf d l k)) := hog
      obtain ⟨a3, c3, hu3, hc3, hcm3, H3⟩ := (Ints.of_own hog2).parts
      obtain ⟨b3, o3, e3, g3⟩ := H3.out 0 _ HH.out
      subst hu3 e3
      simp only [Nat.add_zero] at g3
      have hpos : 0 < (grpOf d l (k : Int)).length := (List.getElem?_eq_some_iff.1 HH.out).1
      have hposI : (0 : Int) < ((grpOf d l (k : Int)).length : Int) := by omega
      clear hog ho hin hb hb3 hb4 hb34 g0 g1 H3 HH hix
      rcases hq : isHead d l (k : Int) with _ | _
      · have hqb : (((grpOf d l (k : Int)).headD (-1)) == (k : Int)) = false := hq
        have hS2 : grpTo d l (k + 1) = cur := by rw [HS.out]; simp [hq]
        have HS2 := Lib.hid hS2; clear hS2 HS hq
        generalize (grpOf d l (k : Int)).headD (-1) = hx at *
        go_wp2
        go_roundw
        case rel => exact ⟨k + 1, vs, by omega, by go_num, by rw [HS2.out]; exact ho2, by rw [HS2.out]; exact hin2, hb5, hsz2, g02, g12⟩
        case measure => simp [intOf]; omega
      · have hqb : (((grpOf d l (k : Int)).headD (-1)) == (k : Int)) = true := hq
        have hS2 : grpTo d l (k + 1) = cur ++ [grpOf d l k] := by rw [HS.out]; simp [hq]
        have HS2 := Lib.hid hS2; clear hS2 HS hq
        have hin3 := hin2.snoc hog2 (by omega) (fun k a ha g hg => Nat.lt_of_lt_of_le (hlt0 k a ha g hg) hsz3)
        generalize hG : (grpOf d l (k : Int)).headD (-1) = hx at *
        clear hG
        generalize grpOf d l (k : Int) = G at *
        go_wp2_with (at_builtin; refine wpList_append_own_at _ rfl _ _ 30 rfl (w.heap.size + 1) 27 i (.slice none 0 0) 1 24 Try.underlying30 hi hz0 hz1 hz2 rfl (by decide) _ cur.length vs rfl (ho2.alloc _) ⟨w''.heap.size, 0, none⟩ 1 1 [.slice (some ⟨b3, o3, none⟩) G.length c3] rfl rfl (news_new _ [.slice (some ⟨b3, o3, none⟩) G.length c3] _) (by simp [Value.oneCell']) (by unfold maxLen; omega) (by omega) (by simp; omega) ?_)
        intro v' w3 ho5 hg5 _ _
        have hlt2 := World.block_lt_of_cell? _ _ g02
        have hb7 : Below w.heap.size w w3 := (Below.alc hb5 _).grown hg5 (by have := hb5.size; simp; omega) (fun g hg => by have := (ho2.lt g hg).1; omega)
        have hkeep : ∀ o v, w''.cell? ⟨w.heap.size, o, none⟩ = some v → w3.cell? ⟨w.heap.size, o, none⟩ = some v := fun o v h =>
          hg5.cell (cell_later (below_one _) h) (fun e => by have := (ho2.lt _ e.symm).1; simp at this; omega)
        have g03 := hkeep _ _ g02
        have g13 := hkeep _ _ g12
        have hin5 : Inn w3 (w.heap.size + 1) (vs ++ [.slice (some ⟨b3, o3, none⟩) G.length c3]) (cur ++ [G]) := (hin3.keep (below_one _)).grown (ho2.alloc _) (by decide) hg5
        have hsz3' : w.heap.size + 1 ≤ w3.heap.size := Nat.le_trans (by simp; omega) hg5.size
        clear ho2 hb5 hg5 g02 g12 hkeep hlt2 hsz2 hin2 hin3 hog2 hlt0 g3
        go_wp2
        go_roundw
        case rel => exact ⟨k + 1, _, by omega, by go_num, by rw [HS2.out]; exact ownsRow_cast ho5 (by simp) rfl, by rw [HS2.out]; exact hin5, hb7, hsz3', g03, g13⟩
        case measure => simp [intOf]; omega
    · obtain rfl : k = 10 := by omega
      go_wp2
      go_ret
      exact ⟨_, rfl, ⟨vs, own_lo ho (by omega), ⟨hin.1, fun k v xs h1 h2 => own_lo (hin.2.1 k v xs h1 h2) (by omega), hin.2.2⟩⟩, hb⟩
theorem l3Groups_c (d l : Int) (w : World) (d0 : 0 ≤ d) (d1 : d ≤ 127) (l0 : 0 ≤ l) (l1 : l ≤ 127) :
    Calls Try.prog 48 #[.agg #[.int .i64 d, .int .i64 l]] w fun e w' => ∃ u, e = .returned u ∧ OwnSS w' w.heap.size u (grpL d l) ∧ Below w.heap.size w w' := by
  obtain ⟨i, hi, hz0, hz1, hz2⟩ := info_parts info_ints
  have q0 : (w.alloc (.cells #[.int .i64 d, .int .i64 l] 25)).cell? ⟨w.heap.size, 0, none⟩ = some (.int .i64 d) := by rw [World.cell?_alloc_at _ _ _ _ rfl]; rfl
  have q1 : (w.alloc (.cells #[.int .i64 d, .int .i64 l] 25)).cell? ⟨w.heap.size, 1, none⟩ = some (.int .i64 l) := by rw [World.cell?_alloc_at _ _ _ _ rfl]; rfl
  have hb0 := below_one (w := w) (.cells #[.int .i64 d, .int .i64 l] 25)
  have r0 := cell_later (below_one (.cells #[] 27)) q0
  have r1 := cell_later (below_one (.cells #[] 27)) q1
  have hb2 : Below w.heap.size w ((w.alloc (.cells #[.int .i64 d, .int .i64 l] 25)).alloc (.cells #[] 27)) := by (repeat (first | exact Below.refl _ _ | exact (Below.refl _ _).drew | assumption | exact below_one _ | refine Below.chain ?_ (by assumption) | refine Below.drew ?_ | refine Below.alc ?_ _ | refine below_drewN ?_ | (refine Below.setCell ?_ ?_ _) | exact Nat.le_refl _ | (simp; done) | (simp; omega)))
  have ho0 := World.ownsRow_lit (e := 27) (size := 1) (base := w.heap.size + 1) (w.alloc (.cells #[.int .i64 d, .int .i64 l] 25)) #[] 0 (by simp) (by decide) rfl
  rw [show (w.alloc (.cells #[.int .i64 d, .int .i64 l] 25)).heap.size = w.heap.size + 1 by simp] at ho0
  clear q0 q1 hb0
  go_enter Try.func48, Try.ntmps48
  go_wp2
  go_loopw [3, 4, 5] (fun o j _ wr => ∃ (k : Nat) (vs : List Value), k ≤ 10 ∧ j = .int .i64 (k : Int) ∧ wr.ownsRow (w.heap.size + 1) 27 1 o (grpTo d l k).length vs ∧ Inn wr (w.heap.size + 1) vs (grpTo d l k) ∧ Below w.heap.size w wr ∧ w.heap.size + 1 ≤ wr.heap.size ∧ wr.cell? ⟨w.heap.size, 0, none⟩ = some (.int .i64 d) ∧ wr.cell? ⟨w.heap.size, 1, none⟩ = some (.int .i64 l)) (fun _ j _ _ => 11 - (intOf j).toNat)
  case atStart => exact ⟨0, [], by omega, rfl, ho0, Inn.nil_ _ _, hb2, World.block_lt_of_cell? _ _ r0, r0, r1⟩
  case round =>
    obtain ⟨k, vs, hk, rfl, ho, hin, hb, hsz, g0, g1⟩ := hrel
    clear r0 r1 hb2 ho0
    by_cases hlt : k < 10
    · have hd : decide ((k : Int) < 10) = true := by simp; omega
      have bdx := dg_bd (k : Int)
      have hsc := grpTo_succ d l hlt
      have hle := grpTo_le d l k
      have hh := grpOf_head (d := d) (l := l) hlt
      generalize grpTo d l k = cur at *
      have HS := Lib.hid hsc; have HH := Lib.hid hh; clear hsc hh
      go_wp2_with fail
      go_region_held3 (fun w' => w'.cell? ⟨w.heap.size, 0, none⟩ = some (.int .i64 d) ∧ w'.cell? ⟨w.heap.size, 1, none⟩ = some (.int .i64 l))
        (first | go_keep | (go_split_ands; exact ⟨cell_later hb4 (by assumption), cell_later hb4 (by assumption)⟩) | (go_split_ands; exact ⟨cell_later hb3 (by assumption), cell_later hb3 (by assumption)⟩) | (go_split_ands; exact ⟨cell_later hb9 (by assumption), cell_later hb9 (by assumption)⟩))
        (first | (go_at_call 55; refine (l2Digit_c (k : Int) (by omega) (by omega) _).mono ?_; rintro e w9 ⟨rfl, hb9⟩) | (go_at_call 54; refine (l3Shown_c d l (dg k) d0 d1 l0 l1 bdx.1 bdx.2 _).mono ?_; rintro e w' ⟨rfl, hb3⟩) | (go_at_call 61; refine (l3Digits_c d l (shC d l (dg k)) _ d0 d1 l0 l1).mono ?_; rintro e w'' ⟨ug, rfl, hog, hb4⟩))
      have g02 : w''.cell? ⟨w.heap.size, 0, none⟩ = some (.int .i64 d) := by go_split_ands; assumption
      have g12 : w''.cell? ⟨w.heap.size, 1, none⟩ = some (.int .i64 l) := by go_split_ands; assumption
      have hb34 : Below wr.heap.size wr w'' := Below.chain (Below.chain (Below.chain (Below.refl _ _).drew hb9) hb3) hb4
      have hsz3 : wr.heap.size ≤ w'.heap.size := Nat.le_trans hb9.size hb3.size
      have hb5 := Below.chain hb hb34
      have ho2 := own_keep ho hb34
      have hin2 := hin.keep hb34
      have hsz2 := Nat.le_trans hsz hb34.size
      have hlt0 := hin.lt
      have hog2 : w''.ownsRow w'.heap.size 3 1 ug (grpOf d l k).length (ints (grpOf d l k)) := hog
      obtain ⟨a3, c3, hu3, hc3, hcm3, H3⟩ := (Ints.of_own hog2).parts
      obtain ⟨b3, o3, e3, g3⟩ := H3.out 0 _ HH.out
      subst hu3 e3
      simp only [Nat.add_zero] at g3
      have hpos : 0 < (grpOf d l (k : Int)).length := (List.getElem?_eq_some_iff.1 HH.out).1
      have hposI : (0 : Int) < ((grpOf d l (k : Int)).length : Int) := by omega
      clear hog ho hin hb hb3 hb9 hb4 hb34 g0 g1 H3 HH
      rcases hq : isHead d l (k : Int) with _ | _
      · have hqb : (((grpOf d l (k : Int)).headD (-1)) == (k : Int)) = false := hq
        have hS2 : grpTo d l (k + 1) = cur := by rw [HS.out]; simp [hq]
        have HS2 := Lib.hid hS2; clear hS2 HS hq
        generalize (grpOf d l (k : Int)).headD (-1) = hx at *
        go_wp2
        go_roundw
        case rel => exact ⟨k + 1, vs, by omega, by go_num, by rw [HS2.out]; exact ho2, by rw [HS2.out]; exact hin2, hb5, hsz2, g02, g12⟩
        case measure => simp [intOf]; omega
      · have hqb : (((grpOf d l (k : Int)).headD (-1)) == (k : Int)) = true := hq
        have hS2 : grpTo d l (k + 1) = cur ++ [grpOf d l k] := by rw [HS.out]; simp [hq]
        have HS2 := Lib.hid hS2; clear hS2 HS hq
        have hin3 := hin2.snoc hog2 (by omega) (fun k a ha g hg => Nat.lt_of_lt_of_le (hlt0 k a ha g hg) hsz3)
        generalize hG : (grpOf d l (k : Int)).headD (-1) = hx at *
        clear hG
        generalize grpOf d l (k : Int) = G at *
        go_wp2_with (at_builtin; refine wpList_append_own_at _ rfl _ _ 30 rfl (w.heap.size + 1) 27 i (.slice none 0 0) 1 24 Try.underlying30 hi hz0 hz1 hz2 rfl (by decide) _ cur.length vs rfl (ho2.alloc _) ⟨w''.heap.size, 0, none⟩ 1 1 [.slice (some ⟨b3, o3, none⟩) G.length c3] rfl rfl (news_new _ [.slice (some ⟨b3, o3, none⟩) G.length c3] _) (by simp [Value.oneCell']) (by unfold maxLen; omega) (by omega) (by simp; omega) ?_)
        intro v' w3 ho5 hg5 _ _
        have hlt2 := World.block_lt_of_cell? _ _ g02
        have hb7 : Below w.heap.size w w3 := (Below.alc hb5 _).grown hg5 (by have := hb5.size; simp; omega) (fun g hg => by have := (ho2.lt g hg).1; omega)
        have hkeep : ∀ o v, w''.cell? ⟨w.heap.size, o, none⟩ = some v → w3.cell? ⟨w.heap.size, o, none⟩ = some v := fun o v h =>
          hg5.cell (cell_later (below_one _) h) (fun e => by have := (ho2.lt _ e.symm).1; simp at this; omega)
        have g03 := hkeep _ _ g02
        have g13 := hkeep _ _ g12
        have hin5 : Inn w3 (w.heap.size + 1) (vs ++ [.slice (some ⟨b3, o3, none⟩) G.length c3]) (cur ++ [G]) := (hin3.keep (below_one _)).grown (ho2.alloc _) (by decide) hg5
        have hsz3' : w.heap.size + 1 ≤ w3.heap.size := Nat.le_trans (by simp; omega) hg5.size
        clear ho2 hb5 hg5 g02 g12 hkeep hlt2 hsz2 hin2 hin3 hog2 hlt0 g3
        go_wp2
        go_roundw
        case rel => exact ⟨k + 1, _, by omega, by go_num, by rw [HS2.out]; exact ownsRow_cast ho5 (by simp) rfl, by rw [HS2.out]; exact hin5, hb7, hsz3', g03, g13⟩
        case measure => simp [intOf]; omega
    · obtain rfl : k = 10 := by omega
      go_wp2
      go_ret
      exact ⟨_, rfl, ⟨vs, own_lo ho (by omega), ⟨hin.1, fun k v xs h1 h2 => own_lo (hin.2.1 k v xs h1 h2) (by omega), hin.2.2⟩⟩, hb⟩
theorem isHarmless_c (d l : Int) (w : World) (d0 : 0 ≤ d) (d1 : d ≤ 127) (l0 : 0 ≤ l) (l1 : l ≤ 127) :
    Calls Try.prog 51 #[.agg #[.int .i64 d, .int .i64 l]] w fun e w' => e = .returned (.bool (decide ((grpL d l).length = 10))) ∧ Below w.heap.size w w' := by
  go_enter Try.func51, Try.ntmps51
  go_wp2_with fail
  refine (groups_c d l _ d0 d1 l0 l1).mono ?_
  rintro e w1 ⟨u, rfl, ho, hb⟩
  obtain ⟨vs, hov, hin⟩ := ho
  obtain ⟨a, c, rfl, _⟩ := (Sl.of_own hov).slice
  go_wp2
  go_ret
  refine ⟨bool_ret ?_, by (repeat (first | exact Below.refl _ _ | exact (Below.refl _ _).drew | assumption | exact below_one _ | refine Below.chain ?_ (by assumption) | refine Below.drew ?_ | refine Below.alc ?_ _ | refine below_drewN ?_ | (refine Below.setCell ?_ ?_ _) | exact Nat.le_refl _ | (simp; done) | (simp; omega)))⟩
  rw [Bool.eq_iff_iff]; simp; omega
end Go.Proofs.Ytfbnmkpkihfocaa
namespace Go.Proofs.Ytfbnmkpkihfocaa
open Go.RowKit
set_option linter.unusedVariables false
set_option maxRecDepth 100000
/-- the number of bars of a cell that light -/
def cnt (c : Int) : Int := ((List.range 7).map fun (i : Nat) => ((c.toNat / 2 ^ i % 2 : Nat) : Int)).sum
def on1 (x : Int) : Int := IntKind.u64.wrap (bits .and .u64 (x / 2) 6148914691236517205 + bits .and .u64 x 6148914691236517205)
def on2 (x : Int) : Int := IntKind.u64.wrap (bits .and .u64 (x / 4) 3689348814741910323 + bits .and .u64 x 3689348814741910323)
def on3 (x : Int) : Int := bits .and .u64 (IntKind.u64.wrap (x / 16 + x)) 1085102592571150095
def on4 (x : Int) : Int := IntKind.u64.wrap (x + x / 256)
def on5 (x : Int) : Int := IntKind.u64.wrap (x + x / 65536)
def on6 (x : Int) : Int := IntKind.u64.wrap (x + x / 4294967296)
def onesF (x : Int) : Int := on6 (on5 (on4 (on3 (on2 (on1 x)))))
theorem onesF_all : ∀ c : Fin 128, onesF (c.1 : Int) = cnt (c.1 : Int) ∧ 0 ≤ cnt (c.1 : Int) ∧ cnt (c.1 : Int) ≤ 7 ∧ bits .and .i64 (wrap64 (cnt (c.1 : Int))) 127 = cnt (c.1 : Int) := by decide +kernel
theorem Ones64_c (c : Nat) (hc : c < 128) (w : World) : Calls Try.prog 103 #[.int .u64 c] w fun e w' => e = .returned (.int .i64 (cnt c)) ∧ w = w' := by
  have h0 : (0 : Int) ≤ c := by omega
  have h1 : (c : Int) ≤ 127 := by omega
  have H := Lib.hid (onesF_all ⟨c, hc⟩)
  go_enter Try.func103, Try.ntmps103
  go_wp2
  go_ret
  refine ⟨?_, rfl⟩
  refine int_ret ?_
  show bits .and .i64 (wrap64 (onesF (c : Int))) 127 = cnt (c : Int)
  rw [H.out.1]; exact H.out.2.2.2
theorem Ones_c (c : Nat) (hc : c < 128) (w : World) : Calls Try.prog 90 #[.int .u64 c] w fun e w' => e = .returned (.int .i64 (cnt c)) ∧ w = w' := by
  have h0 : (0 : Int) ≤ c := by omega
  have h1 : (c : Int) ≤ 127 := by omega
  go_enter Try.func90, Try.ntmps90
  go_wp2_with fail
  refine (Ones64_c c hc _).mono ?_
  rintro e w' ⟨rfl, rfl⟩
  go_wp2
  go_ret
  exact ⟨rfl, rfl⟩
theorem count_c (c : Int) (h0 : 0 ≤ c) (h1 : c ≤ 127) (w : World) : Calls Try.prog 65 #[.int .i64 c] w fun e w' => e = .returned (.int .i64 (cnt c)) ∧ w = w' := by
  obtain ⟨n, rfl⟩ := Int.eq_ofNat_of_zero_le h0
  go_enter Try.func65, Try.ntmps65
  go_wp2_with fail
  refine (Ones_c n (by omega) _).mono ?_
  rintro e w' ⟨rfl, rfl⟩
  go_wp2
  go_ret
  exact ⟨rfl, rfl⟩
def cntTo (c : Int) (k : Nat) : Int := ((List.range k).map fun (i : Nat) => ((c.toNat / 2 ^ i % 2 : Nat) : Int)).sum
theorem cntTo_fin : ∀ (c : Fin 128) (k : Fin 7), cntTo (c.1 : Int) (k.1 + 1) = cntTo (c.1 : Int) k.1 + ((c.1 / 2 ^ k.1 % 2 : Nat) : Int) ∧ 0 ≤ cntTo (c.1 : Int) k.1 ∧ cntTo (c.1 : Int) k.1 ≤ 7 := by decide +kernel
theorem bit_at (n k : Nat) (hn : n < 128) : bits .and .i64 ((n : Int) / 2 ^ k) 1 = ((n / 2 ^ k % 2 : Nat) : Int) := by
  have e : ((n : Int) / 2 ^ k) = ((n / 2 ^ k : Nat) : Int) := by simp
  have hle : n / 2 ^ k ≤ n := Nat.div_le_self _ _
  rw [e, show (1 : Int) = ((1 : Nat) : Int) from rfl, i64_and_nat _ 1 (by omega) (by omega), Nat.and_one_is_mod]
theorem l2Count_c (c : Int) (h0 : 0 ≤ c) (h1 : c ≤ 127) (w : World) : Calls Try.prog 91 #[.int .i64 c] w fun e w' => e = .returned (.int .i64 (cnt c)) ∧ w = w' := by
  obtain ⟨n, rfl⟩ := Int.eq_ofNat_of_zero_le h0
  go_enter Try.func91, Try.ntmps91
  go_wp2
  go_loopw [3, 4] (fun m j wr => ∃ k : Nat, k ≤ 7 ∧ j = .int .i64 (k : Int) ∧ m = .int .i64 (cntTo (n : Int) k) ∧ w = wr) (fun _ j _ => 8 - (intOf j).toNat)
  case atStart => exact ⟨0, by omega, rfl, rfl, by trivial⟩
  case round =>
    obtain ⟨k, hk, rfl, rfl, rfl⟩ := hrel
    by_cases hlt : k < 7
    · have hd : decide ((k : Int) < 7) = true := by simp; omega
      have hf := cntTo_fin ⟨n, by omega⟩ ⟨k, hlt⟩
      simp only at hf
      obtain ⟨hS, hb0, hb1⟩ := hf
      have HS := Lib.hid hS; clear hS
      generalize cntTo (n : Int) k = m at *
      go_wp2
      exact ⟨⟨k + 1, by omega, by go_num, by
        rw [HS.out, bit_at n k (by omega)]
        exact int_val (by have : n / 2 ^ k % 2 < 2 := Nat.mod_lt _ (by omega); simp only [wrap64]; omega), trivial⟩, by simp [intOf]; omega⟩
    · obtain rfl : k = 7 := by omega
      go_wp2
      go_ret
      exact ⟨rfl, rfl⟩
end Go.Proofs.Ytfbnmkpkihfocaa
namespace Go.Proofs.Ytfbnmkpkihfocaa
open Go.RowKit
set_option linter.unusedVariables false

def faultV (bar kind : Int) : Value := .agg #[.int .i64 (stD bar kind), .int .i64 (stL bar kind)]
/-- the place of the first digit of a test that finds a state, or -1 -/
def placeOf (bar kind : Int) (xs : List Int) : Int := firstAt (finds bar kind) xs
/-- what both texts of FirstFinding return -/
def ffOk (xs : List Int) (bar kind : Int) : Bool := testB xs && (stateB bar kind && decide (0 ≤ placeOf bar kind xs))
def ffN (xs : List Int) (bar kind : Int) : Int := if ffOk xs bar kind then placeOf bar kind xs else 0
def firstFindingV (xs : List Int) (bar kind : Int) : Value := .tuple #[.int .i64 (ffN xs bar kind), .bool (ffOk xs bar kind)]

theorem testB_digit {xs : List Int} (ht : testB xs = true) {k : Nat} {x : Int} (hx : xs[k]? = some x) : 0 ≤ x ∧ x ≤ 9 := by
  simp only [testB, Bool.and_eq_true, List.all_eq_true] at ht
  exact digitB_true (ht.2 x (List.mem_of_getElem? hx))
end Go.Proofs.Ytfbnmkpkihfocaa
namespace Go.Proofs.Ytfbnmkpkihfocaa
open Go.RowKit
set_option linter.unusedVariables false
set_option maxRecDepth 100000
def fracN (a b : Nat) : Int := ((a / Nat.gcd a b : Nat) : Int)
def fracD (a b : Nat) : Int := ((b / Nat.gcd a b : Nat) : Int)
def fracV (a b : Nat) : Value := .agg #[.int .i64 (fracN a b), .int .i64 (fracD a b)]
theorem wrapK (n : Int) : IntKind.i64.wrap n = wrap64 n := by
  simp only [IntKind.wrap, IntKind.bits, IntKind.signed, wrap64]; simp; split <;> omega
end Go.Proofs.Ytfbnmkpkihfocaa
namespace Go.Proofs.Ytfbnmkpkihfocaa
open Go.RowKit
set_option linter.unusedVariables false
set_option maxRecDepth 100000
def dkS (g : Nat → Nat) (k : Int) (n : Nat) : Nat := (((List.range n).filter fun d : Nat => cnt (d : Int) == k).map g).sum
def dkM (k : Int) (n : Nat) : Nat := ((List.range n).filter fun d : Nat => cnt (d : Int) == k).length
theorem dkS_succ (g : Nat → Nat) (k : Int) (n : Nat) : dkS g k (n + 1) = dkS g k n + if cnt (n : Int) == k then g n else 0 := by
  unfold dkS
  rw [List.range_succ, List.filter_append, List.map_append, List.sum_append]
  cases h : cnt (n : Int) == k <;> simp [h]
theorem dkM_succ (k : Int) (n : Nat) : dkM k (n + 1) = dkM k n + if cnt (n : Int) == k then 1 else 0 := by
  unfold dkM
  rw [List.range_succ, List.filter_append, List.length_append]
  cases h : cnt (n : Int) == k <;> simp [h]
theorem dkM_le (k : Int) (n : Nat) : dkM k n ≤ n := by
  unfold dkM; exact Nat.le_trans (List.length_filter_le _ _) (by simp)
theorem dkS_le {g : Nat → Nat} (hg : ∀ d, g d ≤ 10) (k : Int) (n : Nat) : dkS g k n ≤ 10 * n := by
  induction n with
  | zero => simp [dkS]
  | succ n ih => rw [dkS_succ]; have := hg n; split <;> omega
theorem dkM_pos : ∀ k : Fin 8, 0 < dkM (k.1 : Int) 128 := by decide +kernel
end Go.Proofs.Ytfbnmkpkihfocaa
namespace Go.Proofs.Ytfbnmkpkihfocaa
open Go.RowKit
set_option linter.unusedVariables false
set_option maxRecDepth 100000
theorem OwnSS.parts {w : World} {lo : Nat} {u : Value} {xss : List (List Int)} (h : OwnSS w lo u xss) : ∃ a c, u = .slice a xss.length c ∧ xss.length ≤ 9223372036854775807 ∧
    Hid (∀ k xs, xss[k]? = some xs → ∃ b off a' c', a = some ⟨b, off, none⟩ ∧ w.cell? ⟨b, off + k, none⟩ = some (.slice a' xs.length c') ∧ xs.length ≤ 9223372036854775807 ∧ Ints w (.slice a' xs.length c') xs) := by
  obtain ⟨vs, ho, hi⟩ := h
  have hle := (Sl.of_own ho).le
  obtain ⟨a, c, rfl, h1, h2, h3, h4⟩ := Sl.of_own ho
  refine ⟨a, c, rfl, hle, fun k xs hk => ?_⟩
  have hlt : k < xss.length := (List.getElem?_eq_some_iff.1 hk).1
  obtain ⟨b, off, rfl, hc⟩ := h4 (by omega)
  have hv : vs[k]? = some vs[k] := List.getElem?_eq_getElem (by rw [hi.1]; exact hlt)
  have hown := hi.2.1 k _ _ hv hk
  have hI : Ints w vs[k] xs := Ints.of_own hown
  obtain ⟨a', c', e, _⟩ := hI.parts
  refine ⟨b, off, a', c', rfl, by rw [hc k (by omega), hv, e], ?_, by rw [← e]; exact hI⟩
  exact hI.le
def dkH (kind : Int) (xs : List Int) : Bool := kind == 1 || (kind == 2 && xs.length == 1)
def dkI (kind : Int) (xss : List (List Int)) (i : Nat) : Nat := ((xss.take i).filter (dkH kind)).length
theorem dkI_succ {kind : Int} {xss : List (List Int)} {i : Nat} {xs : List Int} (h : xss[i]? = some xs) : dkI kind xss (i + 1) = dkI kind xss i + if dkH kind xs then 1 else 0 := by
  unfold dkI
  rw [take_snoc h, List.filter_append, List.length_append]
  cases hq : dkH kind xs <;> simp [hq]
theorem dkI_le (kind : Int) (xss : List (List Int)) (i : Nat) : dkI kind xss i ≤ xss.length :=
  Nat.le_trans (List.length_filter_le _ _) (List.length_take_le' _ _)
def dkG (kind : Int) (d : Nat) : Nat := dkI kind (grpL d 0) (grpL d 0).length + if kind == 3 && (grpL d 0).length == 10 then 1 else 0
theorem dkG_le {kind : Int} (hk : kind = 1 ∨ kind = 2 ∨ kind = 3) (d : Nat) : dkG kind d ≤ 10 := by
  have h1 := dkI_le kind (grpL d 0) (grpL d 0).length
  have h2 : (grpL d 0).length ≤ 10 := grpTo_le _ _ _
  unfold dkG
  rcases hk with rfl | rfl | rfl
  · simp; omega
  · simp; omega
  · have : dkI 3 (grpL d 0) (grpL d 0).length = 0 := by unfold dkI; simp [dkH]
    rw [this]; split <;> omega
end Go.Proofs.Ytfbnmkpkihfocaa
namespace Go.Proofs.Ytfbnmkpkihfocaa
open Go.RowKit
set_option linter.unusedVariables false
/-- the cells of a box that was made ahead of a call -/
theorem box_after {w w1 : World} {cs : Array Value} {t : TypeId} (hb : Below (w.alloc (.cells cs t)).heap.size (w.alloc (.cells cs t)) w1) :
    (∀ j v, cs[j]? = some v → w1.cell? ⟨w.heap.size, j, none⟩ = some v) ∧ ∀ j, w1.frozen? ⟨w.heap.size, j, none⟩ = false := by
  refine ⟨fun j v h => ?_, fun j => ?_⟩
  · rw [hb.cell (p := ⟨w.heap.size, j, none⟩) (by simp), World.cell?_alloc_at _ _ _ _ rfl]; exact h
  · rw [hb.frozen (p := ⟨w.heap.size, j, none⟩) (by simp), World.frozen?_alloc_new]
theorem two_set {w w2 : World} {b : Nat} {x y : Value} (X Y : Value) (h0 : w2.cell? ⟨b, 0, none⟩ = some x) (h1 : w2.cell? ⟨b, 1, none⟩ = some y) (hb : Below w.heap.size w w2) (hbb : w.heap.size ≤ b) :
    ((w2.setCell ⟨b, 0, none⟩ X).setCell ⟨b, 1, none⟩ Y).cell? ⟨b, 0, none⟩ = some X ∧ ((w2.setCell ⟨b, 0, none⟩ X).setCell ⟨b, 1, none⟩ Y).cell? ⟨b, 1, none⟩ = some Y ∧ Below w.heap.size w ((w2.setCell ⟨b, 0, none⟩ X).setCell ⟨b, 1, none⟩ Y) := by
  refine ⟨?_, ?_, (hb.setCell hbb _).setCell hbb _⟩
  · rw [World.cell?_setCell_other _ _ _ _ (by simp)]; exact World.cell?_setCell_same _ _ _ h0
  · exact World.cell?_setCell_same _ _ _ (u := y) (by rw [World.cell?_setCell_other _ _ _ _ (by simp)]; exact h1)
end Go.Proofs.Ytfbnmkpkihfocaa
namespace Go.Proofs.Ytfbnmkpkihfocaa
open Go.RowKit
set_option linter.unusedVariables false
set_option maxRecDepth 100000
theorem headD_of {xs : List Int} {x d : Int} (h : xs[0]? = some x) : xs.headD d = x := by cases xs <;> simp_all
theorem grpL_pos {d l : Int} {k : Nat} {xs : List Int} (h : (grpL d l)[k]? = some xs) : 0 < xs.length := by
  have hm := List.mem_of_getElem? h
  unfold grpL grpTo at hm
  simp only [List.mem_map, List.mem_filter] at hm
  obtain ⟨x, ⟨hx, _⟩, rfl⟩ := hm
  obtain ⟨n, hn, hxn⟩ := List.getElem_of_mem hx
  have hn10 : n < 10 := by rw [List.length_take] at hn; omega
  rw [List.getElem_take] at hxn
  have hx2 : x = (n : Int) := by
    have := tenI_at hn10
    rw [List.getElem?_eq_getElem (by simp [tenI]; omega), hxn] at this
    simpa using this
  subst hx2
  have h0 := grpOf_head (d := d) (l := l) hn10
  exact (List.getElem?_eq_some_iff.1 h0).1
def toldTo (xss : List (List Int)) (k : Nat) : List Int := ((xss.take k).filter fun xs => xs.length == 1).map fun xs => xs.headD 0
theorem toldTo_succ {xss : List (List Int)} {k : Nat} {xs : List Int} (h : xss[k]? = some xs) : toldTo xss (k + 1) = toldTo xss k ++ if xs.length == 1 then [xs.headD 0] else [] := by
  unfold toldTo
  rw [take_snoc h, List.filter_append, List.map_append]
  cases hq : xs.length == 1 <;> simp [hq]
theorem toldTo_len (xss : List (List Int)) (k : Nat) : (toldTo xss k).length = dkI 2 xss k := by
  unfold toldTo dkI; rw [List.length_map]; congr 2
theorem toldTo_le (xss : List (List Int)) (k : Nat) : (toldTo xss k).length ≤ xss.length := by rw [toldTo_len]; exact dkI_le _ _ _
def tdL (d l : Int) : List Int := if faultB d l then toldTo (grpL d l) (grpL d l).length else []
theorem tdL_le (d l : Int) : (tdL d l).length ≤ 10 := by
  unfold tdL; split
  · exact Nat.le_trans (toldTo_le _ _) (grpTo_le _ _ _)
  · simp
theorem ToldDigits_c (d l : Int) (w : World) : Calls Try.prog 7 #[.agg #[.int .i64 d, .int .i64 l]] w (IntsPost w (tdL d l) (faultB d l)) := by
  obtain ⟨i, hi, hz0, hz1, hz2⟩ := info_parts info_int
  rcases ha : faultB d l with _ | _
  · have HL := Lib.hid (show tdL d l = [] by simp [tdL, ha])
    have HA := Lib.hid ha; clear ha
    go_enter Try.func7, Try.ntmps7
    go_wp2_with fail
    refine (IsFault_c d l _).mono ?_
    rintro e w1 ⟨rfl, hb1⟩
    rw [HA.out]
    go_wp2
    go_ret2
    exact IntsPost.mk' HL.out rfl (World.ownsRow_nil _ _ _ _) (Below.chain (below_one _) hb1)
  · have HL := Lib.hid (show tdL d l = toldTo (grpL d l) (grpL d l).length by simp [tdL, ha])
    have bd := faultB_true ha
    have HA := Lib.hid ha; clear ha
    go_enter Try.func7, Try.ntmps7
    go_wp2_with fail
    refine (IsFault_c d l _).mono ?_
    rintro e w1 ⟨rfl, hb1⟩
    rw [HA.out]
    have q0 := (box_after hb1).1 0 _ rfl
    have q1 := (box_after hb1).1 1 _ rfl
    have hb2 := Below.chain (below_one _) hb1
    clear hb1
    go_wp2_with fail
    refine (groups_c d l _ bd.1 bd.2.1 bd.2.2.1 bd.2.2.2.1).mono ?_
    rintro e w2 ⟨u, rfl, ho, hb3⟩
    have hb4 := Below.chain hb2 hb3
    have sz2 := hb4.size
    clear hb3 hb2 q0 q1
    have h10 : (grpL d l).length ≤ 10 := grpTo_le _ _ _
    have HN : Hid (∀ (k : Nat) (xs : List Int), (grpL d l)[k]? = some xs → 0 < xs.length) := fun k xs h => grpL_pos h
    generalize grpL d l = xss at *
    obtain ⟨a, c, rfl, hxl, HC⟩ := ho.parts
    clear ho
    go_wp2
    go_loopw [4, 6, 13] (fun o _ j wr => ∃ k : Nat, k ≤ xss.length ∧ j = .int .i64 (k : Int) ∧ wr.ownsRow w2.heap.size 3 1 o (toldTo xss k).length ((toldTo xss k).map (Value.int .i64)) ∧ Below w.heap.size w wr ∧ Below w2.heap.size w2 wr) (fun _ _ j _ => xss.length - (intOf j).toNat)
    case atStart => exact ⟨0, by omega, rfl, World.ownsRow_nil _ _ _ _, hb4, Below.refl _ _⟩
    case round =>
      obtain ⟨k, hk, rfl, ho, hb, hb5⟩ := hrel
      clear hb4
      by_cases hlt : k < xss.length
      · have hd : decide ((k : Int) < (xss.length : Int)) = true := by simp; omega
        obtain ⟨xs, hx⟩ := elem_at hlt
        obtain ⟨b, off, a', c', rfl, f0, hxsl, hI⟩ := HC.out k xs hx.out
        have hpos := HN.out k xs hx.out
        obtain ⟨a2, c2, he, _, _, HI⟩ := hI.parts
        obtain ⟨x0, hx0⟩ := elem_at hpos
        obtain ⟨b3, o3, e3, f1⟩ := HI.out 0 _ hx0.out
        have hhd : xs.headD 0 = x0 := headD_of hx0.out
        injection he with he1 he2 he3
        subst he1 e3
        have g0 := cell_later hb5 f0
        have g1 := cell_later hb5 f1
        simp only [Nat.add_zero] at g1
        have hS := toldTo_succ hx.out
        have hle := toldTo_le xss k
        rw [hhd] at hS
        generalize toldTo xss k = cur at *
        have HS := Lib.hid hS; clear hS f0 f1 hI HI hhd hx hx0
        rcases hq : xs.length == 1 with _ | _
        · have hq1 : decide ((xs.length : Int) = 1) = false := by simp at hq ⊢; omega
          have HS2 := Lib.hid (show toldTo xss (k + 1) = cur by rw [HS.out, hq]; simp)
          clear HS
          go_wp2
          go_roundw
          case rel => exact ⟨k + 1, by omega, by go_num, by rw [HS2.out]; exact ho, hb, hb5⟩
          case measure => simp [intOf]; omega
        · have hq1 : decide ((xs.length : Int) = 1) = true := by simp at hq ⊢; omega
          have HS2 := Lib.hid (show toldTo xss (k + 1) = cur ++ [x0] by rw [HS.out, hq]; simp)
          clear HS
          go_wp2_with (at_builtin; refine wpList_append_own_at _ rfl _ _ 27 rfl w2.heap.size 3 i (.int .i64 0) 1 8 Try.underlying27 hi hz0 hz1 hz2 rfl (by decide) _ cur.length (cur.map (Value.int .i64)) rfl (ho.alloc _) ⟨wr.heap.size, 0, none⟩ 1 1 [.int .i64 x0] rfl rfl (news_new _ [.int .i64 x0] _) (by simp [Value.oneCell']) (by unfold maxLen; omega) (by omega) (by have := hb5.size; simp; omega) ?_)
          intro v' w3 ho5 hg5 _ _
          have hb7 : Below w.heap.size w w3 := (Below.alc hb _).grown hg5 (by have := hb.size; simp; omega) (fun g hg => Nat.le_trans sz2 (ho.lt g hg).1)
          have hb8 : Below w2.heap.size w2 w3 := (Below.alc hb5 _).grown hg5 (by have := hb5.size; simp; omega) (fun g hg => (ho.lt g hg).1)
          clear ho hb hb5 hg5
          go_wp2
          go_roundw
          case rel => exact ⟨k + 1, by omega, by go_num, by rw [HS2.out]; exact ownsRow_cast ho5 (by simp) (by simp), hb7, hb8⟩
          case measure => simp [intOf]; omega
      · obtain rfl : k = xss.length := by omega
        go_wp2
        go_ret2
        exact IntsPost.mk' HL.out rfl (own_lo ho sz2) hb
end Go.Proofs.Ytfbnmkpkihfocaa
namespace Go.Proofs.Ytfbnmkpkihfocaa
open Go.RowKit
set_option linter.unusedVariables false
theorem range_below {w w' : World} {g o : Nat} {cs : List Value} (h : w.rangeAt g o cs) (hb : Below w.heap.size w w') : w'.rangeAt g o cs := fun j v hv => cell_later hb (h j v hv)
theorem there_below {w w' : World} {g o n : Nat} (h : w.there g o n) (hb : Below w.heap.size w w') : w'.there g o n := fun j hj => by
  obtain ⟨h1, h2⟩ := h j hj
  obtain ⟨u, hu⟩ := Option.isSome_iff_exists.1 h1
  have hlt := World.block_lt_of_cell? w _ hu
  exact ⟨by rw [cell_later hb hu]; rfl, by rw [hb.frozen (p := ⟨g, o + j, none⟩) hlt]; exact h2⟩
theorem there_new (w : World) (cs : Array Value) (t : TypeId) {n : Nat} (h : n ≤ cs.size) : (w.alloc (.cells cs t)).there w.heap.size 0 n := fun j hj => by
  rw [Nat.zero_add]
  refine ⟨?_, World.frozen?_alloc_new _ _ _ _⟩
  rw [World.cell?_alloc_at _ _ _ _ rfl, Array.getElem?_eq_getElem (by omega)]; rfl
theorem range_new (w : World) (cs : List Value) (t : TypeId) : (w.alloc (.cells cs.toArray t)).rangeAt w.heap.size 0 cs := fun j v hv => by
  rw [Nat.zero_add, World.cell?_alloc_at _ _ _ _ rfl]; simpa using hv
theorem there_sub {w : World} {g o n o' n' : Nat} (h : w.there g o n) (h1 : o ≤ o') (h2 : o' + n' ≤ o + n) : w.there g o' n' := fun j hj => by
  have := h (o' - o + j) (by omega)
  rwa [show o + (o' - o + j) = o' + j by omega] at this
theorem range_sub {w : World} {g o : Nat} {cs : List Value} (h : w.rangeAt g o cs) (p n : Nat) : w.rangeAt g (o + p) ((cs.drop p).take n) := fun j v hv => by
  rw [List.getElem?_take] at hv
  split at hv
  · rw [List.getElem?_drop] at hv
    have := h (p + j) v hv
    rwa [← Nat.add_assoc] at this
  · cases hv
theorem range_nil (w : World) (g o : Nat) : w.rangeAt g o [] := fun j v hv => by simp at hv
theorem range_append {w : World} {g o : Nat} {xs ys : List Value} (h1 : w.rangeAt g o xs) (h2 : w.rangeAt g (o + xs.length) ys) : w.rangeAt g o (xs ++ ys) := fun j v hv => by
  by_cases hj : j < xs.length
  · rw [List.getElem?_append_left hj] at hv; exact h1 j v hv
  · rw [List.getElem?_append_right (by omega)] at hv
    have := h2 _ v hv
    rwa [show o + xs.length + (j - xs.length) = o + j by omega] at this
theorem below_cells {w : World} : ∀ (vs : List Value) (a : World) (g o : Nat), Below w.heap.size w a → w.heap.size ≤ g → Below w.heap.size w (a.setCells g o vs)
  | [], _, _, _, h, _ => h
  | v :: r, a, g, o, h, hg => by rw [World.setCells]; exact below_cells r _ g (o + 1) (h.setCell hg v) hg
theorem range_grow {w : World} {g : Nat} {xs ys : List Value} (h : w.rangeAt g 0 xs) (ht : w.there g xs.length ys.length) : (w.setCells g xs.length ys).rangeAt g 0 (xs ++ ys) :=
  range_append (World.rangeAt_setCells_apart h _ _ _ (.inr (.inl (by omega)))) (by rw [Nat.zero_add]; exact World.rangeAt_setCells_same _ _ _ _ ht)
theorem wpList_load_want {P : Program} {ops : Array Oper} {rest : List Oper} {op : Oper} {a : Act} {w : World} {Q : Exit → Act → World → Prop} (hw : Region.wanted op (yielded ops a.tmps) = true) (ty : TypeId) (x : Operand) (ho : op.op = .load ty x)
    (b o : Nat) (hx : a.eval x = .pointer (some ⟨b, o, none⟩)) (cs : List Value) (d : TypeDesc) (hc : w.rangeAt b o cs)
    (hu : P.underlying ty = some d) (hd : d.isRow = true) (hi : (P.info? ty).map (·.size) = some cs.length)
    (h : wpList P ops Q rest (a.put op.dst (.agg cs.toArray)) w) : wpList P ops Q (op :: rest) a w :=
  BigFrame.wpList_want hw fun _ hK => wp_load_mid ty x ho b o hx cs d hc hu hd hi (hK _ _ h)
theorem wpList_store_want {P : Program} {ops : Array Oper} {rest : List Oper} {op : Oper} {a : Act} {w : World} {Q : Exit → Act → World → Prop} (hw : Region.wanted op (yielded ops a.tmps) = true) (ty : TypeId) (x y : Operand) (ho : op.op = .store ty x y)
    (b o : Nat) (cs : List Value) (hx : a.eval x = .pointer (some ⟨b, o, none⟩)) (hy : a.eval y = .agg cs.toArray)
    (ht : w.there b o cs.length) (hi : (P.info? ty).map (·.size) = some cs.length) (h1 : ∀ v ∈ cs, v.oneCell' = true)
    (h : wpList P ops Q rest (a.put op.dst undef) (w.setCells b o cs)) : wpList P ops Q (op :: rest) a w :=
  BigFrame.wpList_want hw fun _ hK => wp_store_mid ty x y ho b o cs.toArray hx hy (by simpa using ht) (by simpa using hi) (all_oneCell_toArray h1) (hK _ _ (by simpa using h))
/-- the results of a function whose result lies in memory -/
theorem res_cell {P : Program} {fn : Func} {r : Nat} {t : TypeId} {tmps : Array Value} {w : World} {g : Nat} {v : Value} (h : fn.results = #[.cell r t]) (hr : tmps.getD r undef = .pointer (some ⟨g, 0, none⟩)) (hl : (loadVar t ⟨g, 0, none⟩).run P w = .ok v w) :
    (results fn tmps).run P w = .ok v w := by
  unfold results
  rw [h]
  simp only [List.mapM_toArray, List.mapM_cons, List.mapM_nil, Sem.run_bind, Sem.run_pure, Sem.run_map, Result.andThen_ok, hr, asAddr, hl]
  rfl
theorem res_cell2 {P : Program} {fn : Func} {r k : Nat} {t : TypeId} {tmps : Array Value} {w : World} {g : Nat} {v : Value} (h : fn.results = #[.cell r t, .tmp k]) (hr : tmps.getD r undef = .pointer (some ⟨g, 0, none⟩)) (hl : (loadVar t ⟨g, 0, none⟩).run P w = .ok v w) :
    (results fn tmps).run P w = .ok (.tuple #[v, tmps.getD k undef]) w := by
  unfold results
  rw [h]
  simp only [List.mapM_toArray, List.mapM_cons, List.mapM_nil, Sem.run_bind, Sem.run_pure, Sem.run_map, Result.andThen_ok, hr, asAddr, hl]
  rfl
end Go.Proofs.Ytfbnmkpkihfocaa
namespace Go.Proofs.Ytfbnmkpkihfocaa
open Go.RowKit
set_option linter.unusedVariables false
/-- the row while it is gone through: what is kept, what is left over, what is still to come -/
def DInv {α : Type} (p : α → Bool) (es : List α) (j i : Nat) (R : List α) : Prop :=
  ∃ J, R = (es.take j).filter (fun x => !p x) ++ (J ++ es.drop j) ∧ ((es.take j).filter fun x => !p x).length = i ∧ i + J.length = j ∧ i < j ∧ j ≤ es.length
theorem DInv.start {α : Type} {p : α → Bool} {es : List α} {k : Nat} {x : α} (hx : es[k]? = some x) (hp : p x = true) (h : ∀ j y, j < k → es[j]? = some y → p y = false) : DInv p es (k + 1) k es := by
  have hk : k < es.length := (List.getElem?_eq_some_iff.1 hx).1
  have hall : (es.take k).filter (fun x => !p x) = es.take k := by
    rw [List.filter_eq_self]
    intro y hy
    obtain ⟨j, hj, rfl⟩ := List.getElem_of_mem hy
    have hj2 : j < k := by rw [List.length_take] at hj; omega
    have := h j (es.take k)[j] hj2 (by rw [List.getElem_take, List.getElem?_eq_getElem (by omega)])
    rw [this]; rfl
  have hf : (es.take (k + 1)).filter (fun x => !p x) = es.take k := by
    rw [List.take_succ_eq_append_getElem hk, List.filter_append, hall]
    have : es[k] = x := by rw [List.getElem?_eq_getElem hk] at hx; exact Option.some.inj hx
    simp [this, hp]
  refine ⟨[x], ?_, ?_, by simp, by omega, hk⟩
  · rw [hf]
    have e : es[k] = x := by rw [List.getElem?_eq_getElem hk] at hx; exact Option.some.inj hx
    calc es = es.take k ++ es.drop k := (List.take_append_drop k es).symm
      _ = _ := by rw [List.drop_eq_getElem_cons hk, e]; rfl
  · rw [hf, List.length_take]; omega
theorem DInv.len {α : Type} {p : α → Bool} {es R : List α} {i j : Nat} (h : DInv p es j i R) : R.length = es.length := by
  obtain ⟨J, rfl, h1, h2, h3, h4⟩ := h
  simp only [List.length_append, List.length_drop]; omega
theorem DInv.get {α : Type} {p : α → Bool} {es R : List α} {i j : Nat} {x : α} (h : DInv p es j i R) (hx : es[j]? = some x) : R[j]? = some x := by
  obtain ⟨J, rfl, h1, h2, h3, h4⟩ := h
  rw [List.getElem?_append_right (by omega), List.getElem?_append_right (by omega), List.getElem?_drop, ← hx]
  congr 1; omega
theorem DInv.skip {α : Type} {p : α → Bool} {es R : List α} {i j : Nat} {x : α} (h : DInv p es j i R) (hx : es[j]? = some x) (hp : p x = true) : DInv p es (j + 1) i R := by
  obtain ⟨J, rfl, h1, h2, h3, h4⟩ := h
  have hj : j < es.length := (List.getElem?_eq_some_iff.1 hx).1
  have e : es[j] = x := by rw [List.getElem?_eq_getElem hj] at hx; exact Option.some.inj hx
  have hf : (es.take (j + 1)).filter (fun x => !p x) = (es.take j).filter (fun x => !p x) := by
    rw [List.take_succ_eq_append_getElem hj, List.filter_append]; simp [e, hp]
  refine ⟨J ++ [x], ?_, by rw [hf]; exact h1, by simp; omega, by omega, hj⟩
  rw [hf, List.drop_eq_getElem_cons hj, e]; simp
theorem DInv.keep {α : Type} {p : α → Bool} {es R : List α} {i j : Nat} {x : α} (h : DInv p es j i R) (hx : es[j]? = some x) (hp : p x = false) : DInv p es (j + 1) (i + 1) (R.set i x) := by
  obtain ⟨J, rfl, h1, h2, h3, h4⟩ := h
  have hj : j < es.length := (List.getElem?_eq_some_iff.1 hx).1
  have e : es[j] = x := by rw [List.getElem?_eq_getElem hj] at hx; exact Option.some.inj hx
  have hf : (es.take (j + 1)).filter (fun x => !p x) = (es.take j).filter (fun x => !p x) ++ [x] := by
    rw [List.take_succ_eq_append_getElem hj, List.filter_append]; simp [e, hp]
  cases J with
  | nil => simp at h2; omega
  | cons y J' =>
    refine ⟨J' ++ [x], ?_, by rw [hf, List.length_append, h1]; rfl, by simp at h2 ⊢; omega, by omega, hj⟩
    rw [hf, List.drop_eq_getElem_cons hj, e, List.cons_append, set_mid _ _ _ _ h1.symm]
    simp
theorem DInv.done {α : Type} {p : α → Bool} {es R : List α} {i : Nat} (h : DInv p es es.length i R) : R.take i = es.filter (fun x => !p x) ∧ i = (es.filter fun x => !p x).length := by
  obtain ⟨J, rfl, h1, h2, h3, h4⟩ := h
  rw [List.take_length] at h1 ⊢
  exact ⟨by rw [List.take_left' h1], h1.symm⟩
/-- cells stored one after the other into a row -/
theorem own_cells {lo size n cap g : Nat} {e : TypeId} : ∀ (vs : List Value) (o : Nat) (w : World) (xs : List Value), w.ownsRow lo e size (.slice (some ⟨g, 0, none⟩) n cap) n xs →
    ∃ ys, (w.setCells g o vs).ownsRow lo e size (.slice (some ⟨g, 0, none⟩) n cap) n ys ∧ ys.take o = xs.take o ∧ w.grownBy (w.setCells g o vs) (some g)
  | [], o, w, xs, h => ⟨xs, h, rfl, World.grownBy.refl _ _⟩
  | v :: r, o, w, xs, h => by
    have h1 := h.stored o v
    obtain ⟨ys, h2, h3, h4⟩ := own_cells r (o + 1) (w.setCell ⟨g, o, none⟩ v) _ h1.1
    refine ⟨ys, h2, ?_, ?_⟩
    · have : (ys.take (o + 1)).take o = ((xs.set o v).take (o + 1)).take o := by rw [h3]
      rw [List.take_take, List.take_take, Nat.min_eq_left (by omega)] at this
      rw [this, List.take_set_of_le (Nat.le_refl _)]
    · exact ⟨h4.os.trans h1.2.os, h4.tape.trans h1.2.tape, h4.output.trans h1.2.output, Nat.le_trans h1.2.size h4.size, fun k hk hne => (h4.block k (Nat.lt_of_lt_of_le hk h1.2.size) hne).trans (h1.2.block k hk hne)⟩
/-- the head of a row -/
theorem own_cut {w : World} {lo size n m cap g : Nat} {e : TypeId} {xs : List Value} (h : w.ownsRow lo e size (.slice (some ⟨g, 0, none⟩) n cap) n xs) (hm : m ≤ n) :
    w.ownsRow lo e size (.slice (some ⟨g, 0, none⟩) m cap) m (xs.take (m * size)) := by
  have hl := h.1
  refine ⟨?_, ?_⟩
  · rw [List.length_take, hl]; exact Nat.min_eq_left (Nat.mul_le_mul_right _ hm)
  · rcases h.2 with ⟨h', _⟩ | ⟨g', cap', cur, h', hb, hg, hnc, hcm, hcs, ht⟩
    · cases h'
    · injection h' with h1 _ h3
      injection h1 with h1; injection h1 with h1
      subst h1 h3
      exact .inr ⟨g, cap, cur, rfl, hb, hg, by omega, hcm, hcs, by rw [← ht, List.take_take, Nat.min_eq_left (Nat.mul_le_mul_right _ hm)]⟩
theorem run_clear_cells {P : Program} (w : World) (t e ty : TypeId) (z : Value) (ht : P.underlying t = some (.slice e)) (hv : ∀ w, (zeroValue e).run P w = .ok z w) (h1 : ∀ v ∈ z.cells.toList, v.oneCell' = true) (hpos : 0 < z.cells.size) (b o n c : Nat) (hn : 0 < n)
    (hth : w.there b o (n * z.cells.size)) :
    (Builtin.clear_ #[t] ty #[.slice (some ⟨b, o, none⟩) n c]).run P w = .ok (.tuple #[]) (w.setCells b o (Builtin.zeroCells z.cells n).toList) := by
  have hlen : (Builtin.zeroCells z.cells n).toList.length = n * z.cells.size := by simp [Builtin.zeroCells]
  have hst := run_storeCells_cells (P := P) b o (Builtin.zeroCells z.cells n).toList 0 w (by rw [hlen]; exact fun j hj => by simpa using (hth j hj).1) (by rw [hlen]; exact fun j hj => by simpa using (hth j hj).2)
    (by
      intro v hv'
      simp only [Builtin.zeroCells, Array.toList_map, List.mem_map, Array.toList_range, List.mem_range] at hv'
      obtain ⟨i, _, rfl⟩ := hv'
      have hlt := Nat.mod_lt i hpos
      have : z.cells[i % z.cells.size]! = z.cells[i % z.cells.size] := by simp [hlt]
      rw [this]
      exact h1 _ (by simp))
  simp only [Nat.add_zero] at hst
  obtain ⟨m, rfl⟩ : ∃ m, n = m + 1 := ⟨n - 1, by omega⟩
  simp [Builtin.clear_, run_underlying ht, hv, hst]
theorem own_there {w : World} {lo size n cap g : Nat} {e : TypeId} {xs : List Value} (h : w.ownsRow lo e size (.slice (some ⟨g, 0, none⟩) n cap) n xs) : w.there g 0 (n * size) := fun j hj => by
  rw [Nat.zero_add]
  refine ⟨?_, h.frozenAt j⟩
  rw [h.cellAt j hj, List.getElem?_eq_getElem (by rw [h.1]; exact hj)]; rfl
end Go.Proofs.Ytfbnmkpkihfocaa
