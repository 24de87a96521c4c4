/- Texts of this claim, gathered: Faults, Groups, Mem, Bench, OpenB. -/
import Derived.Test.YtohgjfdbnkjefaaGreatDoorKx1
import Derived.Deep.RegionHeld3
import Derived.Deep.MidRow
namespace Go.Proofs.YtohgjfdbnkjefaaGreatDoor
open Go.RowKit
set_option linter.unusedVariables false
set_option maxRecDepth 100000
def tenI : List Int := [0, 1, 2, 3, 4, 5, 6, 7, 8, 9]
theorem tenI_fin : ∀ k : Fin 10, tenI[k.1]? = some (k.1 : Int) := by decide
theorem tenI_at {k : Nat} (h : k < 10) : tenI[k]? = some (k : Int) := tenI_fin ⟨k, h⟩
def digTo (d l c : Int) (n : Nat) : List Int := (tenI.take n).filter fun x => shC d l (dg x) == c
def digL (d l c : Int) : List Int := tenI.filter fun x => shC d l (dg x) == c
theorem digTo_all (d l c : Int) : digTo d l c 10 = digL d l c := rfl
theorem digTo_le (d l c : Int) (n : Nat) : (digTo d l c n).length ≤ 10 := Nat.le_trans (List.length_filter_le _ _) (by rw [List.length_take]; simp [tenI]; omega)
theorem digL_le (d l c : Int) : (digL d l c).length ≤ 10 := Nat.le_trans (List.length_filter_le _ _) (by simp [tenI])
theorem digTo_succ (d l c : Int) {n : Nat} (h : n < 10) : digTo d l c (n + 1) = digTo d l c n ++ if shC d l (dg n) == c then [(n : Int)] else [] := by
 unfold digTo
 rw [take_snoc (tenI_at h), List.filter_append]
 cases hq : (shC d l (dg n) == c) <;> simp [hq]
theorem ints_snoc (xs : List Int) (x : Int) : (xs ++ [x]).map (Value.int .i64) = xs.map (Value.int .i64) ++ [.int .i64 x] := by simp
theorem digits_c (d l c : Int) (w : World) (d0 : 0 ≤ d) (d1 : d ≤ 127) (l0 : 0 ≤ l) (l1 : l ≤ 127) :
 Calls Tryz.prog 115 #[.agg #[.int .i64 d, .int .i64 l], .int .i64 c] w fun e w' => ∃ u, e = .returned u ∧ w'.ownsRow w.heap.size 3 1 u (digL d l c).length ((digL d l c).map (Value.int .i64)) ∧ Below w.heap.size w w' := by
 obtain ⟨i, hi, hz0, hz1, hz2⟩ := info_parts info_int
 have q0 : (w.alloc (.cells #[.int .i64 d, .int .i64 l] 46)).cell? ⟨w.heap.size, 0, none⟩ = some (.int .i64 d) := by rw [World.cell?_alloc_at _ _ _ _ rfl]; rfl
 have q1 : (w.alloc (.cells #[.int .i64 d, .int .i64 l] 46)).cell? ⟨w.heap.size, 1, none⟩ = some (.int .i64 l) := by rw [World.cell?_alloc_at _ _ _ _ rfl]; rfl
 have hb0 := below_one (w := w) (.cells #[.int .i64 d, .int .i64 l] 46)
 go_enter Tryz.func115, Tryz.ntmps115
 go_wp2_with fail
 refine (digitCells_c _).mono ?_
 rintro e w1 ⟨rfl, hb1⟩
 have r0 := cell_later hb1 q0
 have r1 := cell_later hb1 q1
 have hb2 := Below.chain hb0 hb1
 clear q0 q1 hb0 hb1
 go_wp2
 go_loopw [5, 6, 7, 9] (fun o _ _ j wr => ∃ k : Nat, k ≤ 10 ∧ j = .int .i64 (k : Int) ∧ wr.ownsRow (w.heap.size + 1) 3 1 o (digTo d l c k).length ((digTo d l c k).map (Value.int .i64)) ∧ Below w.heap.size w wr ∧ w.heap.size + 1 ≤ wr.heap.size ∧ wr.cell? ⟨w.heap.size, 0, none⟩ = some (.int .i64 d) ∧ wr.cell? ⟨w.heap.size, 1, none⟩ = some (.int .i64 l)) (fun _ _ _ j _ => 11 - (intOf j).toNat)
 case atStart => exact ⟨0, by omega, rfl, World.ownsRow_nil _ _ _ _, hb2, World.block_lt_of_cell? _ _ r0, r0, r1⟩
 case round =>
  obtain ⟨k, hk, rfl, ho, hb, hsz, g0, g1⟩ := hrel
  clear r0 r1 hb2
  by_cases hlt : k < 10
  · have hd : decide ((k : Int) < 10) = true := by simp; omega
    have hix := fun w => index_dig (k : Int) (by omega) (by omega) w
    have bdx := dg_bd (k : Int)
    have hsc := digTo_succ d l c hlt
    have hle := digTo_le d l c k
    generalize digTo d l c k = cur at *
    have HS := Lib.hid hsc; clear hsc
    go_wp2_with fail
    refine (shown_c d l (dg k) d0 d1 l0 l1 bdx.1 bdx.2 _).mono ?_
    rintro e w2 ⟨rfl, hb3⟩
    have g02 := cell_later hb3 g0
    have g12 := cell_later hb3 g1
    have hb4 := Below.chain hb hb3
    have ho2 := own_keep ho hb3
    have hsz2 := Nat.le_trans hsz hb3.size
    clear g0 g1 hb hb3 ho hsz hix
    rcases hq : (shC d l (dg (k : Int)) == c) with _ | _
    · have hS2 : digTo d l c (k + 1) = cur := by rw [HS.out]; simp [hq]
      have HS2 := Lib.hid hS2; clear hS2 HS
      go_wp2
      go_roundw
      case rel => exact ⟨k + 1, by omega, by go_num, by rw [HS2.out]; exact ho2, hb4, hsz2, g02, g12⟩
      case measure => simp [intOf]; omega
    · have hS2 : digTo d l c (k + 1) = cur ++ [(k : Int)] := by rw [HS.out]; simp [hq]
      have HS2 := Lib.hid hS2; clear hS2 HS
      go_wp2_with (at_builtin; refine wpList_append_own_at _ rfl _ _ 37 rfl (w.heap.size + 1) 3 i (.int .i64 0) 1 8 Tryz.underlying37 hi hz0 hz1 hz2 rfl (by decide) _ cur.length (cur.map (Value.int .i64)) rfl (ho2.alloc _) ⟨w2.heap.size, 0, none⟩ 1 1 [.int .i64 k] rfl rfl (news_new _ [.int .i64 k] _) (by simp [Value.oneCell']) (by unfold maxLen; omega) (by omega) (by simp; omega) ?_)
      intro v' w3 ho5 hg5 _ _
      have hlt2 := World.block_lt_of_cell? _ _ g02
      have hb7 : Below w.heap.size w w3 := (Below.alc hb4 _).grown hg5 (by have := hb4.size; simp; omega) (fun g hg => by have := (ho2.lt g hg).1; omega)
      have hkeep : ∀ o v, w2.cell? ⟨w.heap.size, o, none⟩ = some v → w3.cell? ⟨w.heap.size, o, none⟩ = some v := fun o v h =>
       hg5.cell (cell_later (below_one _) h) (fun e => by have := (ho2.lt _ e.symm).1; simp at this; omega)
      have g03 := hkeep _ _ g02
      have g13 := hkeep _ _ g12
      have hsz3 : w.heap.size + 1 ≤ w3.heap.size := Nat.le_trans (by simp; omega) hg5.size
      clear ho2 hb4 hg5 g02 g12 hkeep hlt2 hsz2
      go_wp2
      go_roundw
      case rel => exact ⟨k + 1, by omega, by go_num, by rw [HS2.out]; exact ownsRow_cast ho5 (by simp) (ints_snoc _ _).symm, hb7, hsz3, g03, g13⟩
      case measure => simp [intOf]; omega
  · obtain rfl : k = 10 := by omega
    go_wp2
    go_ret
    exact ⟨_, rfl, by rw [← digTo_all]; exact own_lo ho (by omega), hb⟩
theorem l3Digits_c (d l c : Int) (w : World) (d0 : 0 ≤ d) (d1 : d ≤ 127) (l0 : 0 ≤ l) (l1 : l ≤ 127) :
 Calls Tryz.prog 223 #[.agg #[.int .i64 d, .int .i64 l], .int .i64 c] w fun e w' => ∃ u, e = .returned u ∧ w'.ownsRow w.heap.size 3 1 u (digL d l c).length ((digL d l c).map (Value.int .i64)) ∧ Below w.heap.size w w' := by
 obtain ⟨i, hi, hz0, hz1, hz2⟩ := info_parts info_int
 have q0 : (w.alloc (.cells #[.int .i64 d, .int .i64 l] 46)).cell? ⟨w.heap.size, 0, none⟩ = some (.int .i64 d) := by rw [World.cell?_alloc_at _ _ _ _ rfl]; rfl
 have q1 : (w.alloc (.cells #[.int .i64 d, .int .i64 l] 46)).cell? ⟨w.heap.size, 1, none⟩ = some (.int .i64 l) := by rw [World.cell?_alloc_at _ _ _ _ rfl]; rfl
 have r0 := cell_later (below_one (.cells #[] 3)) q0
 have r1 := cell_later (below_one (.cells #[] 3)) q1
 have hb2 : Below w.heap.size w ((w.alloc (.cells #[.int .i64 d, .int .i64 l] 46)).alloc (.cells #[] 3)) := by (repeat (first | exact Below.refl _ _ | exact (Below.refl _ _).drew | assumption | exact below_one _ | refine Below.chain ?_ (by assumption) | refine Below.drew ?_ | refine Below.alc ?_ _ | refine below_drewN ?_ | (refine Below.setCell ?_ ?_ _) | exact Nat.le_refl _ | (simp; done) | (simp; omega)))
 have ho0 := World.ownsRow_lit (e := 3) (size := 1) (base := w.heap.size + 1) (w.alloc (.cells #[.int .i64 d, .int .i64 l] 46)) #[] 0 (by simp) (by decide) rfl
 rw [show (w.alloc (.cells #[.int .i64 d, .int .i64 l] 46)).heap.size = w.heap.size + 1 by simp] at ho0
 clear q0 q1
 go_enter Tryz.func223, Tryz.ntmps223
 go_wp2
 go_loopw [5, 6] (fun o j wr => ∃ k : Nat, k ≤ 10 ∧ j = .int .i64 (k : Int) ∧ wr.ownsRow (w.heap.size + 1) 3 1 o (digTo d l c k).length ((digTo d l c k).map (Value.int .i64)) ∧ Below w.heap.size w wr ∧ w.heap.size + 1 ≤ wr.heap.size ∧ wr.cell? ⟨w.heap.size, 0, none⟩ = some (.int .i64 d) ∧ wr.cell? ⟨w.heap.size, 1, none⟩ = some (.int .i64 l)) (fun _ j _ => 11 - (intOf j).toNat)
 case atStart => exact ⟨0, by omega, rfl, ho0, hb2, World.block_lt_of_cell? _ _ r0, r0, r1⟩
 case round =>
  obtain ⟨k, hk, rfl, ho, hb, hsz, g0, g1⟩ := hrel
  clear r0 r1 hb2 ho0
  by_cases hlt : k < 10
  · have hd : decide ((k : Int) < 10) = true := by simp; omega
    have bdx := dg_bd (k : Int)
    have hsc := digTo_succ d l c hlt
    have hle := digTo_le d l c k
    generalize digTo d l c k = cur at *
    have HS := Lib.hid hsc; clear hsc
    go_wp2_with fail
    go_region_held3 (fun w' => w'.cell? ⟨w.heap.size, 0, none⟩ = some (.int .i64 d) ∧ w'.cell? ⟨w.heap.size, 1, none⟩ = some (.int .i64 l))
     (first | go_keep | (go_split_ands; exact ⟨cell_later (by assumption) (by assumption), cell_later (by assumption) (by assumption)⟩))
     (first | (go_at_call 141; refine (l2Digit_c (k : Int) (by omega) (by omega) _).mono ?_; rintro e w' ⟨rfl, hb2⟩) | (go_at_call 219; refine (l3Shown_c d l (dg k) d0 d1 l0 l1 bdx.1 bdx.2 _).mono ?_; rintro e w' ⟨rfl, hb3⟩))
    go_split_ands
    have g02 : w'.cell? ⟨w.heap.size, 0, none⟩ = some (.int .i64 d) := by assumption
    have g12 : w'.cell? ⟨w.heap.size, 1, none⟩ = some (.int .i64 l) := by assumption
    have hb23 : Below wr.heap.size wr w' := Below.chain (Below.chain (Below.refl _ _).drew hb2) hb3
    have hb4 := Below.chain hb hb23
    have ho2 := own_keep ho hb23
    have hsz2 := Nat.le_trans hsz hb23.size
    clear g0 g1 hb hb3 hb2 hb23 ho hsz
    rcases hq : (shC d l (dg (k : Int)) == c) with _ | _
    · have hS2 : digTo d l c (k + 1) = cur := by rw [HS.out]; simp [hq]
      have HS2 := Lib.hid hS2; clear hS2 HS
      go_wp2
      go_roundw
      case rel => exact ⟨k + 1, by omega, by go_num, by rw [HS2.out]; exact ho2, hb4, hsz2, g02, g12⟩
      case measure => simp [intOf]; omega
    · have hS2 : digTo d l c (k + 1) = cur ++ [(k : Int)] := by rw [HS.out]; simp [hq]
      have HS2 := Lib.hid hS2; clear hS2 HS
      go_wp2_with (at_builtin; refine wpList_append_own_at _ rfl _ _ 37 rfl (w.heap.size + 1) 3 i (.int .i64 0) 1 8 Tryz.underlying37 hi hz0 hz1 hz2 rfl (by decide) _ cur.length (cur.map (Value.int .i64)) rfl (ho2.alloc _) ⟨w'.heap.size, 0, none⟩ 1 1 [.int .i64 k] rfl rfl (news_new _ [.int .i64 k] _) (by simp [Value.oneCell']) (by unfold maxLen; omega) (by omega) (by simp; omega) ?_)
      intro v' w3 ho5 hg5 _ _
      have hlt2 := World.block_lt_of_cell? _ _ g02
      have hb7 : Below w.heap.size w w3 := (Below.alc hb4 _).grown hg5 (by have := hb4.size; simp; omega) (fun g hg => by have := (ho2.lt g hg).1; omega)
      have hkeep : ∀ o v, w'.cell? ⟨w.heap.size, o, none⟩ = some v → w3.cell? ⟨w.heap.size, o, none⟩ = some v := fun o v h =>
       hg5.cell (cell_later (below_one _) h) (fun e => by have := (ho2.lt _ e.symm).1; simp at this; omega)
      have g03 := hkeep _ _ g02
      have g13 := hkeep _ _ g12
      have hsz3 : w.heap.size + 1 ≤ w3.heap.size := Nat.le_trans (by simp; omega) hg5.size
      clear ho2 hb4 hg5 g02 g12 hkeep hlt2 hsz2
      go_wp2
      go_roundw
      case rel => exact ⟨k + 1, by omega, by go_num, by rw [HS2.out]; exact ownsRow_cast ho5 (by simp) (ints_snoc _ _).symm, hb7, hsz3, g03, g13⟩
      case measure => simp [intOf]; omega
  · obtain rfl : k = 10 := by omega
    go_wp2
    go_ret
    exact ⟨_, rfl, by rw [← digTo_all]; exact own_lo ho (by omega), hb⟩
abbrev ints (xs : List Int) : List Value := xs.map (Value.int .i64)
def Inn (w : World) (lo : Nat) (vs : List Value) (xss : List (List Int)) : Prop :=
 vs.length = xss.length ∧ (∀ (k : Nat) (v : Value) (xs : List Int), vs[k]? = some v → xss[k]? = some xs → w.ownsRow lo 3 1 v xs.length (ints xs)) ∧
 (∀ (i j : Nat) (a b : Value), i < j → vs[i]? = some a → vs[j]? = some b → b.ownBlock = none ∨ b.ownBlock ≠ a.ownBlock)
def OwnSS (w : World) (lo : Nat) (u : Value) (xss : List (List Int)) : Prop :=
 ∃ vs, w.ownsRow lo 37 1 u xss.length vs ∧ Inn w lo vs xss
theorem own_ne_type {w : World} {lo lo' size size' n n' : Nat} {e e' : TypeId} {v v' : Value} {xs xs' : List Value} (h : w.ownsRow lo e size v n xs) (h' : w.ownsRow lo' e' size' v' n' xs') (hne : e ≠ e') : v.ownBlock = none ∨ v.ownBlock ≠ v'.ownBlock := by
 rcases h.2 with ⟨rfl, _⟩ | ⟨g, c, cur, rfl, _, hg, _⟩
 · exact .inl rfl
 · rcases h'.2 with ⟨rfl, _⟩ | ⟨g', c', cur', rfl, _, hg', _⟩
   · right; simp [Value.ownBlock]
   · right
     intro e0
     simp [Value.ownBlock] at e0
     subst e0
     rw [hg] at hg'
     injection hg' with h1; injection h1 with _ h2; exact hne h2
theorem Inn.nil_ (w : World) (lo : Nat) : Inn w lo [] [] := ⟨rfl, fun k v xs h => by simp at h, fun i j a b _ h => by simp at h⟩
theorem Inn.keep {w w' : World} {lo : Nat} {vs : List Value} {xss : List (List Int)} (h : Inn w lo vs xss) (hb : Below w.heap.size w w') : Inn w' lo vs xss :=
 ⟨h.1, fun k v xs h1 h2 => own_keep (h.2.1 k v xs h1 h2) hb, h.2.2⟩
theorem Inn.grown {w w' : World} {lo lo' size n : Nat} {e : TypeId} {u : Value} {us : List Value} {vs : List Value} {xss : List (List Int)} (h : Inn w lo vs xss) (ho : w.ownsRow lo' e size u n us) (hne : (3 : Nat) ≠ e) (hg : w.grownBy w' u.ownBlock) : Inn w' lo vs xss :=
 ⟨h.1, fun k v xs h1 h2 => (h.2.1 k v xs h1 h2).kept hg (own_ne_type (h.2.1 k v xs h1 h2) ho hne), h.2.2⟩
theorem Inn.snoc {w : World} {lo lo2 : Nat} {vs : List Value} {xss : List (List Int)} {v : Value} {xs : List Int} (h : Inn w lo vs xss) (hv : w.ownsRow lo2 3 1 v xs.length (ints xs)) (hl : lo ≤ lo2)
 (hnew : ∀ (k : Nat) (a : Value), vs[k]? = some a → ∀ g, a.ownBlock = some g → g < lo2) : Inn w lo (vs ++ [v]) (xss ++ [xs]) := by
 refine ⟨by simp [h.1], fun k a ys h1 h2 => ?_, fun i j a b hij h1 h2 => ?_⟩
 · by_cases hk : k < vs.length
   · rw [List.getElem?_append_left hk] at h1
     rw [List.getElem?_append_left (by rw [← h.1]; exact hk)] at h2
     exact h.2.1 k a ys h1 h2
   · rw [List.getElem?_append_right (by omega)] at h1
     rw [List.getElem?_append_right (by rw [← h.1]; omega)] at h2
     have hk0 : k - vs.length = 0 := by
      by_cases hz : k - vs.length = 0
      · exact hz
      · rw [List.getElem?_eq_none (by simp; omega)] at h1; cases h1
     have hk1 : k - xss.length = 0 := by rw [← h.1]; exact hk0
     rw [hk0] at h1; rw [hk1] at h2
     simp at h1 h2
     subst h1 h2
     exact own_lo hv hl
 · by_cases hj : j < vs.length
   · rw [List.getElem?_append_left (by omega)] at h1
     rw [List.getElem?_append_left hj] at h2
     exact h.2.2 i j a b hij h1 h2
   · rw [List.getElem?_append_right (by omega)] at h2
     have hj0 : j - vs.length = 0 := by
      by_cases hz : j - vs.length = 0
      · exact hz
      · rw [List.getElem?_eq_none (by simp; omega)] at h2; cases h2
     rw [hj0] at h2; simp at h2; subst h2
     rw [List.getElem?_append_left (by omega)] at h1
     cases hb : v.ownBlock with
     | none => exact .inl rfl
     | some g =>
      right; intro e
      have h3 := (hv.lt g hb).1
      have h4 := hnew i a h1 g e.symm
      omega
theorem Inn.lt {w : World} {lo : Nat} {vs : List Value} {xss : List (List Int)} (h : Inn w lo vs xss) : ∀ (k : Nat) (a : Value), vs[k]? = some a → ∀ g, a.ownBlock = some g → g < w.heap.size := by
 intro k a ha g hg
 have hk : k < xss.length := by rw [← h.1]; exact (List.getElem?_eq_some_iff.1 ha).1
 exact ((h.2.1 k a _ ha (List.getElem?_eq_getElem hk)).lt g hg).2
/-! the groups -/
def grpOf (d l x : Int) : List Int := digL d l (shC d l (dg x))
def isHead (d l x : Int) : Bool := (grpOf d l x).headD (-1) == x
def grpTo (d l : Int) (n : Nat) : List (List Int) := ((tenI.take n).filter (isHead d l)).map (grpOf d l)
def grpL (d l : Int) : List (List Int) := grpTo d l 10
theorem grpTo_le (d l : Int) (n : Nat) : (grpTo d l n).length ≤ 10 := by
 unfold grpTo
 rw [List.length_map]
 exact Nat.le_trans (List.length_filter_le _ _) (by rw [List.length_take]; simp [tenI]; omega)
theorem grpTo_succ (d l : Int) {n : Nat} (h : n < 10) : grpTo d l (n + 1) = grpTo d l n ++ if isHead d l n then [grpOf d l n] else [] := by
 unfold grpTo
 rw [take_snoc (tenI_at h), List.filter_append, List.map_append]
 cases hq : isHead d l n <;> simp [hq]
theorem grpOf_head {d l : Int} {n : Nat} (h : n < 10) : (grpOf d l n)[0]? = some ((grpOf d l n).headD (-1)) := by
 have hm : (n : Int) ∈ grpOf d l n := by
  unfold grpOf digL
  rw [List.mem_filter]
  exact ⟨List.mem_of_getElem? (tenI_at h), by simp⟩
 cases hg : grpOf d l n with
 | nil => rw [hg] at hm; simp at hm
 | cons a t => simp
theorem info_ints : (Tryz.prog.info? 37).map (fun i => (i.zero, i.size, i.bytes)) = some (some (.slice none 0 0), 1, 24) := by kernel_rfl
theorem groups_c (d l : Int) (w : World) (d0 : 0 ≤ d) (d1 : d ≤ 127) (l0 : 0 ≤ l) (l1 : l ≤ 127) :
 Calls Tryz.prog 63 #[.agg #[.int .i64 d, .int .i64 l]] w fun e w' => ∃ u, e = .returned u ∧ OwnSS w' w.heap.size u (grpL d l) ∧ Below w.heap.size w w' := by
 obtain ⟨i, hi, hz0, hz1, hz2⟩ := info_parts info_ints
 have q0 : (w.alloc (.cells #[.int .i64 d, .int .i64 l] 46)).cell? ⟨w.heap.size, 0, none⟩ = some (.int .i64 d) := by rw [World.cell?_alloc_at _ _ _ _ rfl]; rfl
 have q1 : (w.alloc (.cells #[.int .i64 d, .int .i64 l] 46)).cell? ⟨w.heap.size, 1, none⟩ = some (.int .i64 l) := by rw [World.cell?_alloc_at _ _ _ _ rfl]; rfl
 have hb0 := below_one (w := w) (.cells #[.int .i64 d, .int .i64 l] 46)
 go_enter Tryz.func63, Tryz.ntmps63
 go_wp2_with fail
 refine (digitCells_c _).mono ?_
 rintro e w1 ⟨rfl, hb1⟩
 have r0 := cell_later hb1 q0
 have r1 := cell_later hb1 q1
 have hb2 := Below.chain hb0 hb1
 clear q0 q1 hb0 hb1
 go_wp2
 go_loopw [3, 4, 5, 6, 8] (fun o _ _ _ j wr => ∃ (k : Nat) (vs : List Value), k ≤ 10 ∧ j = .int .i64 (k : Int) ∧ wr.ownsRow (w.heap.size + 1) 37 1 o (grpTo d l k).length vs ∧ Inn wr (w.heap.size + 1) vs (grpTo d l k) ∧ Below w.heap.size w wr ∧ w.heap.size + 1 ≤ wr.heap.size ∧ wr.cell? ⟨w.heap.size, 0, none⟩ = some (.int .i64 d) ∧ wr.cell? ⟨w.heap.size, 1, none⟩ = some (.int .i64 l)) (fun _ _ _ _ j _ => 11 - (intOf j).toNat)
 case atStart => exact ⟨0, [], by omega, rfl, World.ownsRow_nil _ _ _ _, Inn.nil_ _ _, hb2, World.block_lt_of_cell? _ _ r0, r0, r1⟩
 case round =>
  obtain ⟨k, vs, hk, rfl, ho, hin, hb, hsz, g0, g1⟩ := hrel
  clear r0 r1 hb2
  by_cases hlt : k < 10
  · have hd : decide ((k : Int) < 10) = true := by simp; omega
    have hix := fun w => index_dig (k : Int) (by omega) (by omega) w
    have bdx := dg_bd (k : Int)
    have hsc := grpTo_succ d l hlt
    have hle := grpTo_le d l k
    have hh := grpOf_head (d := d) (l := l) hlt
    generalize grpTo d l k = cur at *
    have HS := Lib.hid hsc; have HH := Lib.hid hh; clear hsc hh
    go_wp2_with fail
    go_region_held3 (fun w' => w'.cell? ⟨w.heap.size, 0, none⟩ = some (.int .i64 d) ∧ w'.cell? ⟨w.heap.size, 1, none⟩ = some (.int .i64 l))
     (first | go_keep | (go_split_ands; exact ⟨cell_later hb3 (by assumption), cell_later hb3 (by assumption)⟩) | (go_split_ands; exact ⟨cell_later hb4 (by assumption), cell_later hb4 (by assumption)⟩))
     (first | (go_at_call 108; refine (shown_c d l (dg k) d0 d1 l0 l1 bdx.1 bdx.2 _).mono ?_; rintro e w' ⟨rfl, hb3⟩) | (go_at_call 115; refine (digits_c d l (shC d l (dg k)) _ d0 d1 l0 l1).mono ?_; rintro e w'' ⟨ug, rfl, hog, hb4⟩))
    have g02 : w''.cell? ⟨w.heap.size, 0, none⟩ = some (.int .i64 d) := by go_split_ands; assumption
    have g12 : w''.cell? ⟨w.heap.size, 1, none⟩ = some (.int .i64 l) := by go_split_ands; assumption
    have hb34 : Below wr.heap.size wr w'' := Below.chain (Below.chain (Below.refl _ _).drew hb3) hb4
    have hsz3 : wr.heap.size ≤ w'.heap.size := hb3.size
    have hb5 := Below.chain hb hb34
    have ho2 := own_keep ho hb34
    have hin2 := hin.keep hb34
    have hsz2 := Nat.le_trans hsz hb34.size
    have hlt0 := hin.lt
    have hog2 : w''.ownsRow w'.heap.size 3 1 ug (grpOf d l k).length (ints (grpOf d l k)) := hog
    obtain ⟨a3, c3, hu3, hc3, hcm3, H3⟩ := (Ints.of_own hog2).parts
    obtain ⟨b3, o3, e3, g3⟩ := H3.out 0 _ HH.out
    subst hu3 e3
    simp only [Nat.add_zero] at g3
    have hpos : 0 < (grpOf d l (k : Int)).length := (List.getElem?_eq_some_iff.1 HH.out).1
    have hposI : (0 : Int) < ((grpOf d l (k : Int)).length : Int) := by omega
    clear hog ho hin hb hb3 hb4 hb34 g0 g1 H3 HH hix
    rcases hq : isHead d l (k : Int) with _ | _
    · have hqb : (((grpOf d l (k : Int)).headD (-1)) == (k : Int)) = false := hq
      have hS2 : grpTo d l (k + 1) = cur := by rw [HS.out]; simp [hq]
      have HS2 := Lib.hid hS2; clear hS2 HS hq
      generalize (grpOf d l (k : Int)).headD (-1) = hx at *
      go_wp2
      go_roundw
      case rel => exact ⟨k + 1, vs, by omega, by go_num, by rw [HS2.out]; exact ho2, by rw [HS2.out]; exact hin2, hb5, hsz2, g02, g12⟩
      case measure => simp [intOf]; omega
    · have hqb : (((grpOf d l (k : Int)).headD (-1)) == (k : Int)) = true := hq
      have hS2 : grpTo d l (k + 1) = cur ++ [grpOf d l k] := by rw [HS.out]; simp [hq]
      have HS2 := Lib.hid hS2; clear hS2 HS hq
      have hin3 := hin2.snoc hog2 (by omega) (fun k a ha g hg => Nat.lt_of_lt_of_le (hlt0 k a ha g hg) hsz3)
      generalize hG : (grpOf d l (k : Int)).headD (-1) = hx at *
      clear hG
      generalize grpOf d l (k : Int) = G at *
      go_wp2_with (at_builtin; refine wpList_append_own_at _ rfl _ _ 96 rfl (w.heap.size + 1) 37 i (.slice none 0 0) 1 24 Tryz.underlying96 hi hz0 hz1 hz2 rfl (by decide) _ cur.length vs rfl (ho2.alloc _) ⟨w''.heap.size, 0, none⟩ 1 1 [.slice (some ⟨b3, o3, none⟩) G.length c3] rfl rfl (news_new _ [.slice (some ⟨b3, o3, none⟩) G.length c3] _) (by simp [Value.oneCell']) (by unfold maxLen; omega) (by omega) (by simp; omega) ?_)
      intro v' w3 ho5 hg5 _ _
      have hlt2 := World.block_lt_of_cell? _ _ g02
      have hb7 : Below w.heap.size w w3 := (Below.alc hb5 _).grown hg5 (by have := hb5.size; simp; omega) (fun g hg => by have := (ho2.lt g hg).1; omega)
      have hkeep : ∀ o v, w''.cell? ⟨w.heap.size, o, none⟩ = some v → w3.cell? ⟨w.heap.size, o, none⟩ = some v := fun o v h =>
       hg5.cell (cell_later (below_one _) h) (fun e => by have := (ho2.lt _ e.symm).1; simp at this; omega)
      have g03 := hkeep _ _ g02
      have g13 := hkeep _ _ g12
      have hin5 : Inn w3 (w.heap.size + 1) (vs ++ [.slice (some ⟨b3, o3, none⟩) G.length c3]) (cur ++ [G]) := (hin3.keep (below_one _)).grown (ho2.alloc _) (by decide) hg5
      have hsz3' : w.heap.size + 1 ≤ w3.heap.size := Nat.le_trans (by simp; omega) hg5.size
      clear ho2 hb5 hg5 g02 g12 hkeep hlt2 hsz2 hin2 hin3 hog2 hlt0 g3
      go_wp2
      go_roundw
      case rel => exact ⟨k + 1, _, by omega, by go_num, by rw [HS2.out]; exact ownsRow_cast ho5 (by simp) rfl, by rw [HS2.out]; exact hin5, hb7, hsz3', g03, g13⟩
      case measure => simp [intOf]; omega
  · obtain rfl : k = 10 := by omega
    go_wp2
    go_ret
    exact ⟨_, rfl, ⟨vs, own_lo ho (by omega), ⟨hin.1, fun k v xs h1 h2 => own_lo (hin.2.1 k v xs h1 h2) (by omega), hin.2.2⟩⟩, hb⟩
theorem l3Groups_c (d l : Int) (w : World) (d0 : 0 ≤ d) (d1 : d ≤ 127) (l0 : 0 ≤ l) (l1 : l ≤ 127) :
 Calls Tryz.prog 270 #[.agg #[.int .i64 d, .int .i64 l]] w fun e w' => ∃ u, e = .returned u ∧ OwnSS w' w.heap.size u (grpL d l) ∧ Below w.heap.size w w' := by
 obtain ⟨i, hi, hz0, hz1, hz2⟩ := info_parts info_ints
 have q0 : (w.alloc (.cells #[.int .i64 d, .int .i64 l] 46)).cell? ⟨w.heap.size, 0, none⟩ = some (.int .i64 d) := by rw [World.cell?_alloc_at _ _ _ _ rfl]; rfl
 have q1 : (w.alloc (.cells #[.int .i64 d, .int .i64 l] 46)).cell? ⟨w.heap.size, 1, none⟩ = some (.int .i64 l) := by rw [World.cell?_alloc_at _ _ _ _ rfl]; rfl
 have hb0 := below_one (w := w) (.cells #[.int .i64 d, .int .i64 l] 46)
 have r0 := cell_later (below_one (.cells #[] 37)) q0
 have r1 := cell_later (below_one (.cells #[] 37)) q1
 have hb2 : Below w.heap.size w ((w.alloc (.cells #[.int .i64 d, .int .i64 l] 46)).alloc (.cells #[] 37)) := by (repeat (first | exact Below.refl _ _ | exact (Below.refl _ _).drew | assumption | exact below_one _ | refine Below.chain ?_ (by assumption) | refine Below.drew ?_ | refine Below.alc ?_ _ | refine below_drewN ?_ | (refine Below.setCell ?_ ?_ _) | exact Nat.le_refl _ | (simp; done) | (simp; omega)))
 have ho0 := World.ownsRow_lit (e := 37) (size := 1) (base := w.heap.size + 1) (w.alloc (.cells #[.int .i64 d, .int .i64 l] 46)) #[] 0 (by simp) (by decide) rfl
 rw [show (w.alloc (.cells #[.int .i64 d, .int .i64 l] 46)).heap.size = w.heap.size + 1 by simp] at ho0
 clear q0 q1 hb0
 go_enter Tryz.func270, Tryz.ntmps270
 go_wp2
 go_loopw [3, 4, 5] (fun o j _ wr => ∃ (k : Nat) (vs : List Value), k ≤ 10 ∧ j = .int .i64 (k : Int) ∧ wr.ownsRow (w.heap.size + 1) 37 1 o (grpTo d l k).length vs ∧ Inn wr (w.heap.size + 1) vs (grpTo d l k) ∧ Below w.heap.size w wr ∧ w.heap.size + 1 ≤ wr.heap.size ∧ wr.cell? ⟨w.heap.size, 0, none⟩ = some (.int .i64 d) ∧ wr.cell? ⟨w.heap.size, 1, none⟩ = some (.int .i64 l)) (fun _ j _ _ => 11 - (intOf j).toNat)
 case atStart => exact ⟨0, [], by omega, rfl, ho0, Inn.nil_ _ _, hb2, World.block_lt_of_cell? _ _ r0, r0, r1⟩
 case round =>
  obtain ⟨k, vs, hk, rfl, ho, hin, hb, hsz, g0, g1⟩ := hrel
  clear r0 r1 hb2 ho0
  by_cases hlt : k < 10
  · have hd : decide ((k : Int) < 10) = true := by simp; omega
    have bdx := dg_bd (k : Int)
    have hsc := grpTo_succ d l hlt
    have hle := grpTo_le d l k
    have hh := grpOf_head (d := d) (l := l) hlt
    generalize grpTo d l k = cur at *
    have HS := Lib.hid hsc; have HH := Lib.hid hh; clear hsc hh
    go_wp2_with fail
    go_region_held3 (fun w' => w'.cell? ⟨w.heap.size, 0, none⟩ = some (.int .i64 d) ∧ w'.cell? ⟨w.heap.size, 1, none⟩ = some (.int .i64 l))
     (first | go_keep | (go_split_ands; exact ⟨cell_later hb4 (by assumption), cell_later hb4 (by assumption)⟩) | (go_split_ands; exact ⟨cell_later hb3 (by assumption), cell_later hb3 (by assumption)⟩) | (go_split_ands; exact ⟨cell_later hb9 (by assumption), cell_later hb9 (by assumption)⟩))
     (first | (go_at_call 141; refine (l2Digit_c (k : Int) (by omega) (by omega) _).mono ?_; rintro e w9 ⟨rfl, hb9⟩) | (go_at_call 219; refine (l3Shown_c d l (dg k) d0 d1 l0 l1 bdx.1 bdx.2 _).mono ?_; rintro e w' ⟨rfl, hb3⟩) | (go_at_call 223; refine (l3Digits_c d l (shC d l (dg k)) _ d0 d1 l0 l1).mono ?_; rintro e w'' ⟨ug, rfl, hog, hb4⟩))
    have g02 : w''.cell? ⟨w.heap.size, 0, none⟩ = some (.int .i64 d) := by go_split_ands; assumption
    have g12 : w''.cell? ⟨w.heap.size, 1, none⟩ = some (.int .i64 l) := by go_split_ands; assumption
    have hb34 : Below wr.heap.size wr w'' := Below.chain (Below.chain (Below.chain (Below.refl _ _).drew hb9) hb3) hb4
    have hsz3 : wr.heap.size ≤ w'.heap.size := Nat.le_trans hb9.size hb3.size
    have hb5 := Below.chain hb hb34
    have ho2 := own_keep ho hb34
    have hin2 := hin.keep hb34
    have hsz2 := Nat.le_trans hsz hb34.size
    have hlt0 := hin.lt
    have hog2 : w''.ownsRow w'.heap.size 3 1 ug (grpOf d l k).length (ints (grpOf d l k)) := hog
    obtain ⟨a3, c3, hu3, hc3, hcm3, H3⟩ := (Ints.of_own hog2).parts
    obtain ⟨b3, o3, e3, g3⟩ := H3.out 0 _ HH.out
    subst hu3 e3
    simp only [Nat.add_zero] at g3
    have hpos : 0 < (grpOf d l (k : Int)).length := (List.getElem?_eq_some_iff.1 HH.out).1
    have hposI : (0 : Int) < ((grpOf d l (k : Int)).length : Int) := by omega
    clear hog ho hin hb hb3 hb9 hb4 hb34 g0 g1 H3 HH
    rcases hq : isHead d l (k : Int) with _ | _
    · have hqb : (((grpOf d l (k : Int)).headD (-1)) == (k : Int)) = false := hq
      have hS2 : grpTo d l (k + 1) = cur := by rw [HS.out]; simp [hq]
      have HS2 := Lib.hid hS2; clear hS2 HS hq
      generalize (grpOf d l (k : Int)).headD (-1) = hx at *
      go_wp2
      go_roundw
      case rel => exact ⟨k + 1, vs, by omega, by go_num, by rw [HS2.out]; exact ho2, by rw [HS2.out]; exact hin2, hb5, hsz2, g02, g12⟩
      case measure => simp [intOf]; omega
    · have hqb : (((grpOf d l (k : Int)).headD (-1)) == (k : Int)) = true := hq
      have hS2 : grpTo d l (k + 1) = cur ++ [grpOf d l k] := by rw [HS.out]; simp [hq]
      have HS2 := Lib.hid hS2; clear hS2 HS hq
      have hin3 := hin2.snoc hog2 (by omega) (fun k a ha g hg => Nat.lt_of_lt_of_le (hlt0 k a ha g hg) hsz3)
      generalize hG : (grpOf d l (k : Int)).headD (-1) = hx at *
      clear hG
      generalize grpOf d l (k : Int) = G at *
      go_wp2_with (at_builtin; refine wpList_append_own_at _ rfl _ _ 96 rfl (w.heap.size + 1) 37 i (.slice none 0 0) 1 24 Tryz.underlying96 hi hz0 hz1 hz2 rfl (by decide) _ cur.length vs rfl (ho2.alloc _) ⟨w''.heap.size, 0, none⟩ 1 1 [.slice (some ⟨b3, o3, none⟩) G.length c3] rfl rfl (news_new _ [.slice (some ⟨b3, o3, none⟩) G.length c3] _) (by simp [Value.oneCell']) (by unfold maxLen; omega) (by omega) (by simp; omega) ?_)
      intro v' w3 ho5 hg5 _ _
      have hlt2 := World.block_lt_of_cell? _ _ g02
      have hb7 : Below w.heap.size w w3 := (Below.alc hb5 _).grown hg5 (by have := hb5.size; simp; omega) (fun g hg => by have := (ho2.lt g hg).1; omega)
      have hkeep : ∀ o v, w''.cell? ⟨w.heap.size, o, none⟩ = some v → w3.cell? ⟨w.heap.size, o, none⟩ = some v := fun o v h =>
       hg5.cell (cell_later (below_one _) h) (fun e => by have := (ho2.lt _ e.symm).1; simp at this; omega)
      have g03 := hkeep _ _ g02
      have g13 := hkeep _ _ g12
      have hin5 : Inn w3 (w.heap.size + 1) (vs ++ [.slice (some ⟨b3, o3, none⟩) G.length c3]) (cur ++ [G]) := (hin3.keep (below_one _)).grown (ho2.alloc _) (by decide) hg5
      have hsz3' : w.heap.size + 1 ≤ w3.heap.size := Nat.le_trans (by simp; omega) hg5.size
      clear ho2 hb5 hg5 g02 g12 hkeep hlt2 hsz2 hin2 hin3 hog2 hlt0 g3
      go_wp2
      go_roundw
      case rel => exact ⟨k + 1, _, by omega, by go_num, by rw [HS2.out]; exact ownsRow_cast ho5 (by simp) rfl, by rw [HS2.out]; exact hin5, hb7, hsz3', g03, g13⟩
      case measure => simp [intOf]; omega
  · obtain rfl : k = 10 := by omega
    go_wp2
    go_ret
    exact ⟨_, rfl, ⟨vs, own_lo ho (by omega), ⟨hin.1, fun k v xs h1 h2 => own_lo (hin.2.1 k v xs h1 h2) (by omega), hin.2.2⟩⟩, hb⟩
theorem isHarmless_c (d l : Int) (w : World) (d0 : 0 ≤ d) (d1 : d ≤ 127) (l0 : 0 ≤ l) (l1 : l ≤ 127) :
 Calls Tryz.prog 200 #[.agg #[.int .i64 d, .int .i64 l]] w fun e w' => e = .returned (.bool (decide ((grpL d l).length = 10))) ∧ Below w.heap.size w w' := by
 go_enter Tryz.func200, Tryz.ntmps200
 go_wp2_with fail
 refine (groups_c d l _ d0 d1 l0 l1).mono ?_
 rintro e w1 ⟨u, rfl, ho, hb⟩
 obtain ⟨vs, hov, hin⟩ := ho
 obtain ⟨a, c, rfl, _⟩ := (Sl.of_own hov).slice
 go_wp2
 go_ret
 refine ⟨bool_ret ?_, by (repeat (first | exact Below.refl _ _ | exact (Below.refl _ _).drew | assumption | exact below_one _ | refine Below.chain ?_ (by assumption) | refine Below.drew ?_ | refine Below.alc ?_ _ | refine below_drewN ?_ | (refine Below.setCell ?_ ?_ _) | exact Nat.le_refl _ | (simp; done) | (simp; omega)))⟩
 rw [Bool.eq_iff_iff]; simp; omega
theorem range_below {w w' : World} {g o : Nat} {cs : List Value} (h : w.rangeAt g o cs) (hb : Below w.heap.size w w') : w'.rangeAt g o cs := fun j v hv => cell_later hb (h j v hv)
theorem there_below {w w' : World} {g o n : Nat} (h : w.there g o n) (hb : Below w.heap.size w w') : w'.there g o n := fun j hj => by
 obtain ⟨h1, h2⟩ := h j hj
 obtain ⟨u, hu⟩ := Option.isSome_iff_exists.1 h1
 have hlt := World.block_lt_of_cell? w _ hu
 exact ⟨by rw [cell_later hb hu]; rfl, by rw [hb.frozen (p := ⟨g, o + j, none⟩) hlt]; exact h2⟩
theorem there_new (w : World) (cs : Array Value) (t : TypeId) {n : Nat} (h : n ≤ cs.size) : (w.alloc (.cells cs t)).there w.heap.size 0 n := fun j hj => by
 rw [Nat.zero_add]
 refine ⟨?_, World.frozen?_alloc_new _ _ _ _⟩
 rw [World.cell?_alloc_at _ _ _ _ rfl, Array.getElem?_eq_getElem (by omega)]; rfl
theorem range_new (w : World) (cs : List Value) (t : TypeId) : (w.alloc (.cells cs.toArray t)).rangeAt w.heap.size 0 cs := fun j v hv => by
 rw [Nat.zero_add, World.cell?_alloc_at _ _ _ _ rfl]; simpa using hv
theorem there_sub {w : World} {g o n o' n' : Nat} (h : w.there g o n) (h1 : o ≤ o') (h2 : o' + n' ≤ o + n) : w.there g o' n' := fun j hj => by
 have := h (o' - o + j) (by omega)
 rwa [show o + (o' - o + j) = o' + j by omega] at this
theorem range_sub {w : World} {g o : Nat} {cs : List Value} (h : w.rangeAt g o cs) (p n : Nat) : w.rangeAt g (o + p) ((cs.drop p).take n) := fun j v hv => by
 rw [List.getElem?_take] at hv
 split at hv
 · rw [List.getElem?_drop] at hv
   have := h (p + j) v hv
   rwa [← Nat.add_assoc] at this
 · cases hv
theorem range_append {w : World} {g o : Nat} {xs ys : List Value} (h1 : w.rangeAt g o xs) (h2 : w.rangeAt g (o + xs.length) ys) : w.rangeAt g o (xs ++ ys) := fun j v hv => by
 by_cases hj : j < xs.length
 · rw [List.getElem?_append_left hj] at hv; exact h1 j v hv
 · rw [List.getElem?_append_right (by omega)] at hv
   have := h2 _ v hv
   rwa [show o + xs.length + (j - xs.length) = o + j by omega] at this
theorem below_cells {w : World} : ∀ (vs : List Value) (a : World) (g o : Nat), Below w.heap.size w a → w.heap.size ≤ g → Below w.heap.size w (a.setCells g o vs)
 | [], _, _, _, h, _ => h
 | v :: r, a, g, o, h, hg => by rw [World.setCells]; exact below_cells r _ g (o + 1) (h.setCell hg v) hg
theorem range_grow {w : World} {g : Nat} {xs ys : List Value} (h : w.rangeAt g 0 xs) (ht : w.there g xs.length ys.length) : (w.setCells g xs.length ys).rangeAt g 0 (xs ++ ys) :=
 range_append (World.rangeAt_setCells_apart h _ _ _ (.inr (.inl (by omega)))) (by rw [Nat.zero_add]; exact World.rangeAt_setCells_same _ _ _ _ ht)
theorem wpList_load_want {P : Program} {ops : Array Oper} {rest : List Oper} {op : Oper} {a : Act} {w : World} {Q : Exit → Act → World → Prop} (hw : Region.wanted op (yielded ops a.tmps) = true) (ty : TypeId) (x : Operand) (ho : op.op = .load ty x)
 (b o : Nat) (hx : a.eval x = .pointer (some ⟨b, o, none⟩)) (cs : List Value) (d : TypeDesc) (hc : w.rangeAt b o cs)
 (hu : P.underlying ty = some d) (hd : d.isRow = true) (hi : (P.info? ty).map (·.size) = some cs.length)
 (h : wpList P ops Q rest (a.put op.dst (.agg cs.toArray)) w) : wpList P ops Q (op :: rest) a w :=
 BigFrame.wpList_want hw fun _ hK => wp_load_mid ty x ho b o hx cs d hc hu hd hi (hK _ _ h)
theorem wpList_store_want {P : Program} {ops : Array Oper} {rest : List Oper} {op : Oper} {a : Act} {w : World} {Q : Exit → Act → World → Prop} (hw : Region.wanted op (yielded ops a.tmps) = true) (ty : TypeId) (x y : Operand) (ho : op.op = .store ty x y)
 (b o : Nat) (cs : List Value) (hx : a.eval x = .pointer (some ⟨b, o, none⟩)) (hy : a.eval y = .agg cs.toArray)
 (ht : w.there b o cs.length) (hi : (P.info? ty).map (·.size) = some cs.length) (h1 : ∀ v ∈ cs, v.oneCell' = true)
 (h : wpList P ops Q rest (a.put op.dst undef) (w.setCells b o cs)) : wpList P ops Q (op :: rest) a w :=
 BigFrame.wpList_want hw fun _ hK => wp_store_mid ty x y ho b o cs.toArray hx hy (by simpa using ht) (by simpa using hi) (all_oneCell_toArray h1) (hK _ _ (by simpa using h))
theorem res_cell {P : Program} {fn : Func} {r : Nat} {t : TypeId} {tmps : Array Value} {w : World} {g : Nat} {v : Value} (h : fn.results = #[.cell r t]) (hr : tmps.getD r undef = .pointer (some ⟨g, 0, none⟩)) (hl : (loadVar t ⟨g, 0, none⟩).run P w = .ok v w) :
 (results fn tmps).run P w = .ok v w := by
 unfold results
 rw [h]
 simp only [List.mapM_toArray, List.mapM_cons, List.mapM_nil, Sem.run_bind, Sem.run_pure, Sem.run_map, Result.andThen_ok, hr, asAddr, hl]
 rfl
theorem res_cell2 {P : Program} {fn : Func} {r k : Nat} {t : TypeId} {tmps : Array Value} {w : World} {g : Nat} {v : Value} (h : fn.results = #[.cell r t, .tmp k]) (hr : tmps.getD r undef = .pointer (some ⟨g, 0, none⟩)) (hl : (loadVar t ⟨g, 0, none⟩).run P w = .ok v w) :
 (results fn tmps).run P w = .ok (.tuple #[v, tmps.getD k undef]) w := by
 unfold results
 rw [h]
 simp only [List.mapM_toArray, List.mapM_cons, List.mapM_nil, Sem.run_bind, Sem.run_pure, Sem.run_map, Result.andThen_ok, hr, asAddr, hl]
 rfl
def aggI (b : List Int) : Value := .agg (ints b).toArray
def bg (b : List Int) (j : Nat) : Int := b.getD j 0
def bF (b : List Int) (k : Nat) : Int × Int := (bg b (6 + k), bg b (12 + k))
theorem ints_get {b : List Int} {j : Nat} (h : j < b.length) : (ints b).toArray[j]? = some (.int .i64 (bg b j)) := by
 simp [ints, h, bg]
theorem bench_cell {w w1 : World} {b : List Int} {t : TypeId} (hb : Below (w.alloc (.cells (ints b).toArray t)).heap.size (w.alloc (.cells (ints b).toArray t)) w1) {j : Nat} (h : j < b.length) :
 w1.cell? ⟨w.heap.size, j, none⟩ = some (.int .i64 (bg b j)) := (box_after hb).1 j _ (ints_get h)
theorem bench_range {w w1 : World} {b : List Int} {t : TypeId} (hb : Below (w.alloc (.cells (ints b).toArray t)).heap.size (w.alloc (.cells (ints b).toArray t)) w1) :
 w1.rangeAt w.heap.size 0 (ints b) := fun j v h => by rw [Nat.zero_add]; exact (box_after hb).1 j v (by simpa using h)
theorem wpList_loadB {ops : Array Oper} {rest : List Oper} {op : Oper} {a : Act} {w : World} {Q : Exit → Act → World → Prop} (hw : Region.wanted op (yielded ops a.tmps) = true) (x : Operand) (ho : op.op = .load 26 x)
 (g : Nat) (hx : a.eval x = .pointer (some ⟨g, 0, none⟩)) (b : List Int) (hc : w.rangeAt g 0 (ints b)) (hb : b.length = 19)
 (h : wpList Tryz.prog ops Q rest (a.put op.dst (.agg (ints b).toArray)) w) : wpList Tryz.prog ops Q (op :: rest) a w :=
 wpList_load_want hw _ x ho g 0 hx (ints b) _ hc Tryz.underlying26 rfl (by rw [show (ints b).length = 19 by simp [ints, hb]]; kernel_rfl) h
theorem wpList_load6 {ops : Array Oper} {rest : List Oper} {op : Oper} {a : Act} {w : World} {Q : Exit → Act → World → Prop} (hw : Region.wanted op (yielded ops a.tmps) = true) (x : Operand) (ho : op.op = .load 24 x)
 (g o : Nat) (hx : a.eval x = .pointer (some ⟨g, o, none⟩)) (b : List Int) (hc : w.rangeAt g o (ints b)) (hb : b.length = 6)
 (h : wpList Tryz.prog ops Q rest (a.put op.dst (.agg (ints b).toArray)) w) : wpList Tryz.prog ops Q (op :: rest) a w :=
 wpList_load_want hw _ x ho g o hx (ints b) _ hc Tryz.underlying24 rfl (by rw [show (ints b).length = 6 by simp [ints, hb]]; kernel_rfl) h
theorem ints_one {b : List Int} : ∀ v ∈ ints b, v.oneCell' = true := fun v hv => by
 simp only [ints, List.mem_map] at hv
 obtain ⟨x, _, rfl⟩ := hv
 rfl
theorem wpList_store6 {ops : Array Oper} {rest : List Oper} {op : Oper} {a : Act} {w : World} {Q : Exit → Act → World → Prop} (hw : Region.wanted op (yielded ops a.tmps) = true) (x y : Operand) (ho : op.op = .store 24 x y)
 (g o : Nat) (b : List Int) (hx : a.eval x = .pointer (some ⟨g, o, none⟩)) (hy : a.eval y = .agg (ints b).toArray) (ht : w.there g o 6) (hb : b.length = 6)
 (h : wpList Tryz.prog ops Q rest (a.put op.dst undef) (w.setCells g o (ints b))) : wpList Tryz.prog ops Q (op :: rest) a w :=
 wpList_store_want hw _ x y ho g o (ints b) hx hy (by rw [show (ints b).length = 6 by simp [ints, hb]]; exact ht) (by rw [show (ints b).length = 6 by simp [ints, hb]]; kernel_rfl) ints_one h
theorem wpList_storeB {ops : Array Oper} {rest : List Oper} {op : Oper} {a : Act} {w : World} {Q : Exit → Act → World → Prop} (hw : Region.wanted op (yielded ops a.tmps) = true) (x y : Operand) (ho : op.op = .store 26 x y)
 (g : Nat) (b : List Int) (hx : a.eval x = .pointer (some ⟨g, 0, none⟩)) (hy : a.eval y = .agg (ints b).toArray) (ht : w.there g 0 19) (hb : b.length = 19)
 (h : wpList Tryz.prog ops Q rest (a.put op.dst undef) (w.setCells g 0 (ints b))) : wpList Tryz.prog ops Q (op :: rest) a w :=
 wpList_store_want hw _ x y ho g 0 (ints b) hx hy (by rw [show (ints b).length = 19 by simp [ints, hb]]; exact ht) (by rw [show (ints b).length = 19 by simp [ints, hb]]; kernel_rfl) ints_one h
theorem loadVarB {w : World} {g : Nat} {b : List Int} (h : w.rangeAt g 0 (ints b)) (hb : b.length = 19) : (loadVar 26 ⟨g, 0, none⟩).run Tryz.prog w = .ok (aggI b) w :=
 run_loadVar_mid w g 0 _ (ints b) _ h Tryz.underlying26 rfl (by rw [show (ints b).length = 19 by simp [ints, hb]]; kernel_rfl)
def fsB (b : List Int) : List (Int × Int) := (List.range 6).map (bF b)
def goodAt (b : List Int) (k : Nat) : Bool := cellB (bg b k) && fB (bF b k)
def goodTo (b : List Int) (n : Nat) : Bool := (List.range n).all (goodAt b)
def goodB (b : List Int) : Bool := goodTo b 6 && inB (bg b 18) 0 1000
theorem goodTo_succ (b : List Int) (n : Nat) : goodTo b (n + 1) = (goodTo b n && goodAt b n) := by
 unfold goodTo; rw [List.range_succ, List.all_append]; simp
theorem goodTo_bad {b : List Int} {k n : Nat} (hk : k < n) (h : goodAt b k = false) : goodTo b n = false := by
 unfold goodTo
 rw [Bool.eq_false_iff]; intro h2
 rw [List.all_eq_true] at h2
 rw [h2 k (List.mem_range.2 hk)] at h; cases h
theorem take_range {b : List Int} {n : Nat} (h : n ≤ b.length) : b.take n = (List.range n).map (bg b) := by
 apply List.ext_getElem?
 intro i
 rw [List.getElem?_take, List.getElem?_map]
 by_cases hi : i < n
 · rw [if_pos hi, List.getElem?_range hi, List.getElem?_eq_getElem (by omega)]
   simp [bg, show i < b.length by omega]
 · rw [if_neg hi, List.getElem?_eq_none (by simp; omega)]; rfl
theorem goodB_eq {b : List Int} (hb : b.length = 19) : goodB b = ((rowB (b.take 6) && (fsB b).all fB) && inB (bg b 18) 0 1000) := by
 unfold goodB goodTo rowB fsB
 congr 1
 rw [take_range (by omega), decide_eq_true (by simp), Bool.true_and, List.all_map, List.all_map, Bool.eq_iff_iff]
 simp only [Bool.and_eq_true, List.all_eq_true, goodAt, Function.comp]
 exact ⟨fun h => ⟨fun x hx => (h x hx).1, fun x hx => (h x hx).2⟩, fun h x hx => ⟨h.1 x hx, h.2 x hx⟩⟩
theorem l12Fault_c (b : List Int) (k : Nat) (w : World) (hb : b.length = 19) (hk : k < 6) :
 Calls Tryz.prog 97 #[aggI b, .int .i64 (k : Int)] w fun e w' => e = .returned (.agg #[.int .i64 (bF b k).1, .int .i64 (bF b k).2]) ∧ Below w.heap.size w w' := by
 unfold aggI bF
 have g1 := bench_cell (w := w) (b := b) (t := 26) (below_one (.cells #[.int .i64 0, .int .i64 0] 46)) (j := 6 + k) (by omega)
 have g2 := bench_cell (w := w) (b := b) (t := 26) (below_one (.cells #[.int .i64 0, .int .i64 0] 46)) (j := 12 + k) (by omega)
 go_enter Tryz.func97, Tryz.ntmps97
 go_wp2
 go_region
 go_wp2
 exact bodyPost_ret (v := .agg #[.int .i64 (bg b (6 + k)), .int .i64 (bg b (12 + k))]) (by simp [results, Tryz.results97, go_sem]) rfl ⟨rfl, by (repeat (first | exact Below.refl _ _ | exact (Below.refl _ _).drew | assumption | exact below_one _ | refine Below.chain ?_ (by assumption) | refine Below.drew ?_ | refine Below.alc ?_ _ | refine below_drewN ?_ | (refine Below.setCell ?_ ?_ _) | exact Nat.le_refl _ | (simp; done) | (simp; omega)))⟩
theorem bfault_c (b : List Int) (k : Nat) (w : World) (hb : b.length = 19) (hk : k < 6) :
 Calls Tryz.prog 107 #[aggI b, .int .i64 (k : Int)] w fun e w' => e = .returned (.agg #[.int .i64 (bF b k).1, .int .i64 (bF b k).2]) ∧ Below w.heap.size w w' := by
 unfold aggI bF
 have g1 := bench_cell (w := w) (b := b) (t := 26) (below_one (.cells #[.int .i64 0, .int .i64 0] 46)) (j := 6 + k) (by omega)
 have g2 := bench_cell (w := w) (b := b) (t := 26) (below_one (.cells #[.int .i64 0, .int .i64 0] 46)) (j := 12 + k) (by omega)
 go_enter Tryz.func107, Tryz.ntmps107
 go_wp2
 go_region
 go_wp2
 exact bodyPost_ret (v := .agg #[.int .i64 (bg b (6 + k)), .int .i64 (bg b (12 + k))]) (by simp [results, Tryz.results107, go_sem]) rfl ⟨rfl, by (repeat (first | exact Below.refl _ _ | exact (Below.refl _ _).drew | assumption | exact below_one _ | refine Below.chain ?_ (by assumption) | refine Below.drew ?_ | refine Below.alc ?_ _ | refine below_drewN ?_ | (refine Below.setCell ?_ ?_ _) | exact Nat.le_refl _ | (simp; done) | (simp; omega)))⟩
theorem l12Good_c (b : List Int) (w : World) (hb : b.length = 19) :
 Calls Tryz.prog 52 #[aggI b] w fun e w' => e = .returned (.bool (goodB b)) ∧ Below w.heap.size w w' := by
 unfold aggI
 have HW : Hid (∀ wr, Below (w.alloc (.cells (ints b).toArray 26)).heap.size (w.alloc (.cells (ints b).toArray 26)) wr → Below w.heap.size w wr) := fun wr h => Below.chain (below_one _) h
 go_enter Tryz.func52, Tryz.ntmps52
 go_wp2
 generalize hwb : w.alloc (.cells (ints b).toArray 26) = wb at *
 go_loopw [3] (fun j wr => ∃ k : Nat, k ≤ 6 ∧ j = .int .i64 (k : Int) ∧ goodTo b k = true ∧ Below wb.heap.size wb wr) (fun j _ => 7 - (intOf j).toNat)
 case atStart => exact ⟨0, by omega, rfl, rfl, Below.refl _ _⟩
 case round =>
  obtain ⟨k, hk, rfl, hgt, hbw⟩ := hrel
  have hbr := hbw
  subst hwb
  by_cases hlt : k < 6
  · have hd : decide ((k : Int) < 6) = true := by simp; omega
    have g0 := bench_cell hbw (j := k) (by omega)
    have HS := Lib.hid (goodTo_succ b k)
    have HB := Lib.hid (fun h => goodTo_bad (b := b) (n := 6) hlt h)
    go_wp2_with fail
    refine (l2Cell_c _ _).mono ?_
    rintro e w2 ⟨rfl, rfl⟩
    rcases hq : cellB (bg b k) with _ | _
    · have hF : goodB b = false := by unfold goodB; rw [HB.out (by unfold goodAt; rw [hq]; rfl)]; rfl
      have HF := Lib.hid hF; clear hF
      go_wp2
      go_ret
      exact ⟨by rw [HF.out]; rfl, HW.out _ hbr⟩
    · have hr := bench_range hbw
      go_wp2_with (refine wpList_loadB rfl _ rfl _ rfl b hr hb ?_)
      refine (l12Fault_c b k _ hb hlt).mono ?_
      rintro e w3 ⟨rfl, hb3⟩
      have hb4 := Below.chain hbr hb3
      clear hb3 hbr hr g0
      go_wp2_with fail
      refine (l3Fault_c _ _ _).mono ?_
      rintro e w4 ⟨rfl, hb5⟩
      have hb6 := Below.chain hb4 hb5
      clear hb4 hb5
      rcases hq2 : faultB (bF b k).1 (bF b k).2 with _ | _
      · have hF : goodB b = false := by unfold goodB; rw [HB.out (by unfold goodAt fB; rw [hq2, Bool.and_false])]; rfl
        have HF := Lib.hid hF; clear hF
        go_wp2
        go_ret
        exact ⟨by rw [HF.out]; rfl, HW.out _ hb6⟩
      · have hF : goodTo b (k + 1) = true := by rw [HS.out, hgt]; unfold goodAt fB; rw [hq, hq2]; rfl
        have HF := Lib.hid hF; clear hF
        go_wp2
        go_roundw
        case rel => exact ⟨k + 1, by omega, by go_num, HF.out, hb6⟩
        case measure => simp [intOf]; omega
  · obtain rfl : k = 6 := by omega
    have g0 := bench_cell hbw (j := 18) (by omega)
    have hF : goodB b = inB (bg b 18) 0 1000 := by unfold goodB; rw [hgt]; rfl
    have HF := Lib.hid hF; clear hF
    go_wp2_with fail
    refine (l1In_c _ _ _ _).mono ?_
    rintro e w2 ⟨rfl, rfl⟩
    go_wp2
    go_ret
    exact ⟨by rw [HF.out]; rfl, HW.out _ hbr⟩
def fsTo (b : List Int) (n : Nat) : List (Int × Int) := (List.range n).map (bF b)
theorem fsTo_succ (b : List Int) (n : Nat) : fsTo b (n + 1) = fsTo b n ++ [bF b n] := by unfold fsTo; rw [List.range_succ, List.map_append]; rfl
theorem faults_c (b : List Int) (w : World) (hb : b.length = 19) :
 Calls Tryz.prog 93 #[aggI b] w fun e w' => ∃ u, e = .returned u ∧ w'.ownsRow w.heap.size 46 2 u 6 (flat2 (fsB b)) ∧ Below w.heap.size w w' := by
 unfold aggI
 obtain ⟨i, hi, hz0, hz1, hz2⟩ := info_parts info_Fault
 have HW : Hid (∀ wr, Below (w.alloc (.cells (ints b).toArray 26)).heap.size (w.alloc (.cells (ints b).toArray 26)) wr → Below w.heap.size w wr) := fun wr h => Below.chain (below_one _) h
 go_enter Tryz.func93, Tryz.ntmps93
 go_wp2
 generalize hwb : w.alloc (.cells (ints b).toArray 26) = wb at *
 have hwz : w.heap.size + 1 = wb.heap.size := by rw [← hwb]; simp
 go_loopw [3, 5] (fun o j wr => ∃ k : Nat, k ≤ 6 ∧ j = .int .i64 (k : Int) ∧ wr.ownsRow wb.heap.size 46 2 o k (flat2 (fsTo b k)) ∧ Below wb.heap.size wb wr) (fun _ j _ => 7 - (intOf j).toNat)
 case atStart => exact ⟨0, by omega, rfl, World.ownsRow_nil _ _ _ _, Below.refl _ _⟩
 case round =>
  obtain ⟨k, hk, rfl, ho, hbw⟩ := hrel
  by_cases hlt : k < 6
  · have hd : decide ((k : Int) < 6) = true := by simp; omega
    have hr : wr.rangeAt w.heap.size 0 (ints b) := by subst hwb; exact bench_range hbw
    obtain ⟨f1, f2, hf⟩ : ∃ f1 f2, bF b k = (f1, f2) := ⟨_, _, rfl⟩
    have hs := fsTo_succ b k
    rw [hf] at hs
    have HS := Lib.hid hs; have HF := Lib.hid hf; clear hs hf
    go_wp2_with (refine wpList_loadB rfl _ rfl _ rfl b hr hb ?_)
    refine (bfault_c b k _ hb hlt).mono ?_
    rintro e w3 ⟨he, hb3⟩
    rw [HF.out] at he
    subst he
    have hb4 := Below.chain hbw hb3
    have ho4 := own_keep ho hb3
    clear hb3 hbw hr ho HF
    go_wp2_with (at_builtin; refine wpList_append_own_at _ rfl _ _ 127 rfl wb.heap.size 46 i (.agg #[.int .i64 0, .int .i64 0]) 2 16 Tryz.underlying127 hi hz0 hz1 hz2 rfl (by decide) _ k (flat2 (fsTo b k)) rfl (ho4.alloc _) ⟨w3.heap.size, 0, none⟩ 1 1 [.int .i64 f1, .int .i64 f2] rfl rfl (news_new _ [.int .i64 f1, .int .i64 f2] _) (by simp [Value.oneCell']) (by unfold maxLen; omega) (by omega) (by have := hb4.size; simp; omega) ?_)
    intro v' w4 ho5 hg5 _ _
    have hb7 : Below wb.heap.size wb w4 := (Below.alc hb4 _).grown hg5 (by have := hb4.size; simp; omega) (fun g hg => (ho4.lt g hg).1)
    clear ho4 hb4 hg5
    go_wp2
    go_roundw
    case rel => exact ⟨k + 1, by omega, by go_num, by rw [HS.out]; exact ownsRow_cast ho5 rfl (flat2_snoc _ _ _).symm, hb7⟩
    case measure => simp [intOf]; omega
  · obtain rfl : k = 6 := by omega
    go_wp2
    go_ret
    exact ⟨_, rfl, own_lo ho (by omega), HW.out _ hbw⟩
theorem ints_box {w w1 : World} {b : List Int} {t : TypeId} (hb : Below (w.alloc (.cells (ints b).toArray t)).heap.size (w.alloc (.cells (ints b).toArray t)) w1) {n : Nat} (h : n ≤ b.length) (hm : b.length ≤ 1000) (c : Nat) (hc : n ≤ c) (hcm : c ≤ 1000) :
 Ints w1 (.slice (some ⟨w.heap.size, 0, none⟩) n c) (b.take n) := by
 have hl : (b.take n).length = n := by rw [List.length_take]; omega
 refine ⟨_, _, by rw [hl], by rw [hl]; exact hc, by unfold maxLen; omega, by simp, fun _ => ⟨_, _, rfl, fun j hj => ?_⟩⟩
 rw [hl] at hj
 rw [Nat.zero_add, bench_cell hb (by omega), List.getElem?_map, List.getElem?_take, if_pos (by omega), List.getElem?_eq_getElem (by omega)]
 simp [bg, show j < b.length by omega]
theorem IsBench_c (b : List Int) (w : World) (hb : b.length = 19) :
 Calls Tryz.prog 51 #[aggI b] w fun e w' => e = .returned (.bool (goodB b)) ∧ Below w.heap.size w w' := by
 unfold aggI
 have hcl : CallsIt 62 := fun bs w => by kernel_rfl
 have HW : Hid (∀ wr, Below (w.alloc (.cells (ints b).toArray 26)).heap.size (w.alloc (.cells (ints b).toArray 26)) wr → Below w.heap.size w wr) := fun wr h => Below.chain (below_one _) h
 have hI := ints_box (w := w) (b := b) (t := 26) (Below.refl _ _) (n := 6) (by omega) (by omega) 6 (by omega) (by omega)
 have HG := Lib.hid (goodB_eq hb)
 go_enter Tryz.func51, Tryz.ntmps51
 go_wp2_with fail
 refine (IsRow_c _ _ _ hI).mono ?_
 rintro e w2 ⟨rfl, hb2⟩
 have hr := bench_range hb2
 have g18 := bench_cell hb2 (j := 18) (by omega)
 rcases hq : rowB (b.take 6) with _ | _
 · have HF := Lib.hid (show goodB b = false by rw [HG.out, hq]; rfl)
   clear HG hI
   go_wp2
   go_ret
   exact ⟨by rw [HF.out]; rfl, HW.out _ hb2⟩
 · go_wp2_with (refine wpList_loadB rfl _ rfl _ rfl b hr hb ?_)
   refine (faults_c b _ hb).mono ?_
   rintro e w3 ⟨u, rfl, ho, hb3⟩
   have hb4 := Below.chain hb2 hb3
   have g18' := bench_cell hb4 (j := 18) (by omega)
   clear g18 hb2 hb3 hr hI
   have hP : Pairs w3 u (fsB b) := Pairs.of_own ho
   clear ho
   go_wp2_with fail
   refine (areAllFault_c _ (fsB b) 62 fB _ hP hcl (fun x w' => IsFault_c x.1 x.2 w')).mono ?_
   rintro e w4 ⟨rfl, hb5⟩
   have hb6 := Below.chain hb4 hb5
   have g18 := bench_cell hb6 (j := 18) (by omega)
   clear g18' hb4 hb5 hP
   rcases hq2 : (fsB b).all fB with _ | _
   · have HF := Lib.hid (show goodB b = false by rw [HG.out, hq, hq2]; rfl)
     clear HG
     go_wp2
     go_ret
     exact ⟨by rw [HF.out]; rfl, HW.out _ hb6⟩
   · have HF := Lib.hid (show goodB b = inB (bg b 18) 0 1000 by rw [HG.out, hq, hq2]; rfl)
     clear HG
     go_wp2_with fail
     refine (within_c _ _ _ _).mono ?_
     rintro e w5 ⟨rfl, rfl⟩
     go_wp2
     go_ret
     exact ⟨by rw [HF.out]; rfl, HW.out _ hb6⟩
end Go.Proofs.YtohgjfdbnkjefaaGreatDoor
namespace Go.Proofs.YtohgjfdbnkjefaaGreatDoor
open Go.ChangeShapes Go.WideShapes Go.ChangeAt Go.RowKit Go.Joins Go.Deep
set_option linter.unusedVariables false
set_option maxRecDepth 100000
theorem all_ints {cs : List Value} (h : ∀ i, i < cs.length → ∃ m, cs[i]? = some (.int .i64 m)) : ∃ xs, cs = ints xs ∧ xs.length = cs.length := by
 refine ⟨cs.map intOf, ?_, by simp⟩
 apply List.ext_getElem?
 intro i
 simp only [ints, List.getElem?_map, Option.map_map]
 by_cases hi : i < cs.length
 · obtain ⟨m, hm⟩ := h i hi
   rw [hm]; rfl
 · rw [List.getElem?_eq_none (by omega)]; rfl
section
variable {H : Type} {enc : TypeId × Value → H} {w : World} {base : Nat} {spare : Nat → Bool} {held : Bool}
theorem take_one {cs : List Value} {i : Nat} {v : Value} (h : (cs.drop i).take 1 = [v]) : cs[i]? = some v := by
 have : ((cs.drop i).take 1)[0]? = some v := by rw [h]; rfl
 rw [List.getElem?_take, if_pos (by omega), List.getElem?_drop] at this
 simpa using this
theorem open_arr {t e : TypeId} {n fuel : Nat} {cs : List Value} {x : DataW H × List MemPlace} (ht : Tryz.prog.underlying t = some (.array n e)) (he : Tryz.prog.underlying e = some (.int .i64)) (hce : Tryz.prog.cellsOf e = 1)
 (h : DataW.trod enc Tryz.prog w base spare held fuel t cs = some x) : ∀ i, i < n → ∃ m, cs[i]? = some (.int .i64 m) := by
 obtain ⟨xs, m, _, _, hl, hx, hf⟩ := DataW.trod_array ht h
 intro i hi
 have h1 := hf i hi
 rw [hce, Nat.mul_one, List.getElem?_eq_getElem (by omega)] at h1
 obtain ⟨k, hk, _, _⟩ := DataW.trod_int he h1
 exact ⟨k, take_one hk⟩
theorem sub_int {cs : List Value} {o n : Nat} (h : ∀ i, i < n → ∃ m, ((cs.drop o).take n)[i]? = some (.int .i64 m)) : ∀ i, o ≤ i → i < o + n → ∃ m, cs[i]? = some (.int .i64 m) := by
 intro i h1 h2
 obtain ⟨m, hm⟩ := h (i - o) (by omega)
 rw [List.getElem?_take, if_pos (by omega), List.getElem?_drop, show o + (i - o) = i by omega] at hm
 exact ⟨m, hm⟩
theorem bench_cells {t : TypeId} {f0 f1 f2 f3 : Field} {fuel : Nat} {cs : List Value} {x : DataW H × List MemPlace} (hs : Tryz.prog.underlying t = some (.struct #[f0, f1, f2, f3]))
 (t0 : f0.type = 24 ∧ f0.offset = 0) (t1 : f1.type = 24 ∧ f1.offset = 6) (t2 : f2.type = 24 ∧ f2.offset = 12) (t3 : f3.type = 3 ∧ f3.offset = 18) (hC : Tryz.prog.cellsOf t = 19)
 (h : DataW.trod enc Tryz.prog w base spare held fuel t cs = some x) : ∃ b, cs = ints b ∧ b.length = 19 := by
 obtain ⟨y0, y1, y2, y3, n, _, hl, h0, h1, h2, h3⟩ := trod_struct4 hs h
 have c6 : Tryz.prog.cellsOf 24 = 6 := by kernel_rfl
 have c1 : Tryz.prog.cellsOf 3 = 1 := by kernel_rfl
 rw [t0.1, t0.2, c6] at h0
 rw [t1.1, t1.2, c6] at h1
 rw [t2.1, t2.2, c6] at h2
 rw [t3.1, t3.2, c1] at h3
 have g0 := sub_int (open_arr Tryz.underlying24 Tryz.underlying3 c1 h0)
 have g1 := sub_int (open_arr Tryz.underlying24 Tryz.underlying3 c1 h1)
 have g2 := sub_int (open_arr Tryz.underlying24 Tryz.underlying3 c1 h2)
 obtain ⟨k, hk, _, _⟩ := DataW.trod_int Tryz.underlying3 h3
 have g3 := take_one hk
 rw [hC] at hl
 obtain ⟨b, hb1, hb2⟩ := all_ints (cs := cs) (fun i hi => by
  rcases Nat.lt_or_ge i 6 with h | h
  · exact g0 i (by omega) (by omega)
  rcases Nat.lt_or_ge i 12 with h | h
  · exact g1 i (by omega) (by omega)
  rcases Nat.lt_or_ge i 18 with h | h
  · exact g2 i (by omega) (by omega)
  · obtain rfl : i = 18 := by omega
    exact ⟨k, g3⟩)
 exact ⟨b, hb1, by omega⟩
end
end Go.Proofs.YtohgjfdbnkjefaaGreatDoor
namespace Go.Proofs.YtohgjfdbnkjefaaGreatDoor
end Go.Proofs.YtohgjfdbnkjefaaGreatDoor
