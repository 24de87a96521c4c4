import Derived.Test.YtohgjfdbnkjefaaGreatDoorKc6
import Derived.Deep.MidRow
import Derived.Deep.AppendLies
import Derived.Lib.SliceRun
open Go.Lib (hid)
namespace Go.Proofs.YtohgjfdbnkjefaaGreatDoor
open Go.RowKit
set_option linter.unusedVariables false
set_option maxRecDepth 100000
abbrev ints (xs : List Int) : List Value := xs.map (Value.int .i64)
def Inn (w : World) (lo : Nat) (vs : List Value) (xss : List (List Int)) : Prop :=
 vs.length = xss.length ∧ (∀ (k : Nat) (v : Value) (xs : List Int), vs[k]? = some v → xss[k]? = some xs → w.ownsRow lo 3 1 v xs.length (ints xs)) ∧
 (∀ (i j : Nat) (a b : Value), i < j → vs[i]? = some a → vs[j]? = some b → b.ownBlock = none ∨ b.ownBlock ≠ a.ownBlock)
def OwnSS (w : World) (lo : Nat) (u : Value) (xss : List (List Int)) : Prop :=
 ∃ vs, w.ownsRow lo 37 1 u xss.length vs ∧ Inn w lo vs xss
theorem own_ne_type {w : World} {lo lo' size size' n n' : Nat} {e e' : TypeId} {v v' : Value} {xs xs' : List Value} (h : w.ownsRow lo e size v n xs) (h' : w.ownsRow lo' e' size' v' n' xs') (hne : e ≠ e') : v.ownBlock = none ∨ v.ownBlock ≠ v'.ownBlock := by
 rcases h.2 with ⟨rfl, _⟩ | ⟨g, c, cur, rfl, _, hg, _⟩
 · exact .inl rfl
 · rcases h'.2 with ⟨rfl, _⟩ | ⟨g', c', cur', rfl, _, hg', _⟩
   · right; simp [Value.ownBlock]
   · right
     intro e0
     simp [Value.ownBlock] at e0
     subst e0
     rw [hg] at hg'
     injection hg' with h1; injection h1 with _ h2; exact hne h2
theorem Inn.nil_ (w : World) (lo : Nat) : Inn w lo [] [] := ⟨rfl, fun k v xs h => by simp at h, fun i j a b _ h => by simp at h⟩
theorem Inn.keep {w w' : World} {lo : Nat} {vs : List Value} {xss : List (List Int)} (h : Inn w lo vs xss) (hb : Below w.heap.size w w') : Inn w' lo vs xss :=
 ⟨h.1, fun k v xs h1 h2 => own_keep (h.2.1 k v xs h1 h2) hb, h.2.2⟩
theorem Inn.grown {w w' : World} {lo lo' size n : Nat} {e : TypeId} {u : Value} {us : List Value} {vs : List Value} {xss : List (List Int)} (h : Inn w lo vs xss) (ho : w.ownsRow lo' e size u n us) (hne : (3 : Nat) ≠ e) (hg : w.grownBy w' u.ownBlock) : Inn w' lo vs xss :=
 ⟨h.1, fun k v xs h1 h2 => (h.2.1 k v xs h1 h2).kept hg (own_ne_type (h.2.1 k v xs h1 h2) ho hne), h.2.2⟩
theorem Inn.snoc {w : World} {lo lo2 : Nat} {vs : List Value} {xss : List (List Int)} {v : Value} {xs : List Int} (h : Inn w lo vs xss) (hv : w.ownsRow lo2 3 1 v xs.length (ints xs)) (hl : lo ≤ lo2)
 (hnew : ∀ (k : Nat) (a : Value), vs[k]? = some a → ∀ g, a.ownBlock = some g → g < lo2) : Inn w lo (vs ++ [v]) (xss ++ [xs]) := by
 refine ⟨by simp [h.1], fun k a ys h1 h2 => ?_, fun i j a b hij h1 h2 => ?_⟩
 · by_cases hk : k < vs.length
   · rw [List.getElem?_append_left hk] at h1
     rw [List.getElem?_append_left (by rw [← h.1]; exact hk)] at h2
     exact h.2.1 k a ys h1 h2
   · rw [List.getElem?_append_right (by omega)] at h1
     rw [List.getElem?_append_right (by rw [← h.1]; omega)] at h2
     have hk0 : k - vs.length = 0 := by
      by_cases hz : k - vs.length = 0
      · exact hz
      · rw [List.getElem?_eq_none (by simp; omega)] at h1; cases h1
     have hk1 : k - xss.length = 0 := by rw [← h.1]; exact hk0
     rw [hk0] at h1; rw [hk1] at h2
     simp at h1 h2
     subst h1 h2
     exact own_lo hv hl
 · by_cases hj : j < vs.length
   · rw [List.getElem?_append_left (by omega)] at h1
     rw [List.getElem?_append_left hj] at h2
     exact h.2.2 i j a b hij h1 h2
   · rw [List.getElem?_append_right (by omega)] at h2
     have hj0 : j - vs.length = 0 := by
      by_cases hz : j - vs.length = 0
      · exact hz
      · rw [List.getElem?_eq_none (by simp; omega)] at h2; cases h2
     rw [hj0] at h2; simp at h2; subst h2
     rw [List.getElem?_append_left (by omega)] at h1
     cases hb : v.ownBlock with
     | none => exact .inl rfl
     | some g =>
      right; intro e
      have h3 := (hv.lt g hb).1
      have h4 := hnew i a h1 g e.symm
      omega
theorem Inn.lt {w : World} {lo : Nat} {vs : List Value} {xss : List (List Int)} (h : Inn w lo vs xss) : ∀ (k : Nat) (a : Value), vs[k]? = some a → ∀ g, a.ownBlock = some g → g < w.heap.size := by
 intro k a ha g hg
 have hk : k < xss.length := by rw [← h.1]; exact (List.getElem?_eq_some_iff.1 ha).1
 exact ((h.2.1 k a _ ha (List.getElem?_eq_getElem hk)).lt g hg).2
/-! the groups -/
def grpOf (d l x : Int) : List Int := digL d l (shC d l (dg x))
def isHead (d l x : Int) : Bool := (grpOf d l x).headD (-1) == x
def grpTo (d l : Int) (n : Nat) : List (List Int) := ((tenI.take n).filter (isHead d l)).map (grpOf d l)
def grpL (d l : Int) : List (List Int) := grpTo d l 10
theorem grpTo_le (d l : Int) (n : Nat) : (grpTo d l n).length ≤ 10 := by
 unfold grpTo
 rw [List.length_map]
 exact Nat.le_trans (List.length_filter_le _ _) (by rw [List.length_take]; simp [tenI]; omega)
theorem grpTo_succ (d l : Int) {n : Nat} (h : n < 10) : grpTo d l (n + 1) = grpTo d l n ++ if isHead d l n then [grpOf d l n] else [] := by
 unfold grpTo
 rw [take_snoc (tenI_at h), List.filter_append, List.map_append]
 cases hq : isHead d l n <;> simp [hq]
theorem grpOf_head {d l : Int} {n : Nat} (h : n < 10) : (grpOf d l n)[0]? = some ((grpOf d l n).headD (-1)) := by
 have hm : (n : Int) ∈ grpOf d l n := by
  unfold grpOf digL
  rw [List.mem_filter]
  exact ⟨List.mem_of_getElem? (tenI_at h), by simp⟩
 cases hg : grpOf d l n with
 | nil => rw [hg] at hm; simp at hm
 | cons a t => simp
theorem info_ints : (Tryz.prog.info? 37).map (fun i => (i.zero, i.size, i.bytes)) = some (some (.slice none 0 0), 1, 24) := by kernel_rfl
theorem groups_c (d l : Int) (w : World) (d0 : 0 ≤ d) (d1 : d ≤ 127) (l0 : 0 ≤ l) (l1 : l ≤ 127) :
 Calls Tryz.prog 63 #[.agg #[.int .i64 d, .int .i64 l]] w fun e w' => ∃ u, e = .returned u ∧ OwnSS w' w.heap.size u (grpL d l) ∧ Below w.heap.size w w' := by
 obtain ⟨i, hi, hz0, hz1, hz2⟩ := info_parts info_ints
 have q0 : (w.alloc (.cells #[.int .i64 d, .int .i64 l] 46)).cell? ⟨w.heap.size, 0, none⟩ = some (.int .i64 d) := by rw [World.cell?_alloc_at _ _ _ _ rfl]; rfl
 have q1 : (w.alloc (.cells #[.int .i64 d, .int .i64 l] 46)).cell? ⟨w.heap.size, 1, none⟩ = some (.int .i64 l) := by rw [World.cell?_alloc_at _ _ _ _ rfl]; rfl
 have hb0 := below_one (w := w) (.cells #[.int .i64 d, .int .i64 l] 46)
 go_enter Tryz.func63, Tryz.ntmps63
 go_wp2_with fail
 refine (digitCells_c _).mono ?_
 rintro e w1 ⟨rfl, hb1⟩
 have r0 := cell_later hb1 q0
 have r1 := cell_later hb1 q1
 have hb2 := Below.chain hb0 hb1
 clear q0 q1 hb0 hb1
 go_wp2
 go_loopw [3, 4, 5, 6, 8] (fun o _ _ _ j wr => ∃ (k : Nat) (vs : List Value), k ≤ 10 ∧ j = .int .i64 (k : Int) ∧ wr.ownsRow (w.heap.size + 1) 37 1 o (grpTo d l k).length vs ∧ Inn wr (w.heap.size + 1) vs (grpTo d l k) ∧ Below w.heap.size w wr ∧ w.heap.size + 1 ≤ wr.heap.size ∧ wr.cell? ⟨w.heap.size, 0, none⟩ = some (.int .i64 d) ∧ wr.cell? ⟨w.heap.size, 1, none⟩ = some (.int .i64 l)) (fun _ _ _ _ j _ => 11 - (intOf j).toNat)
 case atStart => exact ⟨0, [], by omega, rfl, World.ownsRow_nil _ _ _ _, Inn.nil_ _ _, hb2, World.block_lt_of_cell? _ _ r0, r0, r1⟩
 case round =>
  obtain ⟨k, vs, hk, rfl, ho, hin, hb, hsz, g0, g1⟩ := hrel
  clear r0 r1 hb2
  by_cases hlt : k < 10
  · have hd : decide ((k : Int) < 10) = true := by simp; omega
    have hix := fun w => index_dig (k : Int) (by omega) (by omega) w
    have bdx := dg_bd (k : Int)
    have hsc := grpTo_succ d l hlt
    have hle := grpTo_le d l k
    have hh := grpOf_head (d := d) (l := l) hlt
    generalize grpTo d l k = cur at *
    have HS := hid hsc; have HH := hid hh; clear hsc hh
    go_wp2_with fail
    go_region_held3 (fun w' => w'.cell? ⟨w.heap.size, 0, none⟩ = some (.int .i64 d) ∧ w'.cell? ⟨w.heap.size, 1, none⟩ = some (.int .i64 l))
     (first | go_keep | (go_split_ands; exact ⟨cell_later hb3 (by assumption), cell_later hb3 (by assumption)⟩) | (go_split_ands; exact ⟨cell_later hb4 (by assumption), cell_later hb4 (by assumption)⟩))
     (first | (go_at_call 108; refine (shown_c d l (dg k) d0 d1 l0 l1 bdx.1 bdx.2 _).mono ?_; rintro e w' ⟨rfl, hb3⟩) | (go_at_call 115; refine (digits_c d l (shC d l (dg k)) _ d0 d1 l0 l1).mono ?_; rintro e w'' ⟨ug, rfl, hog, hb4⟩))
    have g02 : w''.cell? ⟨w.heap.size, 0, none⟩ = some (.int .i64 d) := by go_split_ands; assumption
    have g12 : w''.cell? ⟨w.heap.size, 1, none⟩ = some (.int .i64 l) := by go_split_ands; assumption
    have hb34 : Below wr.heap.size wr w'' := Below.chain (Below.chain (Below.refl _ _).drew hb3) hb4
    have hsz3 : wr.heap.size ≤ w'.heap.size := hb3.size
    have hb5 := Below.chain hb hb34
    have ho2 := own_keep ho hb34
    have hin2 := hin.keep hb34
    have hsz2 := Nat.le_trans hsz hb34.size
    have hlt0 := hin.lt
    have hog2 : w''.ownsRow w'.heap.size 3 1 ug (grpOf d l k).length (ints (grpOf d l k)) := hog
    obtain ⟨a3, c3, hu3, hc3, hcm3, H3⟩ := (Ints.of_own hog2).parts
    obtain ⟨b3, o3, e3, g3⟩ := H3.out 0 _ HH.out
    subst hu3 e3
    simp only [Nat.add_zero] at g3
    have hpos : 0 < (grpOf d l (k : Int)).length := (List.getElem?_eq_some_iff.1 HH.out).1
    have hposI : (0 : Int) < ((grpOf d l (k : Int)).length : Int) := by omega
    clear hog ho hin hb hb3 hb4 hb34 g0 g1 H3 HH hix
    rcases hq : isHead d l (k : Int) with _ | _
    · have hqb : (((grpOf d l (k : Int)).headD (-1)) == (k : Int)) = false := hq
      have hS2 : grpTo d l (k + 1) = cur := by rw [HS.out]; simp [hq]
      have HS2 := hid hS2; clear hS2 HS hq
      generalize (grpOf d l (k : Int)).headD (-1) = hx at *
      go_wp2
      go_roundw
      case rel => exact ⟨k + 1, vs, by omega, by go_num, by rw [HS2.out]; exact ho2, by rw [HS2.out]; exact hin2, hb5, hsz2, g02, g12⟩
      case measure => simp [intOf]; omega
    · have hqb : (((grpOf d l (k : Int)).headD (-1)) == (k : Int)) = true := hq
      have hS2 : grpTo d l (k + 1) = cur ++ [grpOf d l k] := by rw [HS.out]; simp [hq]
      have HS2 := hid hS2; clear hS2 HS hq
      have hin3 := hin2.snoc hog2 (by omega) (fun k a ha g hg => Nat.lt_of_lt_of_le (hlt0 k a ha g hg) hsz3)
      generalize hG : (grpOf d l (k : Int)).headD (-1) = hx at *
      clear hG
      generalize grpOf d l (k : Int) = G at *
      go_wp2_with (at_builtin; refine wpList_append_own_at _ rfl _ _ 96 rfl (w.heap.size + 1) 37 i (.slice none 0 0) 1 24 Tryz.underlying96 hi hz0 hz1 hz2 rfl (by decide) _ cur.length vs rfl (ho2.alloc _) ⟨w''.heap.size, 0, none⟩ 1 1 [.slice (some ⟨b3, o3, none⟩) G.length c3] rfl rfl (news_new _ [.slice (some ⟨b3, o3, none⟩) G.length c3] _) (by simp [Value.oneCell']) (by unfold maxLen; omega) (by omega) (by simp; omega) ?_)
      intro v' w3 ho5 hg5 _ _
      have hlt2 := World.block_lt_of_cell? _ _ g02
      have hb7 : Below w.heap.size w w3 := (Below.alc hb5 _).grown hg5 (by have := hb5.size; simp; omega) (fun g hg => by have := (ho2.lt g hg).1; omega)
      have hkeep : ∀ o v, w''.cell? ⟨w.heap.size, o, none⟩ = some v → w3.cell? ⟨w.heap.size, o, none⟩ = some v := fun o v h =>
       hg5.cell (cell_later (below_one _) h) (fun e => by have := (ho2.lt _ e.symm).1; simp at this; omega)
      have g03 := hkeep _ _ g02
      have g13 := hkeep _ _ g12
      have hin5 : Inn w3 (w.heap.size + 1) (vs ++ [.slice (some ⟨b3, o3, none⟩) G.length c3]) (cur ++ [G]) := (hin3.keep (below_one _)).grown (ho2.alloc _) (by decide) hg5
      have hsz3' : w.heap.size + 1 ≤ w3.heap.size := Nat.le_trans (by simp; omega) hg5.size
      clear ho2 hb5 hg5 g02 g12 hkeep hlt2 hsz2 hin2 hin3 hog2 hlt0 g3
      go_wp2
      go_roundw
      case rel => exact ⟨k + 1, _, by omega, by go_num, by rw [HS2.out]; exact ownsRow_cast ho5 (by simp) rfl, by rw [HS2.out]; exact hin5, hb7, hsz3', g03, g13⟩
      case measure => simp [intOf]; omega
  · obtain rfl : k = 10 := by omega
    go_wp2
    go_ret
    exact ⟨_, rfl, ⟨vs, own_lo ho (by omega), ⟨hin.1, fun k v xs h1 h2 => own_lo (hin.2.1 k v xs h1 h2) (by omega), hin.2.2⟩⟩, hb⟩
theorem l3Groups_c (d l : Int) (w : World) (d0 : 0 ≤ d) (d1 : d ≤ 127) (l0 : 0 ≤ l) (l1 : l ≤ 127) :
 Calls Tryz.prog 270 #[.agg #[.int .i64 d, .int .i64 l]] w fun e w' => ∃ u, e = .returned u ∧ OwnSS w' w.heap.size u (grpL d l) ∧ Below w.heap.size w w' := by
 obtain ⟨i, hi, hz0, hz1, hz2⟩ := info_parts info_ints
 have q0 : (w.alloc (.cells #[.int .i64 d, .int .i64 l] 46)).cell? ⟨w.heap.size, 0, none⟩ = some (.int .i64 d) := by rw [World.cell?_alloc_at _ _ _ _ rfl]; rfl
 have q1 : (w.alloc (.cells #[.int .i64 d, .int .i64 l] 46)).cell? ⟨w.heap.size, 1, none⟩ = some (.int .i64 l) := by rw [World.cell?_alloc_at _ _ _ _ rfl]; rfl
 have hb0 := below_one (w := w) (.cells #[.int .i64 d, .int .i64 l] 46)
 have r0 := cell_later (below_one (.cells #[] 37)) q0
 have r1 := cell_later (below_one (.cells #[] 37)) q1
 have hb2 : Below w.heap.size w ((w.alloc (.cells #[.int .i64 d, .int .i64 l] 46)).alloc (.cells #[] 37)) := qBl
 have ho0 := World.ownsRow_lit (e := 37) (size := 1) (base := w.heap.size + 1) (w.alloc (.cells #[.int .i64 d, .int .i64 l] 46)) #[] 0 (by simp) (by decide) rfl
 rw [show (w.alloc (.cells #[.int .i64 d, .int .i64 l] 46)).heap.size = w.heap.size + 1 by simp] at ho0
 clear q0 q1 hb0
 go_enter Tryz.func270, Tryz.ntmps270
 go_wp2
 go_loopw [3, 4, 5] (fun o j _ wr => ∃ (k : Nat) (vs : List Value), k ≤ 10 ∧ j = .int .i64 (k : Int) ∧ wr.ownsRow (w.heap.size + 1) 37 1 o (grpTo d l k).length vs ∧ Inn wr (w.heap.size + 1) vs (grpTo d l k) ∧ Below w.heap.size w wr ∧ w.heap.size + 1 ≤ wr.heap.size ∧ wr.cell? ⟨w.heap.size, 0, none⟩ = some (.int .i64 d) ∧ wr.cell? ⟨w.heap.size, 1, none⟩ = some (.int .i64 l)) (fun _ j _ _ => 11 - (intOf j).toNat)
 case atStart => exact ⟨0, [], by omega, rfl, ho0, Inn.nil_ _ _, hb2, World.block_lt_of_cell? _ _ r0, r0, r1⟩
 case round =>
  obtain ⟨k, vs, hk, rfl, ho, hin, hb, hsz, g0, g1⟩ := hrel
  clear r0 r1 hb2 ho0
  by_cases hlt : k < 10
  · have hd : decide ((k : Int) < 10) = true := by simp; omega
    have bdx := dg_bd (k : Int)
    have hsc := grpTo_succ d l hlt
    have hle := grpTo_le d l k
    have hh := grpOf_head (d := d) (l := l) hlt
    generalize grpTo d l k = cur at *
    have HS := hid hsc; have HH := hid hh; clear hsc hh
    go_wp2_with fail
    go_region_held3 (fun w' => w'.cell? ⟨w.heap.size, 0, none⟩ = some (.int .i64 d) ∧ w'.cell? ⟨w.heap.size, 1, none⟩ = some (.int .i64 l))
     (first | go_keep | (go_split_ands; exact ⟨cell_later hb4 (by assumption), cell_later hb4 (by assumption)⟩) | (go_split_ands; exact ⟨cell_later hb3 (by assumption), cell_later hb3 (by assumption)⟩) | (go_split_ands; exact ⟨cell_later hb9 (by assumption), cell_later hb9 (by assumption)⟩))
     (first | (go_at_call 141; refine (l2Digit_c (k : Int) (by omega) (by omega) _).mono ?_; rintro e w9 ⟨rfl, hb9⟩) | (go_at_call 219; refine (l3Shown_c d l (dg k) d0 d1 l0 l1 bdx.1 bdx.2 _).mono ?_; rintro e w' ⟨rfl, hb3⟩) | (go_at_call 223; refine (l3Digits_c d l (shC d l (dg k)) _ d0 d1 l0 l1).mono ?_; rintro e w'' ⟨ug, rfl, hog, hb4⟩))
    have g02 : w''.cell? ⟨w.heap.size, 0, none⟩ = some (.int .i64 d) := by go_split_ands; assumption
    have g12 : w''.cell? ⟨w.heap.size, 1, none⟩ = some (.int .i64 l) := by go_split_ands; assumption
    have hb34 : Below wr.heap.size wr w'' := Below.chain (Below.chain (Below.chain (Below.refl _ _).drew hb9) hb3) hb4
    have hsz3 : wr.heap.size ≤ w'.heap.size := Nat.le_trans hb9.size hb3.size
    have hb5 := Below.chain hb hb34
    have ho2 := own_keep ho hb34
    have hin2 := hin.keep hb34
    have hsz2 := Nat.le_trans hsz hb34.size
    have hlt0 := hin.lt
    have hog2 : w''.ownsRow w'.heap.size 3 1 ug (grpOf d l k).length (ints (grpOf d l k)) := hog
    obtain ⟨a3, c3, hu3, hc3, hcm3, H3⟩ := (Ints.of_own hog2).parts
    obtain ⟨b3, o3, e3, g3⟩ := H3.out 0 _ HH.out
    subst hu3 e3
    simp only [Nat.add_zero] at g3
    have hpos : 0 < (grpOf d l (k : Int)).length := (List.getElem?_eq_some_iff.1 HH.out).1
    have hposI : (0 : Int) < ((grpOf d l (k : Int)).length : Int) := by omega
    clear hog ho hin hb hb3 hb9 hb4 hb34 g0 g1 H3 HH
    rcases hq : isHead d l (k : Int) with _ | _
    · have hqb : (((grpOf d l (k : Int)).headD (-1)) == (k : Int)) = false := hq
      have hS2 : grpTo d l (k + 1) = cur := by rw [HS.out]; simp [hq]
      have HS2 := hid hS2; clear hS2 HS hq
      generalize (grpOf d l (k : Int)).headD (-1) = hx at *
      go_wp2
      go_roundw
      case rel => exact ⟨k + 1, vs, by omega, by go_num, by rw [HS2.out]; exact ho2, by rw [HS2.out]; exact hin2, hb5, hsz2, g02, g12⟩
      case measure => simp [intOf]; omega
    · have hqb : (((grpOf d l (k : Int)).headD (-1)) == (k : Int)) = true := hq
      have hS2 : grpTo d l (k + 1) = cur ++ [grpOf d l k] := by rw [HS.out]; simp [hq]
      have HS2 := hid hS2; clear hS2 HS hq
      have hin3 := hin2.snoc hog2 (by omega) (fun k a ha g hg => Nat.lt_of_lt_of_le (hlt0 k a ha g hg) hsz3)
      generalize hG : (grpOf d l (k : Int)).headD (-1) = hx at *
      clear hG
      generalize grpOf d l (k : Int) = G at *
      go_wp2_with (at_builtin; refine wpList_append_own_at _ rfl _ _ 96 rfl (w.heap.size + 1) 37 i (.slice none 0 0) 1 24 Tryz.underlying96 hi hz0 hz1 hz2 rfl (by decide) _ cur.length vs rfl (ho2.alloc _) ⟨w''.heap.size, 0, none⟩ 1 1 [.slice (some ⟨b3, o3, none⟩) G.length c3] rfl rfl (news_new _ [.slice (some ⟨b3, o3, none⟩) G.length c3] _) (by simp [Value.oneCell']) (by unfold maxLen; omega) (by omega) (by simp; omega) ?_)
      intro v' w3 ho5 hg5 _ _
      have hlt2 := World.block_lt_of_cell? _ _ g02
      have hb7 : Below w.heap.size w w3 := (Below.alc hb5 _).grown hg5 (by have := hb5.size; simp; omega) (fun g hg => by have := (ho2.lt g hg).1; omega)
      have hkeep : ∀ o v, w''.cell? ⟨w.heap.size, o, none⟩ = some v → w3.cell? ⟨w.heap.size, o, none⟩ = some v := fun o v h =>
       hg5.cell (cell_later (below_one _) h) (fun e => by have := (ho2.lt _ e.symm).1; simp at this; omega)
      have g03 := hkeep _ _ g02
      have g13 := hkeep _ _ g12
      have hin5 : Inn w3 (w.heap.size + 1) (vs ++ [.slice (some ⟨b3, o3, none⟩) G.length c3]) (cur ++ [G]) := (hin3.keep (below_one _)).grown (ho2.alloc _) (by decide) hg5
      have hsz3' : w.heap.size + 1 ≤ w3.heap.size := Nat.le_trans (by simp; omega) hg5.size
      clear ho2 hb5 hg5 g02 g12 hkeep hlt2 hsz2 hin2 hin3 hog2 hlt0 g3
      go_wp2
      go_roundw
      case rel => exact ⟨k + 1, _, by omega, by go_num, by rw [HS2.out]; exact ownsRow_cast ho5 (by simp) rfl, by rw [HS2.out]; exact hin5, hb7, hsz3', g03, g13⟩
      case measure => simp [intOf]; omega
  · obtain rfl : k = 10 := by omega
    go_wp2
    go_ret
    exact ⟨_, rfl, ⟨vs, own_lo ho (by omega), ⟨hin.1, fun k v xs h1 h2 => own_lo (hin.2.1 k v xs h1 h2) (by omega), hin.2.2⟩⟩, hb⟩
theorem isHarmless_c (d l : Int) (w : World) (d0 : 0 ≤ d) (d1 : d ≤ 127) (l0 : 0 ≤ l) (l1 : l ≤ 127) :
 Calls Tryz.prog 200 #[.agg #[.int .i64 d, .int .i64 l]] w fun e w' => e = .returned (.bool (decide ((grpL d l).length = 10))) ∧ Below w.heap.size w w' := by
 go_enter Tryz.func200, Tryz.ntmps200
 go_wp2_with fail
 refine (groups_c d l _ d0 d1 l0 l1).mono ?_
 rintro e w1 ⟨u, rfl, ho, hb⟩
 obtain ⟨vs, hov, hin⟩ := ho
 obtain ⟨a, c, rfl, _⟩ := (Sl.of_own hov).slice
 go_wp2
 go_ret
 refine ⟨bool_ret ?_, by exact qBl⟩
 rw [Bool.eq_iff_iff]; simp; omega
theorem range_below {w w' : World} {g o : Nat} {cs : List Value} (h : w.rangeAt g o cs) (hb : Below w.heap.size w w') : w'.rangeAt g o cs := fun j v hv => cell_later hb (h j v hv)
theorem there_below {w w' : World} {g o n : Nat} (h : w.there g o n) (hb : Below w.heap.size w w') : w'.there g o n := fun j hj => by
 obtain ⟨h1, h2⟩ := h j hj
 obtain ⟨u, hu⟩ := Option.isSome_iff_exists.1 h1
 have hlt := World.block_lt_of_cell? w _ hu
 exact ⟨by rw [cell_later hb hu]; rfl, by rw [hb.frozen (p := ⟨g, o + j, none⟩) hlt]; exact h2⟩
theorem there_new (w : World) (cs : Array Value) (t : TypeId) {n : Nat} (h : n ≤ cs.size) : (w.alloc (.cells cs t)).there w.heap.size 0 n := fun j hj => by
 rw [Nat.zero_add]
 refine ⟨?_, World.frozen?_alloc_new _ _ _ _⟩
 rw [World.cell?_alloc_at _ _ _ _ rfl, Array.getElem?_eq_getElem (by omega)]; rfl
theorem range_new (w : World) (cs : List Value) (t : TypeId) : (w.alloc (.cells cs.toArray t)).rangeAt w.heap.size 0 cs := fun j v hv => by
 rw [Nat.zero_add, World.cell?_alloc_at _ _ _ _ rfl]; simpa using hv
theorem range_sub {w : World} {g o : Nat} {cs : List Value} (h : w.rangeAt g o cs) (p n : Nat) : w.rangeAt g (o + p) ((cs.drop p).take n) := fun j v hv => by
 rw [List.getElem?_take] at hv
 split at hv
 · rw [List.getElem?_drop] at hv
   have := h (p + j) v hv
   rwa [← Nat.add_assoc] at this
 · cases hv
theorem below_cells {w : World} : ∀ (vs : List Value) (a : World) (g o : Nat), Below w.heap.size w a → w.heap.size ≤ g → Below w.heap.size w (a.setCells g o vs)
 | [], _, _, _, h, _ => h
 | v :: r, a, g, o, h, hg => by rw [World.setCells]; exact below_cells r _ g (o + 1) (h.setCell hg v) hg
theorem wpList_load_want {P : Program} {ops : Array Oper} {rest : List Oper} {op : Oper} {a : Act} {w : World} {Q : Exit → Act → World → Prop} (hw : Region.wanted op (yielded ops a.tmps) = true) (ty : TypeId) (x : Operand) (ho : op.op = .load ty x)
 (b o : Nat) (hx : a.eval x = .pointer (some ⟨b, o, none⟩)) (cs : List Value) (d : TypeDesc) (hc : w.rangeAt b o cs)
 (hu : P.underlying ty = some d) (hd : d.isRow = true) (hi : (P.info? ty).map (·.size) = some cs.length)
 (h : wpList P ops Q rest (a.put op.dst (.agg cs.toArray)) w) : wpList P ops Q (op :: rest) a w :=
 BigFrame.wpList_want hw fun _ hK => wp_load_mid ty x ho b o hx cs d hc hu hd hi (hK _ _ h)
theorem wpList_store_want {P : Program} {ops : Array Oper} {rest : List Oper} {op : Oper} {a : Act} {w : World} {Q : Exit → Act → World → Prop} (hw : Region.wanted op (yielded ops a.tmps) = true) (ty : TypeId) (x y : Operand) (ho : op.op = .store ty x y)
 (b o : Nat) (cs : List Value) (hx : a.eval x = .pointer (some ⟨b, o, none⟩)) (hy : a.eval y = .agg cs.toArray)
 (ht : w.there b o cs.length) (hi : (P.info? ty).map (·.size) = some cs.length) (h1 : ∀ v ∈ cs, v.oneCell' = true)
 (h : wpList P ops Q rest (a.put op.dst undef) (w.setCells b o cs)) : wpList P ops Q (op :: rest) a w :=
 BigFrame.wpList_want hw fun _ hK => wp_store_mid ty x y ho b o cs.toArray hx hy (by simpa using ht) (by simpa using hi) (all_oneCell_toArray h1) (hK _ _ (by simpa using h))
theorem res_cell {P : Program} {fn : Func} {r : Nat} {t : TypeId} {tmps : Array Value} {w : World} {g : Nat} {v : Value} (h : fn.results = #[.cell r t]) (hr : tmps.getD r undef = .pointer (some ⟨g, 0, none⟩)) (hl : (loadVar t ⟨g, 0, none⟩).run P w = .ok v w) :
 (results fn tmps).run P w = .ok v w := by
 unfold results
 rw [h]
 simp only [List.mapM_toArray, List.mapM_cons, List.mapM_nil, Sem.run_bind, Sem.run_pure, Sem.run_map, Result.andThen_ok, hr, asAddr, hl]
 rfl
theorem res_cell2 {P : Program} {fn : Func} {r k : Nat} {t : TypeId} {tmps : Array Value} {w : World} {g : Nat} {v : Value} (h : fn.results = #[.cell r t, .tmp k]) (hr : tmps.getD r undef = .pointer (some ⟨g, 0, none⟩)) (hl : (loadVar t ⟨g, 0, none⟩).run P w = .ok v w) :
 (results fn tmps).run P w = .ok (.tuple #[v, tmps.getD k undef]) w := by
 unfold results
 rw [h]
 simp only [List.mapM_toArray, List.mapM_cons, List.mapM_nil, Sem.run_bind, Sem.run_pure, Sem.run_map, Result.andThen_ok, hr, asAddr, hl]
 rfl
def aggI (b : List Int) : Value := .agg (ints b).toArray
def bg (b : List Int) (j : Nat) : Int := b.getD j 0
def bF (b : List Int) (k : Nat) : Int × Int := (bg b (6 + k), bg b (12 + k))
theorem ints_get {b : List Int} {j : Nat} (h : j < b.length) : (ints b).toArray[j]? = some (.int .i64 (bg b j)) := by
 simp [ints, h, bg]
theorem bench_cell {w w1 : World} {b : List Int} {t : TypeId} (hb : Below (w.alloc (.cells (ints b).toArray t)).heap.size (w.alloc (.cells (ints b).toArray t)) w1) {j : Nat} (h : j < b.length) :
 w1.cell? ⟨w.heap.size, j, none⟩ = some (.int .i64 (bg b j)) := (box_after hb).1 j _ (ints_get h)
theorem bench_range {w w1 : World} {b : List Int} {t : TypeId} (hb : Below (w.alloc (.cells (ints b).toArray t)).heap.size (w.alloc (.cells (ints b).toArray t)) w1) :
 w1.rangeAt w.heap.size 0 (ints b) := fun j v h => by rw [Nat.zero_add]; exact (box_after hb).1 j v (by simpa using h)
theorem wpList_loadB {ops : Array Oper} {rest : List Oper} {op : Oper} {a : Act} {w : World} {Q : Exit → Act → World → Prop} (hw : Region.wanted op (yielded ops a.tmps) = true) (x : Operand) (ho : op.op = .load 26 x)
 (g : Nat) (hx : a.eval x = .pointer (some ⟨g, 0, none⟩)) (b : List Int) (hc : w.rangeAt g 0 (ints b)) (hb : b.length = 19)
 (h : wpList Tryz.prog ops Q rest (a.put op.dst (.agg (ints b).toArray)) w) : wpList Tryz.prog ops Q (op :: rest) a w :=
 wpList_load_want hw _ x ho g 0 hx (ints b) _ hc Tryz.underlying26 rfl (by rw [show (ints b).length = 19 by simp [ints, hb]]; kernel_rfl) h
theorem wpList_load6 {ops : Array Oper} {rest : List Oper} {op : Oper} {a : Act} {w : World} {Q : Exit → Act → World → Prop} (hw : Region.wanted op (yielded ops a.tmps) = true) (x : Operand) (ho : op.op = .load 24 x)
 (g o : Nat) (hx : a.eval x = .pointer (some ⟨g, o, none⟩)) (b : List Int) (hc : w.rangeAt g o (ints b)) (hb : b.length = 6)
 (h : wpList Tryz.prog ops Q rest (a.put op.dst (.agg (ints b).toArray)) w) : wpList Tryz.prog ops Q (op :: rest) a w :=
 wpList_load_want hw _ x ho g o hx (ints b) _ hc Tryz.underlying24 rfl (by rw [show (ints b).length = 6 by simp [ints, hb]]; kernel_rfl) h
theorem ints_one {b : List Int} : ∀ v ∈ ints b, v.oneCell' = true := fun v hv => by
 simp only [ints, List.mem_map] at hv
 obtain ⟨x, _, rfl⟩ := hv
 rfl
theorem wpList_storeB {ops : Array Oper} {rest : List Oper} {op : Oper} {a : Act} {w : World} {Q : Exit → Act → World → Prop} (hw : Region.wanted op (yielded ops a.tmps) = true) (x y : Operand) (ho : op.op = .store 26 x y)
 (g : Nat) (b : List Int) (hx : a.eval x = .pointer (some ⟨g, 0, none⟩)) (hy : a.eval y = .agg (ints b).toArray) (ht : w.there g 0 19) (hb : b.length = 19)
 (h : wpList Tryz.prog ops Q rest (a.put op.dst undef) (w.setCells g 0 (ints b))) : wpList Tryz.prog ops Q (op :: rest) a w :=
 wpList_store_want hw _ x y ho g 0 (ints b) hx hy (by rw [show (ints b).length = 19 by simp [ints, hb]]; exact ht) (by rw [show (ints b).length = 19 by simp [ints, hb]]; kernel_rfl) ints_one h
theorem loadVarB {w : World} {g : Nat} {b : List Int} (h : w.rangeAt g 0 (ints b)) (hb : b.length = 19) : (loadVar 26 ⟨g, 0, none⟩).run Tryz.prog w = .ok (aggI b) w :=
 run_loadVar_mid w g 0 _ (ints b) _ h Tryz.underlying26 rfl (by rw [show (ints b).length = 19 by simp [ints, hb]]; kernel_rfl)
def fsB (b : List Int) : List (Int × Int) := (List.range 6).map (bF b)
def goodAt (b : List Int) (k : Nat) : Bool := cellB (bg b k) && fB (bF b k)
def goodTo (b : List Int) (n : Nat) : Bool := (List.range n).all (goodAt b)
def goodB (b : List Int) : Bool := goodTo b 6 && inB (bg b 18) 0 1000
theorem goodTo_succ (b : List Int) (n : Nat) : goodTo b (n + 1) = (goodTo b n && goodAt b n) := by
 unfold goodTo; rw [List.range_succ, List.all_append]; simp
theorem goodTo_bad {b : List Int} {k n : Nat} (hk : k < n) (h : goodAt b k = false) : goodTo b n = false := by
 unfold goodTo
 rw [Bool.eq_false_iff]; intro h2
 rw [List.all_eq_true] at h2
 rw [h2 k (List.mem_range.2 hk)] at h; cases h
theorem take_range {b : List Int} {n : Nat} (h : n ≤ b.length) : b.take n = (List.range n).map (bg b) := by
 apply List.ext_getElem?
 intro i
 rw [List.getElem?_take, List.getElem?_map]
 by_cases hi : i < n
 · rw [if_pos hi, List.getElem?_range hi, List.getElem?_eq_getElem (by omega)]
   simp [bg, show i < b.length by omega]
 · rw [if_neg hi, List.getElem?_eq_none (by simp; omega)]; rfl
theorem goodB_eq {b : List Int} (hb : b.length = 19) : goodB b = ((rowB (b.take 6) && (fsB b).all fB) && inB (bg b 18) 0 1000) := by
 unfold goodB goodTo rowB fsB
 congr 1
 rw [take_range (by omega), decide_eq_true (by simp), Bool.true_and, List.all_map, List.all_map, Bool.eq_iff_iff]
 simp only [Bool.and_eq_true, List.all_eq_true, goodAt, Function.comp]
 exact ⟨fun h => ⟨fun x hx => (h x hx).1, fun x hx => (h x hx).2⟩, fun h x hx => ⟨h.1 x hx, h.2 x hx⟩⟩
theorem l12Fault_c (b : List Int) (k : Nat) (w : World) (hb : b.length = 19) (hk : k < 6) :
 Calls Tryz.prog 97 #[aggI b, .int .i64 (k : Int)] w fun e w' => e = .returned (.agg #[.int .i64 (bF b k).1, .int .i64 (bF b k).2]) ∧ Below w.heap.size w w' := by
 unfold aggI bF
 have g1 := bench_cell (w := w) (b := b) (t := 26) (below_one (.cells #[.int .i64 0, .int .i64 0] 46)) (j := 6 + k) (by omega)
 have g2 := bench_cell (w := w) (b := b) (t := 26) (below_one (.cells #[.int .i64 0, .int .i64 0] 46)) (j := 12 + k) (by omega)
 go_enter Tryz.func97, Tryz.ntmps97
 go_wp2
 go_region
 go_wp2
 exact bodyPost_ret (v := .agg #[.int .i64 (bg b (6 + k)), .int .i64 (bg b (12 + k))]) (by simp [results, Tryz.results97, go_sem]) rfl ⟨rfl, by exact qBl⟩
theorem bfault_c (b : List Int) (k : Nat) (w : World) (hb : b.length = 19) (hk : k < 6) :
 Calls Tryz.prog 107 #[aggI b, .int .i64 (k : Int)] w fun e w' => e = .returned (.agg #[.int .i64 (bF b k).1, .int .i64 (bF b k).2]) ∧ Below w.heap.size w w' := by
 unfold aggI bF
 have g1 := bench_cell (w := w) (b := b) (t := 26) (below_one (.cells #[.int .i64 0, .int .i64 0] 46)) (j := 6 + k) (by omega)
 have g2 := bench_cell (w := w) (b := b) (t := 26) (below_one (.cells #[.int .i64 0, .int .i64 0] 46)) (j := 12 + k) (by omega)
 go_enter Tryz.func107, Tryz.ntmps107
 go_wp2
 go_region
 go_wp2
 exact bodyPost_ret (v := .agg #[.int .i64 (bg b (6 + k)), .int .i64 (bg b (12 + k))]) (by simp [results, Tryz.results107, go_sem]) rfl ⟨rfl, by exact qBl⟩
theorem l12Good_c (b : List Int) (w : World) (hb : b.length = 19) :
 Calls Tryz.prog 52 #[aggI b] w fun e w' => e = .returned (.bool (goodB b)) ∧ Below w.heap.size w w' := by
 unfold aggI
 have HW : Hid (∀ wr, Below (w.alloc (.cells (ints b).toArray 26)).heap.size (w.alloc (.cells (ints b).toArray 26)) wr → Below w.heap.size w wr) := fun wr h => Below.chain (below_one _) h
 go_enter Tryz.func52, Tryz.ntmps52
 go_wp2
 generalize hwb : w.alloc (.cells (ints b).toArray 26) = wb at *
 go_loopw [3] (fun j wr => ∃ k : Nat, k ≤ 6 ∧ j = .int .i64 (k : Int) ∧ goodTo b k = true ∧ Below wb.heap.size wb wr) (fun j _ => 7 - (intOf j).toNat)
 case atStart => exact ⟨0, by omega, rfl, rfl, Below.refl _ _⟩
 case round =>
  obtain ⟨k, hk, rfl, hgt, hbw⟩ := hrel
  have hbr := hbw
  subst hwb
  by_cases hlt : k < 6
  · have hd : decide ((k : Int) < 6) = true := by simp; omega
    have g0 := bench_cell hbw (j := k) (by omega)
    have HS := hid (goodTo_succ b k)
    have HB := hid (fun h => goodTo_bad (b := b) (n := 6) hlt h)
    go_wp2_with fail
    refine (l2Cell_c _ _).mono ?_
    rintro e w2 ⟨rfl, rfl⟩
    rcases hq : cellB (bg b k) with _ | _
    · have hF : goodB b = false := by unfold goodB; rw [HB.out (by unfold goodAt; rw [hq]; rfl)]; rfl
      have HF := hid hF; clear hF
      go_wp2
      go_ret
      exact ⟨by rw [HF.out]; rfl, HW.out _ hbr⟩
    · have hr := bench_range hbw
      go_wp2_with (refine wpList_loadB rfl _ rfl _ rfl b hr hb ?_)
      refine (l12Fault_c b k _ hb hlt).mono ?_
      rintro e w3 ⟨rfl, hb3⟩
      have hb4 := Below.chain hbr hb3
      clear hb3 hbr hr g0
      go_wp2_with fail
      refine (l3Fault_c _ _ _).mono ?_
      rintro e w4 ⟨rfl, hb5⟩
      have hb6 := Below.chain hb4 hb5
      clear hb4 hb5
      rcases hq2 : faultB (bF b k).1 (bF b k).2 with _ | _
      · have hF : goodB b = false := by unfold goodB; rw [HB.out (by unfold goodAt fB; rw [hq2, Bool.and_false])]; rfl
        have HF := hid hF; clear hF
        go_wp2
        go_ret
        exact ⟨by rw [HF.out]; rfl, HW.out _ hb6⟩
      · have hF : goodTo b (k + 1) = true := by rw [HS.out, hgt]; unfold goodAt fB; rw [hq, hq2]; rfl
        have HF := hid hF; clear hF
        go_wp2
        go_roundw
        case rel => exact ⟨k + 1, by omega, by go_num, HF.out, hb6⟩
        case measure => simp [intOf]; omega
  · obtain rfl : k = 6 := by omega
    have g0 := bench_cell hbw (j := 18) (by omega)
    have hF : goodB b = inB (bg b 18) 0 1000 := by unfold goodB; rw [hgt]; rfl
    have HF := hid hF; clear hF
    go_wp2_with fail
    refine (l1In_c _ _ _ _).mono ?_
    rintro e w2 ⟨rfl, rfl⟩
    go_wp2
    go_ret
    exact ⟨by rw [HF.out]; rfl, HW.out _ hbr⟩
def fsTo (b : List Int) (n : Nat) : List (Int × Int) := (List.range n).map (bF b)
theorem fsTo_succ (b : List Int) (n : Nat) : fsTo b (n + 1) = fsTo b n ++ [bF b n] := by unfold fsTo; rw [List.range_succ, List.map_append]; rfl
theorem faults_c (b : List Int) (w : World) (hb : b.length = 19) :
 Calls Tryz.prog 93 #[aggI b] w fun e w' => ∃ u, e = .returned u ∧ w'.ownsRow w.heap.size 46 2 u 6 (flat2 (fsB b)) ∧ Below w.heap.size w w' := by
 unfold aggI
 obtain ⟨i, hi, hz0, hz1, hz2⟩ := info_parts info_Fault
 have HW : Hid (∀ wr, Below (w.alloc (.cells (ints b).toArray 26)).heap.size (w.alloc (.cells (ints b).toArray 26)) wr → Below w.heap.size w wr) := fun wr h => Below.chain (below_one _) h
 go_enter Tryz.func93, Tryz.ntmps93
 go_wp2
 generalize hwb : w.alloc (.cells (ints b).toArray 26) = wb at *
 have hwz : w.heap.size + 1 = wb.heap.size := by rw [← hwb]; simp
 go_loopw [3, 5] (fun o j wr => ∃ k : Nat, k ≤ 6 ∧ j = .int .i64 (k : Int) ∧ wr.ownsRow wb.heap.size 46 2 o k (flat2 (fsTo b k)) ∧ Below wb.heap.size wb wr) (fun _ j _ => 7 - (intOf j).toNat)
 case atStart => exact ⟨0, by omega, rfl, World.ownsRow_nil _ _ _ _, Below.refl _ _⟩
 case round =>
  obtain ⟨k, hk, rfl, ho, hbw⟩ := hrel
  by_cases hlt : k < 6
  · have hd : decide ((k : Int) < 6) = true := by simp; omega
    have hr : wr.rangeAt w.heap.size 0 (ints b) := by subst hwb; exact bench_range hbw
    obtain ⟨f1, f2, hf⟩ : ∃ f1 f2, bF b k = (f1, f2) := ⟨_, _, rfl⟩
    have hs := fsTo_succ b k
    rw [hf] at hs
    have HS := hid hs; have HF := hid hf; clear hs hf
    go_wp2_with (refine wpList_loadB rfl _ rfl _ rfl b hr hb ?_)
    refine (bfault_c b k _ hb hlt).mono ?_
    rintro e w3 ⟨he, hb3⟩
    rw [HF.out] at he
    subst he
    have hb4 := Below.chain hbw hb3
    have ho4 := own_keep ho hb3
    clear hb3 hbw hr ho HF
    go_wp2_with (at_builtin; refine wpList_append_own_at _ rfl _ _ 127 rfl wb.heap.size 46 i (.agg #[.int .i64 0, .int .i64 0]) 2 16 Tryz.underlying127 hi hz0 hz1 hz2 rfl (by decide) _ k (flat2 (fsTo b k)) rfl (ho4.alloc _) ⟨w3.heap.size, 0, none⟩ 1 1 [.int .i64 f1, .int .i64 f2] rfl rfl (news_new _ [.int .i64 f1, .int .i64 f2] _) (by simp [Value.oneCell']) (by unfold maxLen; omega) (by omega) (by have := hb4.size; simp; omega) ?_)
    intro v' w4 ho5 hg5 _ _
    have hb7 : Below wb.heap.size wb w4 := (Below.alc hb4 _).grown hg5 (by have := hb4.size; simp; omega) (fun g hg => (ho4.lt g hg).1)
    clear ho4 hb4 hg5
    go_wp2
    go_roundw
    case rel => exact ⟨k + 1, by omega, by go_num, by rw [HS.out]; exact ownsRow_cast ho5 rfl (flat2_snoc _ _ _).symm, hb7⟩
    case measure => simp [intOf]; omega
  · obtain rfl : k = 6 := by omega
    go_wp2
    go_ret
    exact ⟨_, rfl, own_lo ho (by omega), HW.out _ hbw⟩
theorem ints_box {w w1 : World} {b : List Int} {t : TypeId} (hb : Below (w.alloc (.cells (ints b).toArray t)).heap.size (w.alloc (.cells (ints b).toArray t)) w1) {n : Nat} (h : n ≤ b.length) (hm : b.length ≤ 1000) (c : Nat) (hc : n ≤ c) (hcm : c ≤ 1000) :
 Ints w1 (.slice (some ⟨w.heap.size, 0, none⟩) n c) (b.take n) := by
 have hl : (b.take n).length = n := by rw [List.length_take]; omega
 refine ⟨_, _, by rw [hl], by rw [hl]; exact hc, by unfold maxLen; omega, by simp, fun _ => ⟨_, _, rfl, fun j hj => ?_⟩⟩
 rw [hl] at hj
 rw [Nat.zero_add, bench_cell hb (by omega), List.getElem?_map, List.getElem?_take, if_pos (by omega), List.getElem?_eq_getElem (by omega)]
 simp [bg, show j < b.length by omega]
theorem IsBench_c (b : List Int) (w : World) (hb : b.length = 19) :
 Calls Tryz.prog 51 #[aggI b] w fun e w' => e = .returned (.bool (goodB b)) ∧ Below w.heap.size w w' := by
 unfold aggI
 have hcl : CallsIt 62 := fun bs w => by kernel_rfl
 have HW : Hid (∀ wr, Below (w.alloc (.cells (ints b).toArray 26)).heap.size (w.alloc (.cells (ints b).toArray 26)) wr → Below w.heap.size w wr) := fun wr h => Below.chain (below_one _) h
 have hI := ints_box (w := w) (b := b) (t := 26) (Below.refl _ _) (n := 6) (by omega) (by omega) 6 (by omega) (by omega)
 have HG := hid (goodB_eq hb)
 go_enter Tryz.func51, Tryz.ntmps51
 go_wp2_with fail
 refine (IsRow_c _ _ _ hI).mono ?_
 rintro e w2 ⟨rfl, hb2⟩
 have hr := bench_range hb2
 have g18 := bench_cell hb2 (j := 18) (by omega)
 rcases hq : rowB (b.take 6) with _ | _
 · have HF := hid (show goodB b = false by rw [HG.out, hq]; rfl)
   clear HG hI
   go_wp2
   go_ret
   exact ⟨by rw [HF.out]; rfl, HW.out _ hb2⟩
 · go_wp2_with (refine wpList_loadB rfl _ rfl _ rfl b hr hb ?_)
   refine (faults_c b _ hb).mono ?_
   rintro e w3 ⟨u, rfl, ho, hb3⟩
   have hb4 := Below.chain hb2 hb3
   have g18' := bench_cell hb4 (j := 18) (by omega)
   clear g18 hb2 hb3 hr hI
   have hP : Pairs w3 u (fsB b) := Pairs.of_own ho
   clear ho
   go_wp2_with fail
   refine (areAllFault_c _ (fsB b) 62 fB _ hP hcl (fun x w' => IsFault_c x.1 x.2 w')).mono ?_
   rintro e w4 ⟨rfl, hb5⟩
   have hb6 := Below.chain hb4 hb5
   have g18 := bench_cell hb6 (j := 18) (by omega)
   clear g18' hb4 hb5 hP
   rcases hq2 : (fsB b).all fB with _ | _
   · have HF := hid (show goodB b = false by rw [HG.out, hq, hq2]; rfl)
     clear HG
     go_wp2
     go_ret
     exact ⟨by rw [HF.out]; rfl, HW.out _ hb6⟩
   · have HF := hid (show goodB b = inB (bg b 18) 0 1000 by rw [HG.out, hq, hq2]; rfl)
     clear HG
     go_wp2_with fail
     refine (within_c _ _ _ _).mono ?_
     rintro e w5 ⟨rfl, rfl⟩
     go_wp2
     go_ret
     exact ⟨by rw [HF.out]; rfl, HW.out _ hb6⟩
theorem len6 {b : List Int} (h : b.length = 6) : ∃ x0 x1 x2 x3 x4 x5, b = [x0, x1, x2, x3, x4, x5] := by
 match b, h with
 | [x0, x1, x2, x3, x4, x5], _ => exact ⟨x0, x1, x2, x3, x4, x5, rfl⟩
def pt (b : List Int) (o : Nat) : List Int := (b.drop o).take 6
theorem part6 {w : World} {g : Nat} {b : List Int} (h : w.rangeAt g 0 (ints b)) (o : Nat) : w.rangeAt g o (ints (pt b o)) := by
 have := range_sub h o 6
 rw [Nat.zero_add] at this
 simpa [ints, pt, List.map_take, List.map_drop] using this
theorem part6_len {b : List Int} (h : b.length = 19) {o : Nat} (ho : o ≤ 12) : (pt b o).length = 6 := by simp [pt, h]; omega
theorem cell18 {w : World} {g : Nat} {b : List Int} (h : w.rangeAt g 0 (ints b)) {j : Nat} (hj : j < b.length) : w.cell? ⟨g, j, none⟩ = some (.int .i64 (bg b j)) := by
 have := h j (.int .i64 (bg b j)) (by have := ints_get hj; simpa using this)
 rwa [Nat.zero_add] at this
def zB : Obj := .cells #[.int .i64 0, .int .i64 0, .int .i64 0, .int .i64 0, .int .i64 0, .int .i64 0, .int .i64 0, .int .i64 0, .int .i64 0, .int .i64 0, .int .i64 0, .int .i64 0, .int .i64 0, .int .i64 0, .int .i64 0, .int .i64 0, .int .i64 0, .int .i64 0, .int .i64 0] 26
def IntsPost (w : World) (L : List Int) (b : Bool) (e : Ending) (w' : World) : Prop :=
 ∃ u, e = .returned (.tuple #[u, .bool b]) ∧ w'.ownsRow w.heap.size 3 1 u L.length (L.map (Value.int .i64)) ∧ Below w.heap.size w w'
theorem IntsPost.mk' {w w' : World} {L L' : List Int} {b b' : Bool} {u : Value} (hL : L = L') (hbb : b = b') (ho : w'.ownsRow w.heap.size 3 1 u L'.length (L'.map (Value.int .i64))) (hb : Below w.heap.size w w') : IntsPost w L b (.returned (.tuple #[u, .bool b'])) w' := by
 subst hL hbb; exact ⟨u, rfl, ho, hb⟩
def shAt (b : List Int) (k : Nat) : Int := shC (bF b k).1 (bF b k).2 (bg b k)
def shTo (b : List Int) (n : Nat) : List Int := (List.range n).map (shAt b)
theorem shTo_succ (b : List Int) (n : Nat) : shTo b (n + 1) = shTo b n ++ [shAt b n] := by unfold shTo; rw [List.range_succ, List.map_append]; rfl
theorem shTo_len (b : List Int) (n : Nat) : (shTo b n).length = n := by simp [shTo]
theorem take_succ_bg {b : List Int} {n : Nat} (h : n < b.length) : b.take (n + 1) = b.take n ++ [bg b n] := by
 rw [take_snoc (List.getElem?_eq_getElem h)]; simp [bg, h]
theorem goodB_at {b : List Int} (h : goodB b = true) {k : Nat} (hk : k < 6) : (0 ≤ (bF b k).1 ∧ (bF b k).1 ≤ 127 ∧ 0 ≤ (bF b k).2 ∧ (bF b k).2 ≤ 127) ∧ 0 ≤ bg b k ∧ bg b k ≤ 127 := by
 unfold goodB goodTo at h
 simp only [Bool.and_eq_true, List.all_eq_true, List.mem_range] at h
 have := h.1 k hk
 unfold goodAt fB at this
 simp only [Bool.and_eq_true] at this
 have h1 := faultB_true this.2
 exact ⟨⟨h1.1, h1.2.1, h1.2.2.1, h1.2.2.2.1⟩, cellB_true this.1⟩
theorem index6_0 (x0 x1 x2 x3 x4 x5 : Int) (w : World) : (Instr.index 24 (.agg #[.int .i64 x0, .int .i64 x1, .int .i64 x2, .int .i64 x3, .int .i64 x4, .int .i64 x5]) (.int .i64 0)).run Tryz.prog w = .ok (.int .i64 x0) w := by kernel_rfl
theorem index6_1 (x0 x1 x2 x3 x4 x5 : Int) (w : World) : (Instr.index 24 (.agg #[.int .i64 x0, .int .i64 x1, .int .i64 x2, .int .i64 x3, .int .i64 x4, .int .i64 x5]) (.int .i64 1)).run Tryz.prog w = .ok (.int .i64 x1) w := by kernel_rfl
theorem index6_2 (x0 x1 x2 x3 x4 x5 : Int) (w : World) : (Instr.index 24 (.agg #[.int .i64 x0, .int .i64 x1, .int .i64 x2, .int .i64 x3, .int .i64 x4, .int .i64 x5]) (.int .i64 2)).run Tryz.prog w = .ok (.int .i64 x2) w := by kernel_rfl
theorem index6_3 (x0 x1 x2 x3 x4 x5 : Int) (w : World) : (Instr.index 24 (.agg #[.int .i64 x0, .int .i64 x1, .int .i64 x2, .int .i64 x3, .int .i64 x4, .int .i64 x5]) (.int .i64 3)).run Tryz.prog w = .ok (.int .i64 x3) w := by kernel_rfl
theorem index6_4 (x0 x1 x2 x3 x4 x5 : Int) (w : World) : (Instr.index 24 (.agg #[.int .i64 x0, .int .i64 x1, .int .i64 x2, .int .i64 x3, .int .i64 x4, .int .i64 x5]) (.int .i64 4)).run Tryz.prog w = .ok (.int .i64 x4) w := by kernel_rfl
theorem index6_5 (x0 x1 x2 x3 x4 x5 : Int) (w : World) : (Instr.index 24 (.agg #[.int .i64 x0, .int .i64 x1, .int .i64 x2, .int .i64 x3, .int .i64 x4, .int .i64 x5]) (.int .i64 5)).run Tryz.prog w = .ok (.int .i64 x5) w := by kernel_rfl
theorem index6 {b : List Int} (hb : b.length = 6) {k : Nat} (hk : k < 6) (w : World) : (Instr.index 24 (.agg (ints b).toArray) (.int .i64 (k : Int))).run Tryz.prog w = .ok (.int .i64 (bg b k)) w := by
 obtain ⟨x0, x1, x2, x3, x4, x5, rfl⟩ := len6 hb
 have h : k = 0 ∨ k = 1 ∨ k = 2 ∨ k = 3 ∨ k = 4 ∨ k = 5 := by omega
 rcases h with rfl | rfl | rfl | rfl | rfl | rfl
 · exact index6_0 x0 x1 x2 x3 x4 x5 w
 · exact index6_1 x0 x1 x2 x3 x4 x5 w
 · exact index6_2 x0 x1 x2 x3 x4 x5 w
 · exact index6_3 x0 x1 x2 x3 x4 x5 w
 · exact index6_4 x0 x1 x2 x3 x4 x5 w
 · exact index6_5 x0 x1 x2 x3 x4 x5 w
theorem bg_pt {b : List Int} (h : b.length = 19) {k : Nat} (hk : k < 6) : bg (pt b 0) k = bg b k := by
 unfold bg pt; simp [hk]
theorem shown_b_c (b : List Int) (w : World) (hb : b.length = 19) (hg : goodB b = true) :
 Calls Tryz.prog 56 #[aggI b] w fun e w' => ∃ u, e = .returned u ∧ w'.ownsRow w.heap.size 3 1 u (shTo b 6).length (ints (shTo b 6)) ∧ Below w.heap.size w w' := by
 unfold aggI
 obtain ⟨i, hi, hz0, hz1, hz2⟩ := info_parts info_int
 have HW : Hid (∀ wr, Below (w.alloc (.cells (ints b).toArray 26)).heap.size (w.alloc (.cells (ints b).toArray 26)) wr → Below w.heap.size w wr) := fun wr h => Below.chain (below_one _) h
 have r0 := range_new w (ints b) 26
 have p1 := part6_len hb (o := 0) (by decide)
 go_enter Tryz.func56, Tryz.ntmps56
 go_wp2_with (refine wpList_load6 rfl _ rfl _ _ rfl _ (part6 r0 0) p1 ?_)
 generalize hwb : w.alloc (.cells (ints b).toArray 26) = wb at *
 have hwz : w.heap.size + 1 = wb.heap.size := by rw [← hwb]; simp
 go_loopw [3, 8] (fun o j wr => ∃ k : Nat, k ≤ 6 ∧ j = .int .i64 (k : Int) ∧ wr.ownsRow wb.heap.size 3 1 o k (ints (shTo b k)) ∧ Below wb.heap.size wb wr) (fun _ j _ => 7 - (intOf j).toNat)
 case atStart => exact ⟨0, by omega, rfl, World.ownsRow_nil _ _ _ _, Below.refl _ _⟩
 case round =>
  obtain ⟨k, hk, rfl, ho, hbw⟩ := hrel
  by_cases hlt : k < 6
  · have hd : decide ((k : Int) < 6) = true := by simp; omega
    have hr : wr.rangeAt w.heap.size 0 (ints b) := range_below r0 hbw
    have hix := fun w => index6 p1 hlt w
    have HP := hid (bg_pt hb hlt)
    have HS := hid (shTo_succ b k)
    have bd := goodB_at hg hlt
    go_wp2_with (refine wpList_loadB rfl _ rfl _ rfl b hr hb ?_)
    refine (bfault_c b k _ hb hlt).mono ?_
    rintro e w3 ⟨rfl, hb3⟩
    have hb4 := Below.chain hbw hb3
    have ho4 := own_keep ho hb3
    clear hb3 hbw hr ho
    rw [HP.out]
    go_wp2_with fail
    refine (shown_c (bF b k).1 (bF b k).2 (bg b k) bd.1.1 bd.1.2.1 bd.1.2.2.1 bd.1.2.2.2 bd.2.1 bd.2.2 _).mono ?_
    rintro e w4 ⟨rfl, hb5⟩
    have hb6 := Below.chain hb4 hb5
    have ho6 := own_keep ho4 hb5
    clear hb4 hb5 ho4
    have hX : shC (bF b k).1 (bF b k).2 (bg b k) = shAt b k := rfl
    rw [hX]
    clear hX
    generalize shAt b k = X at *
    go_wp2_with (at_builtin; refine wpList_append_own_at _ rfl _ _ 37 rfl wb.heap.size 3 i (.int .i64 0) 1 8 Tryz.underlying37 hi hz0 hz1 hz2 rfl (by decide) _ k (ints (shTo b k)) rfl (ho6.alloc _) ⟨w4.heap.size, 0, none⟩ 1 1 [.int .i64 X] rfl rfl (news_new _ [.int .i64 X] _) (by simp [Value.oneCell']) (by unfold maxLen; omega) (by omega) (by have := hb6.size; simp; omega) ?_)
    intro v' w5 ho5 hg5 _ _
    have hb7 : Below wb.heap.size wb w5 := (Below.alc hb6 _).grown hg5 (by have := hb6.size; simp; omega) (fun g hg => (ho6.lt g hg).1)
    clear ho6 hb6 hg5
    go_wp2
    go_roundw
    case rel => exact ⟨k + 1, by omega, by go_num, by rw [HS.out]; exact ownsRow_cast ho5 rfl (by simp), hb7⟩
    case measure => simp [intOf]; omega
  · obtain rfl : k = 6 := by omega
    go_wp2
    go_ret
    exact ⟨_, rfl, own_lo (ownsRow_cast ho (shTo_len b 6).symm rfl) (by omega), HW.out _ hbw⟩
theorem ints_cells {w : World} {ad : Addr} {n c : Nat} {xs : List Int} (h : Ints w (.slice (some ad) n c) xs) : ∀ j u, (ints xs)[j]? = some u → w.cell? (ad.add j) = some u := by
 intro j u hu
 obtain ⟨a, c', e, _, _, HC⟩ := h.parts
 simp only [ints, List.getElem?_map, Option.map_eq_some_iff] at hu
 obtain ⟨x, hx, rfl⟩ := hu
 obtain ⟨b, off, e2, hc⟩ := HC.out j x hx
 injection e with e1 e3 e4
 rw [e2] at e1
 injection e1 with e5
 subst e5
 rw [Addr.add_lit]; exact hc
theorem Clone_c (v : Value) (xs : List Int) (w : World) (hv : Ints w v xs) (hn : xs.length ≤ 1048576) :
 Calls Tryz.prog 57 #[v] w fun e w' => ∃ u, e = .returned u ∧ w'.ownsRow w.heap.size 3 1 u xs.length (ints xs) ∧ Below w.heap.size w w' := by
 obtain ⟨i, hi, hz0, hz1, hz2⟩ := info_parts info_int
 have hv0 := hv
 obtain ⟨a, c, rfl, _, _, _⟩ := hv.parts
 cases a with
 | none =>
  have hx : xs = [] := by
   obtain ⟨a', c', e, _, _, HC⟩ := hv0.parts
   cases xs with
   | nil => rfl
   | cons x t =>
    obtain ⟨b, off, e2, _⟩ := HC.out 0 x rfl
    injection e with e1
    rw [e2] at e1; cases e1
  subst hx
  have hnil := fun (w : World) => Lib.run_eql_slice_nil (P := Tryz.prog) w 37 3 none 0 c 0 0 Tryz.underlying37
  simp only [List.length_nil, List.map_nil]
  go_enter Tryz.func57, Tryz.ntmps57
  go_wp2
  go_ret
  exact ⟨_, rfl, World.ownsRow_nil _ _ _ _, by exact qBl⟩
 | some ad =>
  have hc := ints_cells (hv.below (below_one (.cells #[] 3)))
  have ho0 := World.ownsRow_lit (e := 3) (size := 1) (base := w.heap.size) w #[] 0 (Nat.le_refl _) (by decide) rfl
  have HC := hid hc
  clear hc hv hv0
  have hnil := fun (w : World) => Lib.run_eql_slice_nil (P := Tryz.prog) w 37 3 (some ad) xs.length c 0 0 Tryz.underlying37
  go_enter Tryz.func57, Tryz.ntmps57
  go_wp2_with (at_builtin; refine wpList_append_own_at _ rfl _ _ 37 rfl w.heap.size 3 i (.int .i64 0) 1 8 Tryz.underlying37 hi hz0 hz1 hz2 rfl (by decide) _ 0 [] rfl ho0 ad xs.length c (ints xs) rfl (by simp) HC.out ints_one (by unfold maxLen; omega) (by omega) (by simp) ?_)
  intro v' w1 ho1 hg1 _ _
  have hb1 : Below w.heap.size w w1 := (below_one _).grown hg1 (by simp) (fun g hg => (ho0.lt g hg).1)
  go_wp2
  go_ret
  exact ⟨_, rfl, ownsRow_cast ho1 (by simp) (by simp), hb1⟩
def rowOf (b : List Int) (s : Bool) (n : Nat) : List Int := if s then shTo b n else b.take n
theorem rowOf_len {b : List Int} (hb : b.length = 19) (s : Bool) {n : Nat} (h : n ≤ 6) : (rowOf b s n).length = n := by
 unfold rowOf; split
 · exact shTo_len _ _
 · rw [List.length_take]; omega
theorem rowOf_succ {b : List Int} (hb : b.length = 19) (s : Bool) {n : Nat} (h : n < 6) : rowOf b s (n + 1) = rowOf b s n ++ [if s then shAt b n else bg b n] := by
 unfold rowOf; split
 · exact shTo_succ _ _
 · exact take_succ_bg (by omega)
theorem range_grown {w w' : World} {g o : Nat} {cs : List Value} {r : Option Nat} (h : w.rangeAt g o cs) (hg : w.grownBy w' r) (hr : some g ≠ r) : w'.rangeAt g o cs := fun j v hv =>
 hg.cell (h j v hv) hr
theorem l12Row_c (b : List Int) (s : Bool) (w : World) (hb : b.length = 19) (hg : goodB b = true) :
 Calls Tryz.prog 172 #[aggI b, .bool s] w fun e w' => ∃ u, e = .returned u ∧ w'.ownsRow w.heap.size 3 1 u (rowOf b s 6).length (ints (rowOf b s 6)) ∧ Below w.heap.size w w' := by
 unfold aggI
 obtain ⟨i, hi, hz0, hz1, hz2⟩ := info_parts info_int
 have r0 := World.rangeAt_alloc (range_new w (ints b) 26) (.cells #[] 3)
 have ho0 := World.ownsRow_lit (e := 3) (size := 1) (base := w.heap.size + 1) (w.alloc (.cells (ints b).toArray 26)) #[] 0 (by simp) (by decide) rfl
 have hb0 : Below w.heap.size w ((w.alloc (.cells (ints b).toArray 26)).alloc (.cells #[] 3)) := qBl
 have hw0 : w.heap.size + 1 ≤ ((w.alloc (.cells (ints b).toArray 26)).alloc (.cells #[] 3)).heap.size := by simp
 have HL := hid (fun n h => rowOf_len hb s (n := n) h)
 go_enter Tryz.func172, Tryz.ntmps172
 go_wp2
 generalize (w.alloc (.cells (ints b).toArray 26)).alloc (.cells #[] 3) = wb at *
 simp only [World.size_alloc] at ho0
 go_loopw [5, 6] (fun o j wr => ∃ k : Nat, k ≤ 6 ∧ j = .int .i64 (k : Int) ∧ wr.ownsRow (w.heap.size + 1) 3 1 o k (ints (rowOf b s k)) ∧ Below w.heap.size w wr ∧ wr.rangeAt w.heap.size 0 (ints b) ∧ w.heap.size + 1 ≤ wr.heap.size) (fun _ j _ => 7 - (intOf j).toNat)
 case atStart => exact ⟨0, by omega, rfl, ownsRow_cast ho0 rfl (by cases s <;> simp [rowOf, shTo]), hb0, r0, hw0⟩
 case round =>
  obtain ⟨k, hk, rfl, ho, hbw, hr, hsz⟩ := hrel
  clear ho0 hb0 r0 hw0
  by_cases hlt : k < 6
  · have hd : decide ((k : Int) < 6) = true := by simp; omega
    have g0 := cell18 hr (j := k) (by omega)
    have HS := hid (rowOf_succ hb s hlt)
    have bd := goodB_at hg hlt
    cases s with
    | false =>
     have HS2 := hid (show rowOf b false (k + 1) = rowOf b false k ++ [bg b k] from HS.out)
     clear HS
     generalize bg b k = X at *
     go_wp2_with (at_builtin; refine wpList_append_own_at _ rfl _ _ 37 rfl (w.heap.size + 1) 3 i (.int .i64 0) 1 8 Tryz.underlying37 hi hz0 hz1 hz2 rfl (by decide) _ k (ints (rowOf b false k)) rfl (ho.alloc _) ⟨wr.heap.size, 0, none⟩ 1 1 [.int .i64 X] rfl rfl (news_new _ [.int .i64 X] _) (by simp [Value.oneCell']) (by unfold maxLen; omega) (by omega) (by simp; omega) ?_)
     intro v' w5 ho5 hg5 _ hat
     have hb7 : Below w.heap.size w w5 := (Below.alc hbw _).grown hg5 (by simp; omega) (fun g hg => by have := (ho.lt g hg).1; omega)
     have hr7 := range_grown (World.rangeAt_alloc hr _) hg5 (fun e => by have := (ho.lt _ e.symm).1; omega)
     have hsz7 : w.heap.size + 1 ≤ w5.heap.size := Nat.le_trans (by simp; omega) hg5.size
     clear ho hbw hr hg5 g0
     go_wp2
     go_roundw
     case rel => exact ⟨k + 1, by omega, by go_num, by rw [HS2.out]; exact ownsRow_cast ho5 rfl (by simp), hb7, hr7, hsz7⟩
     case measure => simp [intOf]; omega
    | true =>
     have HS2 := hid (show rowOf b true (k + 1) = rowOf b true k ++ [shAt b k] from HS.out)
     clear HS
     go_wp2_with (refine wpList_loadB rfl _ rfl _ rfl b hr hb ?_)
     refine (l12Fault_c b k _ hb hlt).mono ?_
     rintro e w3 ⟨rfl, hb3⟩
     have hb4 := Below.chain hbw hb3
     have ho4 := own_keep ho hb3
     have hr4 := range_below hr hb3
     have hsz4 := Nat.le_trans hsz hb3.size
     clear hb3 hbw hr ho g0
     go_wp2_with fail
     refine (l3Shown_c (bF b k).1 (bF b k).2 (bg b k) bd.1.1 bd.1.2.1 bd.1.2.2.1 bd.1.2.2.2 bd.2.1 bd.2.2 _).mono ?_
     rintro e w4 ⟨rfl, hb5⟩
     have hb6 := Below.chain hb4 hb5
     have ho6 := own_keep ho4 hb5
     have hr6 := range_below hr4 hb5
     have hsz6 := Nat.le_trans hsz4 hb5.size
     clear hb4 hb5 ho4 hr4
     have hX : shC (bF b k).1 (bF b k).2 (bg b k) = shAt b k := rfl
     rw [hX]
     clear hX
     generalize shAt b k = X at *
     go_wp2_with (at_builtin; refine wpList_append_own_at _ rfl _ _ 37 rfl (w.heap.size + 1) 3 i (.int .i64 0) 1 8 Tryz.underlying37 hi hz0 hz1 hz2 rfl (by decide) _ k (ints (rowOf b true k)) rfl (ho6.alloc _) ⟨w4.heap.size, 0, none⟩ 1 1 [.int .i64 X] rfl rfl (news_new _ [.int .i64 X] _) (by simp [Value.oneCell']) (by unfold maxLen; omega) (by omega) (by simp; omega) ?_)
     intro v' w5 ho5 hg5 _ hat
     have hb7 : Below w.heap.size w w5 := (Below.alc hb6 _).grown hg5 (by simp; omega) (fun g hg => by have := (ho6.lt g hg).1; omega)
     have hr7 := range_grown (World.rangeAt_alloc hr6 _) hg5 (fun e => by have := (ho6.lt _ e.symm).1; omega)
     have hsz7 : w.heap.size + 1 ≤ w5.heap.size := Nat.le_trans (by simp; omega) hg5.size
     clear ho6 hb6 hr6 hg5
     go_wp2
     go_roundw
     case rel => exact ⟨k + 1, by omega, by go_num, by rw [HS2.out]; exact ownsRow_cast ho5 rfl (by simp), hb7, hr7, hsz7⟩
     case measure => simp [intOf]; omega
  · obtain rfl : k = 6 := by omega
    go_wp2
    go_ret
    exact ⟨_, rfl, own_lo (ownsRow_cast ho (HL.out 6 (by omega)).symm rfl) (by omega), hbw⟩
end Go.Proofs.YtohgjfdbnkjefaaGreatDoor
