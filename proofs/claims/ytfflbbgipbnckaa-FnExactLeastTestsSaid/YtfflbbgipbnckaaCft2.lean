/- The checker's CountFullTests. -/
import Derived.Test.YtfflbbgipbnckaaCft
namespace Go.Proofs.Ytfflbbgipbnckaa
open Go.RowKit
set_option linter.unusedVariables false
set_option maxRecDepth 100000
def bitB (s j : Nat) : Bool := (s / 2 ^ j) % 2 == 1
theorem bit_i64 (s j : Nat) (hs : s < 1024) : bits BinOp.and IntKind.i64 ((s : Int) / 2 ^ j) 1 = ((s / 2 ^ j % 2 : Nat) : Int) := by
  have h := Nat.div_le_self s (2 ^ j)
  have e : ((s : Int) / 2 ^ j) = ((s / 2 ^ j : Nat) : Int) := by simp
  rw [e, show (1 : Int) = ((1 : Nat) : Int) from rfl, i64_and_nat _ _ (by omega) (by omega), Nat.and_one_is_mod]
def prtL (n s i : Nat) : List Int := ((List.range i).filter fun j => bitB s (n - 1 - j)).map fun j => ((j : Nat) : Int)
theorem prtL_succ (n s i : Nat) : prtL n s (i + 1) = prtL n s i ++ if bitB s (n - 1 - i) then [(i : Int)] else [] := by
  unfold prtL
  rw [List.range_succ, List.filter_append, List.map_append]
  cases h : bitB s (n - 1 - i) <;> simp [h]
theorem prtL_le (n s i : Nat) : (prtL n s i).length ≤ i := by
  unfold prtL; rw [List.length_map]; exact Nat.le_trans (List.length_filter_le _ _) (by simp)
theorem l5Part_c (n s : Nat) (w : World) (hn : n ≤ 10) (hs : s < 1024) : Calls Try.prog 61 #[.int .i64 (n : Int), .int .i64 (s : Int)] w fun e w' => ∃ u, e = .returned u ∧ w'.ownsRow w.heap.size 3 1 u (prtL n s n).length (ints (prtL n s n)) ∧ Below w.heap.size w w' := by
  obtain ⟨inf, hi, hz0, hz1, hz2⟩ := info_parts info_int
  have ho0 := World.ownsRow_lit (e := 3) (size := 1) (base := w.heap.size) w #[] 0 (Nat.le_refl _) (by decide) rfl
  go_enter Try.func61, Try.ntmps61
  go_wp2
  go_loopw [5, 6] (fun o j wr => ∃ i : Nat, i ≤ n ∧ j = .int .i64 (i : Int) ∧ wr.ownsRow w.heap.size 3 1 o (prtL n s i).length (ints (prtL n s i)) ∧ Below w.heap.size w wr) (fun _ j _ => n - (intOf j).toNat)
  case atStart => exact ⟨0, by omega, rfl, ho0, by (repeat (first | exact Below.refl _ _ | exact (Below.refl _ _).drew | assumption | exact below_one _ | refine Below.chain ?_ (by assumption) | refine Below.drew ?_ | refine Below.alc ?_ _ | refine below_drewN ?_ | (refine Below.setCell ?_ ?_ _) | exact Nat.le_refl _ | (simp; done) | (simp; omega)))⟩
  case round =>
    obtain ⟨i, hi1, rfl, ho, hb⟩ := hrel
    clear ho0
    by_cases hlt : i < n
    · have hd : decide ((i : Int) < (n : Int)) = true := by simp; omega
      have hS := prtL_succ n s i
      have hle := prtL_le n s i
      have hnn : ¬ ((n : Int) - 1 - (i : Int) < 0) := by omega
      generalize prtL n s i = cur at *
      have HS := Lib.hid hS; clear hS
      have hbit := bit_i64 s (n - 1 - i) hs
      rcases hq : bitB s (n - 1 - i) with _ | _
      · have h1 : s / 2 ^ (n - 1 - i) % 2 = 0 := by unfold bitB at hq; simp at hq; omega
        rw [h1] at hbit
        have HS2 := Lib.hid (show prtL n s (i + 1) = cur by rw [HS.out, hq]; simp)
        clear HS hq h1
        go_wp2
        go_roundw
        case rel => exact ⟨i + 1, by omega, by go_num, by rw [HS2.out]; exact ho, hb⟩
        case measure => simp [intOf]; omega
      · have h1 : s / 2 ^ (n - 1 - i) % 2 = 1 := by unfold bitB at hq; simpa using hq
        rw [h1] at hbit
        have HS2 := Lib.hid (show prtL n s (i + 1) = cur ++ [(i : Int)] by rw [HS.out, hq]; simp)
        clear HS hq h1
        go_wp2_with (at_builtin; refine wpList_append_own_at _ rfl _ _ 22 rfl w.heap.size 3 inf (.int .i64 0) 1 8 Try.underlying22 hi hz0 hz1 hz2 rfl (by decide) _ cur.length (ints cur) rfl (ho.alloc _) ⟨wr.heap.size, 0, none⟩ 1 1 [.int .i64 i] rfl rfl (news_new _ [.int .i64 i] _) (by simp [Value.oneCell']) (by unfold maxLen; omega) (by omega) (by have := hb.size; simp; omega) ?_)
        intro v' w3 ho5 hg5 _ _
        have hb7 : Below w.heap.size w w3 := (Below.alc hb _).grown hg5 (by have := hb.size; simp; omega) (fun g hg => (ho.lt g hg).1)
        clear ho hb hg5
        go_wp2
        go_roundw
        case rel => exact ⟨i + 1, by omega, by go_num, by rw [HS2.out]; exact ownsRow_cast ho5 (by simp) (by simp), hb7⟩
        case measure => simp [intOf]; omega
    · obtain rfl : i = n := by omega
      go_wp2
      go_ret
      exact ⟨_, rfl, ho, hb⟩
theorem prtL_mem {n s i : Nat} {x : Int} (h : x ∈ prtL n s i) : ∃ p : Nat, x = (p : Int) ∧ p < i := by
  unfold prtL at h
  simp only [List.mem_map, List.mem_filter, List.mem_range] at h
  obtain ⟨p, ⟨hp, _⟩, rfl⟩ := h
  exact ⟨p, rfl, hp⟩
def pick (list : List Int) (ps : List Int) : List Int := ps.map fun i => list.getD i.toNat 0
def digsL (list : List Int) (s : Nat) : List Int := pick list (prtL list.length s list.length)
theorem l7Digits_c (v : Value) (list : List Int) (s : Nat) (w : World) (hv : Ints w v list) (hn : list.length ≤ 10) (hs : s < 1024) : Calls Try.prog 36 #[v, .int .i64 (s : Int)] w fun e w' => ∃ u, e = .returned u ∧ w'.ownsRow w.heap.size 3 1 u (digsL list s).length (ints (digsL list s)) ∧ Below w.heap.size w w' := by
  obtain ⟨inf, hi, hz0, hz1, hz2⟩ := info_parts info_int
  have ho0 := World.ownsRow_lit (e := 3) (size := 1) (base := w.heap.size) w #[] 0 (Nat.le_refl _) (by decide) rfl
  have hb0 := below_one (w := w) (.cells #[] 3)
  obtain ⟨a, c, rfl, _, _, HL⟩ := hv.parts
  clear hv
  go_enter Try.func36, Try.ntmps36
  go_wp2_with fail
  refine (l5Part_c list.length s _ hn hs).mono ?_
  rintro e w1 ⟨u, rfl, hou, hb1⟩
  have ho1 := own_keep ho0 hb1
  have hb2 := Below.chain hb0 hb1
  have hM : Hid (∀ x ∈ prtL list.length s list.length, ∃ p : Nat, x = (p : Int) ∧ p < list.length) := fun x hx => prtL_mem hx
  have hple := prtL_le list.length s list.length
  have HD : Hid (digsL list s = pick list (prtL list.length s list.length)) := rfl
  generalize prtL list.length s list.length = ps at *
  obtain ⟨a2, c2, rfl, _, _, HP⟩ := (Ints.of_own hou).parts
  have hPl := hou.lt
  simp only [World.size_alloc] at hPl
  have hP1 := Ints.of_own hou
  have hdis0 : ∀ g, (Value.slice (some ⟨w.heap.size, 0, none⟩) 0 0).ownBlock = some g → g = w.heap.size ∨ w1.heap.size ≤ g := fun g hg => .inl (by simp [Value.ownBlock] at hg; exact hg.symm)
  clear hou ho0 hb0 hb1
  go_wp2
  go_loopw [5, 7] (fun o j wr => ∃ i : Nat, i ≤ ps.length ∧ j = .int .i64 (i : Int) ∧ wr.ownsRow w.heap.size 3 1 o i (ints (pick list (ps.take i))) ∧ Below w.heap.size w wr ∧ Hid (Ints wr (.slice a2 ps.length c2) ps) ∧ Hid (∀ g, o.ownBlock = some g → g = w.heap.size ∨ w1.heap.size ≤ g) ∧ w1.heap.size ≤ wr.heap.size) (fun _ j _ => ps.length - (intOf j).toNat)
  case atStart => exact ⟨0, by omega, rfl, ho1, hb2, hP1, hdis0, Nat.le_refl _⟩
  case round =>
    obtain ⟨i, hi1, rfl, ho, hb, hI, hdis, hsz⟩ := hrel
    clear ho1 hb2 hP1 hdis0
    by_cases hlt : i < ps.length
    · have hd : decide ((i : Int) < (ps.length : Int)) = true := by simp; omega
      obtain ⟨x, hx⟩ := elem_at hlt
      obtain ⟨p, rfl, hpl⟩ := hM.out x (List.mem_of_getElem? hx.out)
      obtain ⟨y, hy⟩ := elem_at hpl
      obtain ⟨a3, c3, e3, _, _, HPr⟩ := hI.out.parts
      injection e3 with e3 _ e4
      subst e3 e4
      obtain ⟨b1, o1, rfl, g1⟩ := HPr.out i _ hx.out
      obtain ⟨b2, o2, rfl, f2⟩ := HL.out p y hy.out
      have g2 := cell_later hb f2
      have HS : Hid (pick list (ps.take (i + 1)) = pick list (ps.take i) ++ [y]) := by
        show _ = _
        unfold pick
        rw [take_snoc hx.out, List.map_append]
        have := hy.out
        simp [List.getD, this]
      clear HPr f2
      generalize hcur : pick list (ps.take i) = cur at *
      go_wp2_with (at_builtin; refine wpList_append_own_at _ rfl _ _ 22 rfl w.heap.size 3 inf (.int .i64 0) 1 8 Try.underlying22 hi hz0 hz1 hz2 rfl (by decide) _ i (ints cur) rfl (ho.alloc _) ⟨wr.heap.size, 0, none⟩ 1 1 [.int .i64 y] rfl rfl (news_new _ [.int .i64 y] _) (by simp [Value.oneCell']) (by unfold maxLen; omega) (by omega) (by have := hb.size; simp; omega) ?_)
      intro v' w3 ho5 hg5 _ hat
      have hb7 : Below w.heap.size w w3 := (Below.alc hb _).grown hg5 (by have := hb.size; simp; omega) (fun g hg => (ho.lt g hg).1)
      have hI7 : Hid (Ints w3 (.slice (some ⟨b1, o1, none⟩) ps.length c2) ps) := Ints.grown (hI.out.below (below_one _)) hg5 (by
        right; intro e
        have h1 := hPl b1 rfl
        rcases hdis.out b1 e.symm with h2 | h2 <;> omega)
      have hd7 : Hid (∀ g, v'.ownBlock = some g → g = w.heap.size ∨ w1.heap.size ≤ g) := fun g hg => by
        rcases hat with h | h
        · exact hdis.out g (by rw [← h]; exact hg)
        · right
          rw [hg] at h
          injection h with h
          (try simp at h); omega
      have hsz7 : w1.heap.size ≤ w3.heap.size := Nat.le_trans (by simp; omega) hg5.size
      clear ho hb hg5 hI hdis g1 g2 hat
      go_wp2
      go_roundw
      case rel => exact ⟨i + 1, by omega, by go_num, by rw [HS.out]; exact ownsRow_cast ho5 rfl (by simp), hb7, hI7, hd7, hsz7⟩
      case measure => simp [intOf]; omega
    · obtain rfl : i = ps.length := by omega
      rw [List.take_length] at ho
      have hl : (digsL list s).length = ps.length := by rw [HD.out]; simp [pick]
      have HO : Hid (wr.ownsRow w.heap.size 3 1 u5 (digsL list s).length (ints (digsL list s))) := ownsRow_cast ho hl.symm (by rw [HD.out])
      clear ho hl
      go_wp2
      go_ret
      exact ⟨_, rfl, HO.out, hb⟩
end Go.Proofs.Ytfflbbgipbnckaa
