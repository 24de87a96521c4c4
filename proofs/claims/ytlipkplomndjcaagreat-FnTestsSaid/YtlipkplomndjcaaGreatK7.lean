/- Texts of this claim, gathered: Least, Short, Least2, Short2, Short3. -/
import Derived.Test.YtlipkplomndjcaaGreatK6
namespace Go.Proofs.YtlipkplomndjcaaGreat
open Go.RowKit
set_option linter.unusedVariables false
set_option maxRecDepth 100000
attribute [local go_sem ↓] Go.wp_at_zero Go.wp_at_succ
theorem setS_take_succ {xs : List Int} {k : Nat} {x : Int} (hx : xs[k]? = some x) : setS (xs.take (k + 1)) = putR (setS (xs.take k)) x := by rw [take_snoc hx, setS_snoc]
theorem setS_len (xs : List Int) : (setS xs).length ≤ xs.length := by
  have := setS_len_le xs []
  simpa [setS] using this
set_option maxHeartbeats 1000000 in
theorem l7Set_c (v : Value) (xs : List Int) (w : World) (hv : Ints w v xs) (hn : xs.length ≤ 900) :
    Calls Tryz.prog 56 #[v] w fun e w' => ∃ g cap, e = .returned (.slice (some ⟨g, 0, none⟩) (setS xs).length cap) ∧ w'.ownsRow w.heap.size 3 1 (.slice (some ⟨g, 0, none⟩) (setS xs).length cap) (setS xs).length (ints (setS xs)) ∧ Below w.heap.size w w' := by
  have ho0 := World.ownsRow_lit (e := 3) (size := 1) (base := w.heap.size) w #[] 0 (Nat.le_refl _) (by decide) rfl
  obtain ⟨a, c, rfl, _, _, HC⟩ := hv.parts
  clear hv
  go_enter Tryz.func56, Tryz.ntmps56
  go_wp2
  go_loopw [3, 4] (fun o i wr => ∃ (k g cap : Nat), k ≤ xs.length ∧ i = .int .i64 (k : Int) ∧ o = .slice (some ⟨g, 0, none⟩) (setS (xs.take k)).length cap ∧ wr.ownsRow w.heap.size 3 1 (.slice (some ⟨g, 0, none⟩) (setS (xs.take k)).length cap) (setS (xs.take k)).length (ints (setS (xs.take k))) ∧ Below w.heap.size w wr) (fun _ i _ => xs.length - (intOf i).toNat)
  case atStart => exact ⟨0, w.heap.size, 0, by omega, rfl, by simp [setS], by simpa [setS] using ho0, below_one _⟩
  case round =>
    obtain ⟨k, g, cap, hk, rfl, rfl, ho, hb⟩ := hrel
    clear ho0
    by_cases hlt : k < xs.length
    · have hd : decide ((k : Int) < (xs.length : Int)) = true := by simp; omega
      obtain ⟨x, hx⟩ := elem_at hlt
      obtain ⟨b1, o1, rfl, f0⟩ := HC.out k x hx.out
      have g0 := cell_later hb f0
      have HS := Lib.hid (setS_take_succ hx.out)
      have hle := setS_len (xs.take k)
      rw [List.length_take] at hle
      clear f0
      generalize setS (xs.take k) = l at *
      have HP := Lib.hid (l1Put_c g cap w.heap.size l x wr ho (by omega) hb.size)
      clear ho
      go_wp2_with fail
      refine HP.out.mono ?_
      rintro e w2 ⟨g2, c2, rfl, ho2, hb2⟩
      have hb3 := Below.chain hb hb2
      rw [← HS.out] at ho2
      clear hb hb2 g0
      go_wp2
      go_roundw
      case rel => exact ⟨k + 1, g2, c2, by omega, by go_num, by rw [HS.out], ho2, hb3⟩
      case measure => simp [intOf]; omega
    · obtain rfl : k = xs.length := by omega
      rw [List.take_length] at ho
      have HL : Hid (setS (xs.take xs.length) = setS xs) := by show _ = _; rw [List.take_length]
      have HO := Lib.hid ho
      clear ho
      go_wp2
      go_ret
      exact ⟨g, cap, by rw [HL.out]; rfl, HO.out, hb⟩
theorem l1Own_c (ad : Addr) (n c : Nat) (xs : List Int) (w : World) (hc : ∀ j u, (ints xs)[j]? = some u → w.cell? (ad.add j) = some u) (hn : xs.length = n) (hn2 : n ≤ 1000) :
    Calls Tryz.prog 97 #[.slice (some ad) n c] w fun e w' => ∃ u, e = .returned u ∧ w'.ownsRow w.heap.size 3 1 u n (ints xs) ∧ Below w.heap.size w w' := by
  obtain ⟨i, hi, hz0, hz1, hz2⟩ := info_parts info_int
  have hc1 : ∀ j u, (ints xs)[j]? = some u → (w.alloc (.cells #[] 3)).cell? (ad.add j) = some u := fun j u h => by
    have h1 := hc j u h
    have hlt := World.block_lt_of_cell? _ _ h1
    exact (Below.cell (below_one (w := w) (.cells #[] 3)) (p := ad.add j) hlt).trans h1
  have ho0 := World.ownsRow_lit (e := 3) (size := 1) (base := w.heap.size) w #[] 0 (Nat.le_refl _) (by decide) rfl
  have HC := Lib.hid hc1
  clear hc hc1
  go_enter Tryz.func97, Tryz.ntmps97
  go_wp2_with (at_builtin; refine wpList_append_own_at _ rfl _ _ 24 rfl w.heap.size 3 i (.int .i64 0) 1 8 Tryz.underlying24 hi hz0 hz1 hz2 rfl (by decide) _ 0 [] rfl ho0 ad n c (ints xs) rfl (by simp [hn]) HC.out ints_one (by unfold maxLen; omega) (by omega) (by simp) ?_)
  intro v' w1 ho1 hg1 _ _
  have hb1 : Below w.heap.size w w1 := (below_one _).grown hg1 (by simp) (fun g hg => (ho0.lt g hg).1)
  go_wp2
  go_ret
  exact ⟨_, rfl, ownsRow_cast ho1 (by simp) (by simp), hb1⟩
theorem erase_ints (l : List Int) (i : Nat) : ints (l.take i) ++ ints (l.drop (i + 1)) = ints (l.eraseIdx i) := by
  rw [List.eraseIdx_eq_take_drop_succ]; simp [ints]
theorem erase_len {l : List Int} {i : Nat} (h : i < l.length) : (l.eraseIdx i).length = i + (l.length - (i + 1)) := by
  rw [List.length_eraseIdx]; simp [h]; omega
theorem testB_erase {l : List Int} (h : testB l = true) (i : Nat) : testB (l.eraseIdx i) = true := by
  unfold testB at *
  simp only [Bool.and_eq_true, decide_eq_true_eq, List.all_eq_true] at *
  exact ⟨Nat.le_trans (List.length_eraseIdx_le _ _) h.1, fun x hx => h.2 x (List.mem_of_mem_eraseIdx hx)⟩
theorem testB_set {l : List Int} (h : testB l = true) : testB (setS l) = true := by
  unfold testB at *
  simp only [Bool.and_eq_true, decide_eq_true_eq, List.all_eq_true] at *
  exact ⟨Nat.le_trans (setS_len l) h.1, fun x hx => h.2 x ((setS_mem l x).1 hx)⟩
/-- a least test, for its set -/
def leastL (l : List Int) : Bool := ((List.range l.length).all fun i => !fullB (l.eraseIdx i)) && fullB l
theorem leastL_bad {l : List Int} {i : Nat} (hi : i < l.length) (h : fullB (l.eraseIdx i) = true) : leastL l = false := by
  unfold leastL
  rw [Bool.and_eq_false_iff]; left
  rw [Bool.eq_false_iff]; intro h2
  rw [List.all_eq_true] at h2
  have := h2 i (List.mem_range.2 hi)
  rw [h] at this; cases this
theorem leastL_ok {l : List Int} (h : ∀ i, i < l.length → fullB (l.eraseIdx i) = false) : leastL l = fullB l := by
  unfold leastL
  have : ((List.range l.length).all fun i => !fullB (l.eraseIdx i)) = true := by
    rw [List.all_eq_true]; intro i hi
    rw [h i (List.mem_range.1 hi)]; rfl
  rw [this]; rfl
set_option maxHeartbeats 2000000 in
theorem l7Least_c (g cap lo : Nat) (l : List Int) (w : World) (ho : w.ownsRow lo 3 1 (.slice (some ⟨g, 0, none⟩) l.length cap) l.length (ints l)) (ht : testB l = true) :
    Calls Tryz.prog 55 #[.slice (some ⟨g, 0, none⟩) l.length cap] w fun e w' => e = .returned (.bool (leastL l)) ∧ Below w.heap.size w w' := by
  obtain ⟨inf, hi, hz0, hz1, hz2⟩ := info_parts info_int
  have hI := Ints.of_own ho
  obtain ⟨a, c, e0, hlc, hcm, _⟩ := hI.parts
  injection e0 with e1 _ e3
  subst e1 e3
  have hlen : l.length ≤ 10 := by unfold testB at ht; simp only [Bool.and_eq_true, decide_eq_true_eq] at ht; exact ht.1
  have HO := Lib.hid ho; have HT := Lib.hid ht
  clear ho hI ht
  go_enter Tryz.func55, Tryz.ntmps55
  go_wp2
  go_loopw [3] (fun i wr => ∃ k : Nat, k ≤ l.length ∧ i = .int .i64 (k : Int) ∧ Hid (∀ j, j < k → fullB (l.eraseIdx j) = false) ∧ Below w.heap.size w wr) (fun i _ => l.length - (intOf i).toNat)
  case atStart => exact ⟨0, by omega, rfl, fun j h => by omega, Below.refl _ _⟩
  case round =>
    obtain ⟨k, hk, rfl, hbef, hb⟩ := hrel
    by_cases hlt : k < l.length
    · have hd : decide ((k : Int) < (l.length : Int)) = true := by simp; omega
      have n0 : (0 : Int) ≤ (k : Int) := by omega
      have n1 : (k : Int) ≤ (l.length : Int) := by omega
      have n2 : (l.length : Int) ≤ (cap : Int) := by omega
      have n3 : (k : Int) + 1 ≤ (l.length : Int) := by omega
      have n4 : (0 : Int) ≤ (k : Int) + 1 := by omega
      have n5 : (k : Int) ≤ (cap : Int) := by omega
      have n6 : ((k : Int) + 1).toNat = k + 1 := by omega
      have hw : IntKind.i64.wrap ((k : Int) + 1) = (k : Int) + 1 := IntWalk.i64_in _ (by omega)
      have HB := Lib.hid hb
      have HOr := Lib.hid (own_keep HO.out hb)
      have hte := Lib.hid (testB_erase HT.out k)
      have HE := Lib.hid (erase_len hlt)
      clear hb
      by_cases hce : cap = k + 1
      · have hck : (cap = k + 1) = True := by simp [hce]
        have HCE := Lib.hid hce
        clear hce
        go_wp2
        go_region_held3 (fun _ => True) (trivial)
          (first | (go_at_call 97; refine (l1Own_c ⟨g, 0, none⟩ k cap (l.take k) _ (own_take (own_keep HOr.out (Below.refl _ _).drew) k) (by simp; omega) (by omega)).mono ?_; rintro e wa ⟨u, rfl, hou, hbb⟩; have hbc : Below wr.heap.size wr wa := Below.chain (Below.refl _ _).drew hbb; have hsz := hbc.size) | (go_at_call 52; refine (l7Full_c v2 (l.eraseIdx k) _ hI2 hte.out).mono ?_; rintro e wc ⟨rfl, hbd⟩; have hbe := Below.chain hb2 hbd) | (refine step_append_at (by rfl) _ _ _ (by rfl) wr.heap.size 3 inf (.int .i64 0) 1 8 Tryz.underlying24 hi hz0 hz1 hz2 rfl (by decide) u k (ints (l.take k)) (by rfl) (own_lo hou (by simp)) _ _ _ [] (by rfl) (by have := HCE.out; simp; omega) (fun j u hj => by simp at hj) (by simp) (by unfold maxLen; omega) (by omega) hsz ?_; intro v2 wb hO2 hg2 hat2; have hb2 : Below wr.heap.size wr wb := hbc.grown hg2 hsz (fun q hq => by have := (hou.lt q hq).1; simp at this; omega); have hI2 : Ints wb v2 (l.eraseIdx k) := Ints.of_own (ownsRow_cast hO2 (by rw [HE.out]) (show ints (l.take k) ++ [] = ints (l.eraseIdx k) by rw [← erase_ints, List.drop_eq_nil_of_le (by have := HCE.out; omega)]; simp [ints]))))
        rcases hq : fullB (l.eraseIdx k) with _ | _
        · have HN : Hid (∀ j, j < k + 1 → fullB (l.eraseIdx j) = false) := fun j hj => by
            by_cases hj2 : j < k
            · exact hbef.out j hj2
            · obtain rfl : j = k := by omega
              exact hq
          have hb9 := Below.chain HB.out hbe
          clear hbef hbe hb2 hI2 hO2 hg2 hbc hbb hou hbd
          go_wp2
          go_roundw
          case rel => exact ⟨k + 1, by omega, by go_num, HN, hb9⟩
          case measure => simp [intOf]; omega
        · have HF := Lib.hid (leastL_bad hlt hq)
          have hb9 := Below.chain HB.out hbe
          clear hbef hbe hb2 hI2 hO2 hg2 hbc hbb hou hbd
          go_wp2
          go_ret
          exact ⟨by rw [HF.out]; rfl, hb9⟩
      · have hck : (cap = k + 1) = False := by simp [hce]
        go_wp2
        go_region_held3 (fun _ => True) (trivial)
          (first | (go_at_call 97; refine (l1Own_c ⟨g, 0, none⟩ k cap (l.take k) _ (own_take (own_keep HOr.out (Below.refl _ _).drew) k) (by simp; omega) (by omega)).mono ?_; rintro e wa ⟨u, rfl, hou, hbb⟩; have hbc : Below wr.heap.size wr wa := Below.chain (Below.refl _ _).drew hbb; have hsz := hbc.size) | (go_at_call 52; refine (l7Full_c v2 (l.eraseIdx k) _ hI2 hte.out).mono ?_; rintro e wc ⟨rfl, hbd⟩; have hbe := Below.chain hb2 hbd) | (refine step_append_at (by rfl) _ _ _ (by rfl) wr.heap.size 3 inf (.int .i64 0) 1 8 Tryz.underlying24 hi hz0 hz1 hz2 rfl (by decide) u k (ints (l.take k)) (by rfl) (own_lo hou (by simp)) ⟨g, k + 1, none⟩ (l.length - (k + 1)) _ (ints (l.drop (k + 1))) (by rfl) (by simp) (own_drop (own_keep HOr.out hbc) (k + 1)) ints_one (by unfold maxLen; omega) (by omega) hsz ?_; intro v2 wb hO2 hg2 hat2; have hb2 : Below wr.heap.size wr wb := hbc.grown hg2 hsz (fun q hq => by have := (hou.lt q hq).1; simp at this; omega); have hI2 : Ints wb v2 (l.eraseIdx k) := Ints.of_own (ownsRow_cast hO2 (by rw [HE.out]) (show ints (l.take k) ++ ints (l.drop (k + 1)) = ints (l.eraseIdx k) from erase_ints l k))))
        rcases hq : fullB (l.eraseIdx k) with _ | _
        · have HN : Hid (∀ j, j < k + 1 → fullB (l.eraseIdx j) = false) := fun j hj => by
            by_cases hj2 : j < k
            · exact hbef.out j hj2
            · obtain rfl : j = k := by omega
              exact hq
          have hb9 := Below.chain HB.out hbe
          clear hbef hbe hb2 hI2 hO2 hg2 hbc hbb hou hbd
          go_wp2
          go_roundw
          case rel => exact ⟨k + 1, by omega, by go_num, HN, hb9⟩
          case measure => simp [intOf]; omega
        · have HF := Lib.hid (leastL_bad hlt hq)
          have hb9 := Below.chain HB.out hbe
          clear hbef hbe hb2 hI2 hO2 hg2 hbc hbb hou hbd
          go_wp2
          go_ret
          exact ⟨by rw [HF.out]; rfl, hb9⟩
    · obtain rfl : k = l.length := by omega
      have HF := Lib.hid (leastL_ok hbef.out)
      have hI2 := Lib.hid (Ints.of_own (own_keep HO.out hb))
      go_wp2_with fail
      refine (l7Full_c _ l _ hI2.out HT.out).mono ?_
      rintro e w2 ⟨rfl, hb2⟩
      have hb3 := Below.chain hb hb2
      go_wp2
      go_ret
      exact ⟨by rw [HF.out]; rfl, hb3⟩
end Go.Proofs.YtlipkplomndjcaaGreat
namespace Go.Proofs.YtlipkplomndjcaaGreat
open Go.RowKit
set_option linter.unusedVariables false
/-- one list ahead of another -/
def befL : List Int → List Int → Bool
  | [], [] => false
  | [], _ :: _ => true
  | _ :: _, [] => false
  | x :: s, y :: t => if x = y then befL s t else decide (x < y)
theorem befL_irr : ∀ a : List Int, befL a a = false
  | [] => rfl
  | x :: s => by simp [befL, befL_irr s]
theorem befL_trans : ∀ a b c : List Int, befL a b = true → befL b c = true → befL a c = true
  | [], [], _, h, _ => by simp [befL] at h
  | [], _ :: _, [], _, h => by simp [befL] at h
  | [], _ :: _, _ :: _, _, _ => rfl
  | _ :: _, [], _, h, _ => by simp [befL] at h
  | _ :: _, _ :: _, [], _, h => by simp [befL] at h
  | x :: s, y :: t, z :: u, h1, h2 => by
    unfold befL at *
    by_cases e1 : x = y
    · subst e1
      rw [if_pos rfl] at h1
      by_cases e2 : x = z
      · subst e2
        rw [if_pos rfl] at h2 ⊢
        exact befL_trans s t u h1 h2
      · rw [if_neg e2] at h2 ⊢; exact h2
    · rw [if_neg e1] at h1
      simp at h1
      by_cases e2 : y = z
      · subst e2
        rw [if_neg e1]; simpa using h1
      · rw [if_neg e2] at h2
        simp at h2
        rw [if_neg (by omega)]; simp; omega
theorem befL_tri : ∀ a b : List Int, befL a b = false → befL b a = false → a = b
  | [], [], _, _ => rfl
  | [], _ :: _, h, _ => by simp [befL] at h
  | _ :: _, [], _, h => by simp [befL] at h
  | x :: s, y :: t, h1, h2 => by
    unfold befL at *
    by_cases e : x = y
    · subst e
      rw [if_pos rfl] at h1 h2
      rw [befL_tri s t h1 h2]
    · rw [if_neg e] at h1
      rw [if_neg (fun h => e h.symm)] at h2
      simp at h1 h2
      omega
theorem befL_asym {a b : List Int} (h : befL a b = true) : befL b a = false := by
  rw [Bool.eq_false_iff]; intro h2
  have := befL_trans a b a h h2
  rw [befL_irr] at this; cases this
theorem befL_cons (x : Int) (s t : List Int) : befL (x :: s) (x :: t) = befL s t := by simp [befL]
theorem loopE_cons (x : Int) (t part : List Int) : loopE (x :: t) part = ((part ++ [x]) :: loopE t (part ++ [x])) ++ loopE t part := rfl
theorem befL_pre : ∀ (p a b : List Int), befL (p ++ a) (p ++ b) = befL a b
  | [], _, _ => rfl
  | x :: p, a, b => by
    show befL (x :: (p ++ a)) (x :: (p ++ b)) = _
    rw [befL_cons]; exact befL_pre p a b
def slL (a b : List Int) : Prop := a.length < b.length ∨ (a.length = b.length ∧ befL a b = true)
theorem slL_trans {a b c : List Int} (h1 : slL a b) (h2 : slL b c) : slL a c := by
  unfold slL at *
  rcases h1 with h1 | ⟨h1, h1'⟩ <;> rcases h2 with h2 | ⟨h2, h2'⟩
  · exact .inl (by omega)
  · exact .inl (by omega)
  · exact .inl (by omega)
  · exact .inr ⟨by omega, befL_trans a b c h1' h2'⟩
theorem slL_tri {a b : List Int} (h1 : ¬ slL a b) (h2 : ¬ slL b a) : a = b := by
  unfold slL at *
  have hl : a.length = b.length := by omega
  refine befL_tri a b ?_ ?_
  · rw [Bool.eq_false_iff]; intro h; exact h1 (.inr ⟨hl, h⟩)
  · rw [Bool.eq_false_iff]; intro h; exact h2 (.inr ⟨hl.symm, h⟩)
def isB (S : List Int → Prop) : Option (List Int) → Prop
  | none => ∀ p, S p → fullB p = false
  | some m => S m ∧ fullB m = true ∧ ∀ p, S p → fullB p = true → ¬ slL p m
theorem isB_same {S : List Int → Prop} : ∀ {r r' : Option (List Int)}, isB S r → isB S r' → r = r'
  | none, none, _, _ => rfl
  | none, some m, h, h' => by have := h m h'.1; rw [h'.2.1] at this; cases this
  | some m, none, h, h' => by have := h' m h.1; rw [h.2.1] at this; cases this
  | some m, some m', h, h' => by rw [slL_tri (h'.2.2 m h.1 h.2.1) (h.2.2 m' h'.1 h'.2.1)]
def stepA (b : Option (List Int)) (p : List Int) : Option (List Int) := if fullB p && (match b with | none => true | some m => decide (p.length < m.length)) then some p else b
def bestA (ps : List (List Int)) : Option (List Int) := ps.foldl stepA none
def stepS (b : Option (List Int)) (p : List Int) : Option (List Int) := if fullB p && (match b with | none => true | some m => decide (p.length < m.length) || (decide (p.length = m.length) && befL p m)) then some p else b
def bestS (ps : List (List Int)) : Option (List Int) := ps.foldl stepS none
theorem bestA_snoc (ps : List (List Int)) (p : List Int) : bestA (ps ++ [p]) = stepA (bestA ps) p := by unfold bestA; rw [List.foldl_append]; rfl
theorem bestS_snoc (ps : List (List Int)) (p : List Int) : bestS (ps ++ [p]) = stepS (bestS ps) p := by unfold bestS; rw [List.foldl_append]; rfl
theorem isB_ext {S T : List Int → Prop} (h : ∀ p, S p ↔ T p) {r : Option (List Int)} (hr : isB S r) : isB T r := by
  have : S = T := funext fun p => propext (h p)
  rw [← this]; exact hr
theorem snoc_ind {α : Type} {M : List α → Prop} (h0 : M []) (h1 : ∀ l x, M l → M (l ++ [x])) (l : List α) : M l := by
  have : ∀ l : List α, M l.reverse := by
    intro l
    induction l with
    | nil => exact h0
    | cons x t ih => rw [List.reverse_cons]; exact h1 _ _ ih
  have h := this l.reverse
  rwa [List.reverse_reverse] at h
theorem bestA_is (ps : List (List Int)) : ps.Pairwise (fun a b => befL a b = true) → isB (· ∈ ps) (bestA ps) := by
  refine snoc_ind (M := fun ps => ps.Pairwise (fun a b => befL a b = true) → isB (· ∈ ps) (bestA ps)) ?_ ?_ ps
  · intro _ p hp; simp at hp
  · intro ps p ih hpw
    rw [List.pairwise_append] at hpw
    obtain ⟨hp1, _, hp2⟩ := hpw
    have hi := ih hp1
    have hq : ∀ q ∈ ps, befL q p = true := fun q hq => hp2 q hq p (by simp)
    rw [bestA_snoc]
    unfold stepA
    cases hf : fullB p
    · simp only [Bool.false_and, Bool.false_eq_true, if_false]
      cases hb : bestA ps with
      | none =>
        rw [hb] at hi
        intro q hq2
        rcases List.mem_append.1 hq2 with h | h
        · exact hi q h
        · simp at h; rw [h]; exact hf
      | some m =>
        rw [hb] at hi
        refine ⟨List.mem_append_left _ hi.1, hi.2.1, fun q hq2 hqf => ?_⟩
        rcases List.mem_append.1 hq2 with h | h
        · exact hi.2.2 q h hqf
        · simp at h; rw [h, hf] at hqf; cases hqf
    · simp only [Bool.true_and]
      cases hb : bestA ps with
      | none =>
        rw [hb] at hi
        simp only [if_true]
        refine ⟨by simp, hf, fun q hq2 hqf => ?_⟩
        rcases List.mem_append.1 hq2 with h | h
        · rw [hi q h] at hqf; cases hqf
        · simp at h; subst h
          unfold slL
          rw [befL_irr]; simp
      | some m =>
        rw [hb] at hi
        simp only [decide_eq_true_eq]
        by_cases hl : p.length < m.length
        · rw [if_pos hl]
          refine ⟨by simp, hf, fun q hq2 hqf => ?_⟩
          rcases List.mem_append.1 hq2 with h | h
          · have := hi.2.2 q h hqf
            unfold slL at *
            omega
          · simp at h; subst h
            unfold slL
            rw [befL_irr]; simp
        · rw [if_neg hl]
          refine ⟨List.mem_append_left _ hi.1, hi.2.1, fun q hq2 hqf => ?_⟩
          rcases List.mem_append.1 hq2 with h | h
          · exact hi.2.2 q h hqf
          · simp at h; subst h
            have := befL_asym (hq m hi.1)
            unfold slL
            rw [this]; simp; omega
theorem bestS_is (ps : List (List Int)) : isB (· ∈ ps) (bestS ps) := by
  refine snoc_ind (M := fun ps => isB (· ∈ ps) (bestS ps)) ?_ ?_ ps
  · intro p hp; simp at hp
  · intro ps p hi
    rw [bestS_snoc]
    unfold stepS
    cases hf : fullB p
    · simp only [Bool.false_and, Bool.false_eq_true, if_false]
      cases hb : bestS ps with
      | none =>
        rw [hb] at hi
        intro q hq2
        rcases List.mem_append.1 hq2 with h | h
        · exact hi q h
        · simp at h; rw [h]; exact hf
      | some m =>
        rw [hb] at hi
        refine ⟨List.mem_append_left _ hi.1, hi.2.1, fun q hq2 hqf => ?_⟩
        rcases List.mem_append.1 hq2 with h | h
        · exact hi.2.2 q h hqf
        · simp at h; rw [h, hf] at hqf; cases hqf
    · simp only [Bool.true_and]
      cases hb : bestS ps with
      | none =>
        rw [hb] at hi
        simp only [if_true]
        refine ⟨by simp, hf, fun q hq2 hqf => ?_⟩
        rcases List.mem_append.1 hq2 with h | h
        · rw [hi q h] at hqf; cases hqf
        · simp at h; subst h
          unfold slL
          rw [befL_irr]; simp
      | some m =>
        rw [hb] at hi
        simp only [Bool.or_eq_true, Bool.and_eq_true, decide_eq_true_eq]
        by_cases hl : p.length < m.length ∨ (p.length = m.length ∧ befL p m = true)
        · rw [if_pos hl]
          refine ⟨by simp, hf, fun q hq2 hqf hs => ?_⟩
          rcases List.mem_append.1 hq2 with h | h
          · exact hi.2.2 q h hqf (slL_trans hs hl)
          · simp at h; subst h
            unfold slL at hs
            rw [befL_irr] at hs; simp at hs
        · rw [if_neg hl]
          refine ⟨List.mem_append_left _ hi.1, hi.2.1, fun q hq2 hqf hs => ?_⟩
          rcases List.mem_append.1 hq2 with h | h
          · exact hi.2.2 q h hqf hs
          · simp at h; subst h
            exact hl hs
theorem loopE_form : ∀ (l part q : List Int), q ∈ loopE l part → ∃ y r, q = part ++ y :: r ∧ y ∈ l
  | [], part, q, h => by simp [loopE] at h
  | x :: t, part, q, h => by
    rw [loopE_cons] at h
    rcases List.mem_append.1 h with h | h
    · rcases List.mem_cons.1 h with h | h
      · exact ⟨x, [], by rw [h], by simp⟩
      · obtain ⟨y, r, e, _⟩ := loopE_form t (part ++ [x]) q h
        exact ⟨x, y :: r, by rw [e]; simp, by simp⟩
    · obtain ⟨y, r, e, hy⟩ := loopE_form t part q h
      exact ⟨y, r, e, List.mem_cons_of_mem _ hy⟩
theorem loopE_lex : ∀ (l part : List Int), l.Pairwise (· < ·) → (loopE l part).Pairwise (fun a b => befL a b = true)
  | [], part, _ => by simp [loopE]
  | x :: t, part, h => by
    rw [List.pairwise_cons] at h
    rw [loopE_cons, List.pairwise_append]
    refine ⟨?_, loopE_lex t part h.2, fun a ha b hb => ?_⟩
    · rw [List.pairwise_cons]
      refine ⟨fun q hq => ?_, loopE_lex t (part ++ [x]) h.2⟩
      obtain ⟨y, r, e, _⟩ := loopE_form t (part ++ [x]) q hq
      rw [e]
      have := befL_pre (part ++ [x]) [] (y :: r)
      rw [List.append_nil] at this
      rw [this]; rfl
    · obtain ⟨y, r, e, hy⟩ := loopE_form t part b hb
      have hx : ∃ r2, a = part ++ x :: r2 := by
        rcases List.mem_cons.1 ha with ha | ha
        · exact ⟨[], ha⟩
        · obtain ⟨z, r2, e2, _⟩ := loopE_form t (part ++ [x]) a ha
          exact ⟨z :: r2, by rw [e2]; simp⟩
      obtain ⟨r2, e2⟩ := hx
      rw [e, e2, befL_pre]
      have := h.1 y hy
      unfold befL
      rw [if_neg (by omega)]; simpa using this
theorem subsL_lex (set : List Int) (h : set.Pairwise (· < ·)) : (subsL set).Pairwise (fun a b => befL a b = true) := by
  unfold subsL
  rw [List.pairwise_cons]
  refine ⟨fun q hq => ?_, loopE_lex set [] h⟩
  obtain ⟨y, r, e, _⟩ := loopE_form set [] q hq
  rw [e]; rfl
theorem mem_parts : ∀ (l part q : List Int), q ∈ part :: loopE l part ↔ ∃ s, s < 2 ^ l.length ∧ q = part ++ digsL l s
  | [], part, q => by
    simp [loopE, digsL, pick, prtL]
  | x :: t, part, q => by
    have h1 := mem_parts t (part ++ [x]) q
    have h2 := mem_parts t part q
    have e : q ∈ part :: loopE (x :: t) part ↔ (q ∈ part :: loopE t part ∨ q ∈ (part ++ [x]) :: loopE t (part ++ [x])) := by
      rw [loopE_cons]
      simp only [List.mem_cons, List.mem_append]
      constructor
      · rintro (h | ((h | h) | h))
        · exact .inl (.inl h)
        · exact .inr (.inl h)
        · exact .inr (.inr h)
        · exact .inl (.inr h)
      · rintro ((h | h) | (h | h))
        · exact .inl h
        · exact .inr (.inr h)
        · exact .inr (.inl (.inl h))
        · exact .inr (.inl (.inr h))
    rw [e, h1, h2, List.length_cons, Nat.pow_succ]
    constructor
    · rintro (⟨s, hs, h⟩ | ⟨s, hs, h⟩)
      · exact ⟨s, by omega, by rw [digsL_low hs]; exact h⟩
      · exact ⟨2 ^ t.length + s, by omega, by rw [digsL_high hs, h]; simp⟩
    · rintro ⟨s, hs, h⟩
      by_cases hlt : s < 2 ^ t.length
      · left; exact ⟨s, hlt, by rw [digsL_low hlt] at h; exact h⟩
      · right
        refine ⟨s - 2 ^ t.length, by omega, ?_⟩
        have e2 : s = 2 ^ t.length + (s - 2 ^ t.length) := by omega
        rw [e2, digsL_high (by omega)] at h
        rw [h]; simp
/-- the parts told by bits -/
def partsS (set : List Int) (n : Nat) : List (List Int) := (List.range n).map (digsL set)
theorem partsS_succ (set : List Int) (n : Nat) : partsS set (n + 1) = partsS set n ++ [digsL set n] := by unfold partsS; rw [List.range_succ, List.map_append]; rfl
theorem best_same (set : List Int) (h : set.Pairwise (· < ·)) : bestS (partsS set (2 ^ set.length)) = bestA (subsL set) := by
  refine isB_same (isB_ext (fun p => ?_) (bestS_is _)) (bestA_is _ (subsL_lex set h))
  have := mem_parts set [] p
  unfold partsS
  rw [List.mem_map]
  show _ ↔ p ∈ subsL set
  unfold subsL
  rw [this]
  constructor
  · rintro ⟨s, hs, e⟩; exact ⟨s, List.mem_range.1 hs, e.symm⟩
  · rintro ⟨s, hs, e⟩; exact ⟨s, List.mem_range.2 hs, e.symm⟩
end Go.Proofs.YtlipkplomndjcaaGreat
namespace Go.Proofs.YtlipkplomndjcaaGreat
open Go.RowKit
set_option linter.unusedVariables false
set_option maxRecDepth 100000
theorem Delete_c (v : Value) (xs : List Int) (i lo : Nat) (w : World) (ho : w.ownsRow lo 3 1 v xs.length (ints xs)) (hi : i < xs.length) (hn : xs.length ≤ 1000) :
    Calls Tryz.prog 96 #[v, .int .i64 (i : Int), .int .i64 ((i : Int) + 1)] w fun e w' => ∃ u, e = .returned u ∧ w'.ownsRow lo 3 1 u (xs.eraseIdx i).length (ints (xs.eraseIdx i)) ∧ w.grownBy w' v.ownBlock := by
  have hv : v ≠ .slice none 0 0 := by
    intro e
    obtain ⟨a, c, e2, _⟩ := (Sl.of_own ho).slice
    rw [e] at e2
    injection e2 with _ e3
    omega
  obtain ⟨g, cap, rfl, hlo, hlt, h1, h2, _, hH⟩ := Lib.holds_of_ownsRow ho hv
  unfold maxLen at h2
  have H := Tryz.slices_Delete_int g 0 cap i (i + 1) xs w hH h1 (by omega) (by omega) (by omega)
  rw [show ((i + 1 : Nat) : Int) = (i : Int) + 1 by omega] at H
  refine H.mono ?_
  rintro e w' ⟨rfl, q, rfl⟩
  have hl := erase_len hi
  have h3 := Lib.ownsRow_putRow (q := q) (k := (xs.eraseIdx i).length) (ys := xs.take i ++ xs.drop (i + 1) ++ List.replicate (i + 1 - i) 0) ho (by simp; omega) (by omega)
  have e3 : List.take (xs.eraseIdx i).length (xs.take i ++ xs.drop (i + 1) ++ List.replicate (i + 1 - i) (0 : Int)) = xs.eraseIdx i := by rw [← List.eraseIdx_eq_take_drop_succ, List.take_left]
  rw [e3] at h3
  have h4 := grownBy_sortedI (w := w) (g := g) (n := q) (os := #[]) (xs.take i ++ xs.drop (i + 1) ++ List.replicate (i + 1 - i) 0).toArray
  rw [Sort.grow_empty] at h4
  exact ⟨_, rfl, by rw [show xs.length - (i + 1 - i) = (xs.eraseIdx i).length by omega]; exact h3, h4⟩
set_option maxHeartbeats 2000000 in
theorem isLeast_c (v : Value) (xs : List Int) (w : World) (hv : Ints w v xs) (ht : testB xs = true) :
    Calls Tryz.prog 54 #[v] w fun e w' => e = .returned (.bool (leastL (setS xs))) ∧ Below w.heap.size w w' := by
  have hlen : xs.length ≤ 10 := by unfold testB at ht; simp only [Bool.and_eq_true, decide_eq_true_eq] at ht; exact ht.1
  have HS := Lib.hid (setOf_c v xs w hv (by omega))
  have hts := testB_set ht
  have hsl := setS_len xs
  clear hv ht
  generalize setS xs = l at *
  have hll : l.length ≤ 10 := by omega
  have HT := Lib.hid hts; clear hts hsl
  go_enter Tryz.func54, Tryz.ntmps54
  go_wp2_with fail
  refine HS.out.mono ?_
  rintro e w1 ⟨u, rfl, ho, hb1⟩
  have hIu := Ints.of_own ho
  obtain ⟨ua, uc, rfl, _, _, _⟩ := hIu.parts
  have HI := Lib.hid hIu
  clear ho hIu
  go_wp2
  go_loopw [9] (fun i wr => ∃ k : Nat, k ≤ l.length ∧ i = .int .i64 (k : Int) ∧ Hid (∀ j, j < k → fullB (l.eraseIdx j) = false) ∧ Below w1.heap.size w1 wr) (fun i _ => l.length - (intOf i).toNat)
  case atStart => exact ⟨0, by omega, rfl, fun j h => by omega, Below.refl _ _⟩
  case round =>
    obtain ⟨k, hk, rfl, hbef, hb⟩ := hrel
    by_cases hlt : k < l.length
    · have hd : decide ((k : Int) < (l.length : Int)) = true := by simp; omega
      have HC := Lib.hid (Clone_c _ l wr (HI.out.below hb) (by omega))
      have hte := Lib.hid (testB_erase HT.out k)
      go_wp2_with fail
      refine HC.out.mono ?_
      rintro e w2 ⟨u2, rfl, ho2, hb2⟩
      have HD := Lib.hid (Delete_c u2 l k wr.heap.size w2 ho2 hlt (by omega))
      have HO2 := Lib.hid ho2
      clear ho2
      go_wp2_with fail
      refine HD.out.mono ?_
      rintro e w3 ⟨u3, rfl, ho3, hg3⟩
      have hb3 : Below wr.heap.size wr w3 := hb2.grown hg3 hb2.size (fun q hq => (HO2.out.lt q hq).1)
      have hI3 := Lib.hid (Ints.of_own ho3)
      clear ho3 hg3 hb2
      go_wp2_with fail
      refine (isFull_c u3 (l.eraseIdx k) _ hI3.out hte.out).mono ?_
      rintro e w4 ⟨rfl, hb4⟩
      have hb5 := Below.chain hb (Below.chain hb3 hb4)
      clear hb hb3 hb4
      rcases hq : fullB (l.eraseIdx k) with _ | _
      · have HN : Hid (∀ j, j < k + 1 → fullB (l.eraseIdx j) = false) := fun j hj => by
          by_cases hj2 : j < k
          · exact hbef.out j hj2
          · obtain rfl : j = k := by omega
            exact hq
        clear hbef
        go_wp2
        go_roundw
        case rel => exact ⟨k + 1, by omega, by go_num, HN, hb5⟩
        case measure => simp [intOf]; omega
      · have HF := Lib.hid (leastL_bad hlt hq)
        have hb9 := Below.chain hb1 hb5
        clear hbef
        go_wp2
        go_ret
        exact ⟨by rw [HF.out]; rfl, hb9⟩
    · obtain rfl : k = l.length := by omega
      have HF := Lib.hid (leastL_ok hbef.out)
      have hI2 := Lib.hid (HI.out.below hb)
      go_wp2_with fail
      refine (isFull_c _ l _ hI2.out HT.out).mono ?_
      rintro e w2 ⟨rfl, hb2⟩
      have hb3 := Below.chain hb1 (Below.chain hb hb2)
      go_wp2
      go_ret
      exact ⟨by rw [HF.out]; rfl, hb3⟩
def ltV (xs : List Int) : Value := .tuple #[.bool (testB xs && leastL (setS xs)), .bool (testB xs)]
theorem IsLeastTest_c (v : Value) (xs : List Int) (w : World) (hv : Ints w v xs) :
    Calls Tryz.prog 15 #[v] w fun e w' => e = .returned (ltV xs) ∧ Below w.heap.size w w' := by
  rcases hq : testB xs with _ | _
  · have HF := Lib.hid (show ltV xs = .tuple #[.bool false, .bool false] by unfold ltV; rw [hq]; rfl)
    have HQ := Lib.hid hq; have HV := Lib.hid hv; clear hq hv
    go_enter Tryz.func15, Tryz.ntmps15
    go_wp2_with fail
    refine (isTest_c v xs _ HV.out).mono ?_
    rintro e w1 ⟨rfl, hb1⟩
    rw [HQ.out]
    go_wp2
    go_ret2
    exact ⟨by rw [HF.out]; rfl, hb1⟩
  · have HF := Lib.hid (show ltV xs = .tuple #[.bool (leastL (setS xs)), .bool true] by unfold ltV; rw [hq]; rfl)
    have HQ := Lib.hid hq; have HV := Lib.hid hv; clear hq hv
    go_enter Tryz.func15, Tryz.ntmps15
    go_wp2_with fail
    refine (isTest_c v xs _ HV.out).mono ?_
    rintro e w1 ⟨rfl, hb1⟩
    rw [HQ.out]
    have HL := Lib.hid (isLeast_c v xs w1 (HV.out.below hb1) HQ.out)
    go_wp2_with fail
    refine HL.out.mono ?_
    rintro e w2 ⟨rfl, hb2⟩
    have hb3 := Below.chain hb1 hb2
    go_wp2
    go_ret2
    exact ⟨by rw [HF.out]; rfl, hb3⟩
theorem sIsLeastTest_c (v : Value) (xs : List Int) (w : World) (hv : Ints w v xs) :
    Calls Tryz.prog 16 #[v] w fun e w' => e = .returned (ltV xs) ∧ Below w.heap.size w w' := by
  rcases hq : testB xs with _ | _
  · have HF := Lib.hid (show ltV xs = .tuple #[.bool false, .bool false] by unfold ltV; rw [hq]; rfl)
    have HQ := Lib.hid hq; have HV := Lib.hid hv; clear hq hv
    go_enter Tryz.func16, Tryz.ntmps16
    go_wp2_with fail
    refine (l7Test_c v xs _ HV.out).mono ?_
    rintro e w1 ⟨rfl, hb1⟩
    rw [HQ.out]
    go_wp2
    go_ret2
    exact ⟨by rw [HF.out]; rfl, hb1⟩
  · have HF := Lib.hid (show ltV xs = .tuple #[.bool (leastL (setS xs)), .bool true] by unfold ltV; rw [hq]; rfl)
    have hlen : xs.length ≤ 10 := by unfold testB at hq; simp only [Bool.and_eq_true, decide_eq_true_eq] at hq; exact hq.1
    have HT := Lib.hid (testB_set hq)
    have HQ := Lib.hid hq; have HV := Lib.hid hv; clear hq hv
    go_enter Tryz.func16, Tryz.ntmps16
    go_wp2_with fail
    refine (l7Test_c v xs _ HV.out).mono ?_
    rintro e w1 ⟨rfl, hb1⟩
    rw [HQ.out]
    have HS := Lib.hid (l7Set_c v xs w1 (HV.out.below hb1) (by omega))
    go_wp2_with fail
    refine HS.out.mono ?_
    rintro e w2 ⟨g, cap, rfl, ho2, hb2⟩
    have HL := Lib.hid (l7Least_c g cap w1.heap.size (setS xs) w2 ho2 HT.out)
    clear ho2
    go_wp2_with fail
    refine HL.out.mono ?_
    rintro e w3 ⟨rfl, hb3⟩
    have hb4 := Below.chain hb1 (Below.chain hb2 hb3)
    go_wp2
    go_ret2
    exact ⟨by rw [HF.out]; rfl, hb4⟩
end Go.Proofs.YtlipkplomndjcaaGreat
namespace Go.Proofs.YtlipkplomndjcaaGreat
open Go.RowKit
set_option linter.unusedVariables false
set_option maxRecDepth 100000
theorem befL_step {a b : List Int} {k : Nat} {x : Int} (ha : a[k]? = some x) (hb : b[k]? = some x) : befL (a.drop k) (b.drop k) = befL (a.drop (k + 1)) (b.drop (k + 1)) := by
  have e1 : a.drop k = x :: a.drop (k + 1) := by
    have hlt := (List.getElem?_eq_some_iff.1 ha).1
    rw [List.drop_eq_getElem_cons hlt]
    rw [List.getElem?_eq_getElem hlt] at ha
    rw [Option.some.inj ha]
  have e2 : b.drop k = x :: b.drop (k + 1) := by
    have hlt := (List.getElem?_eq_some_iff.1 hb).1
    rw [List.drop_eq_getElem_cons hlt]
    rw [List.getElem?_eq_getElem hlt] at hb
    rw [Option.some.inj hb]
  rw [e1, e2, befL_cons]
theorem befL_diff {a b : List Int} {k : Nat} {x y : Int} (ha : a[k]? = some x) (hb : b[k]? = some y) (hne : x ≠ y) : befL (a.drop k) (b.drop k) = decide (x < y) := by
  have e1 : a.drop k = x :: a.drop (k + 1) := by
    have hlt := (List.getElem?_eq_some_iff.1 ha).1
    rw [List.drop_eq_getElem_cons hlt]
    rw [List.getElem?_eq_getElem hlt] at ha
    rw [Option.some.inj ha]
  have e2 : b.drop k = y :: b.drop (k + 1) := by
    have hlt := (List.getElem?_eq_some_iff.1 hb).1
    rw [List.drop_eq_getElem_cons hlt]
    rw [List.getElem?_eq_getElem hlt] at hb
    rw [Option.some.inj hb]
  rw [e1, e2]
  unfold befL
  rw [if_neg hne]
theorem befL_end {a b : List Int} {k : Nat} (h : k = a.length ∨ k = b.length) (ha : k ≤ a.length) (hb : k ≤ b.length) : befL (a.drop k) (b.drop k) = decide (a.length < b.length) := by
  rcases h with h | h
  · subst h
    rw [List.drop_length]
    cases hd : b.drop a.length with
    | nil =>
      have := List.drop_eq_nil_iff.1 hd
      simp [befL]; omega
    | cons y t =>
      have : a.length < b.length := by
        rcases Nat.lt_or_ge a.length b.length with h | h
        · exact h
        · rw [List.drop_eq_nil_of_le h] at hd; cases hd
      simp [befL]; omega
  · subst h
    rw [show b.drop b.length = [] by simp]
    cases hd : a.drop b.length with
    | nil =>
      have := List.drop_eq_nil_iff.1 hd
      simp [befL]; omega
    | cons y t =>
      simp [befL]; omega
set_option maxHeartbeats 1000000 in
theorem l7Before_c (v1 v2 : Value) (a b : List Int) (w : World) (h1 : Ints w v1 a) (h2 : Ints w v2 b) :
    Calls Tryz.prog 62 #[v1, v2] w fun e w' => e = .returned (.bool (befL a b)) ∧ Below w.heap.size w w' := by
  have m1 := h1.le; have m2 := h2.le
  obtain ⟨a1, c1, rfl, _, _, H1⟩ := h1.parts
  obtain ⟨a2, c2, rfl, _, _, H2⟩ := h2.parts
  clear h1 h2
  go_enter Tryz.func62, Tryz.ntmps62
  go_wp2
  go_loopw [5] (fun i wr => ∃ k : Nat, k ≤ a.length ∧ k ≤ b.length ∧ i = .int .i64 (k : Int) ∧ Hid (befL a b = befL (a.drop k) (b.drop k)) ∧ Below w.heap.size w wr) (fun i _ => a.length - (intOf i).toNat)
  case atStart => exact ⟨0, by omega, by omega, rfl, rfl, Below.refl _ _⟩
  case round =>
    obtain ⟨k, hk1, hk2, rfl, hbe, hb⟩ := hrel
    by_cases hlt1 : k < a.length
    · have hd1 : decide ((k : Int) < (a.length : Int)) = true := by simp; omega
      by_cases hlt2 : k < b.length
      · have hd2 : decide ((k : Int) < (b.length : Int)) = true := by simp; omega
        have n0 : (0 : Int) ≤ (k : Int) := by omega
        obtain ⟨x, hx⟩ := elem_at hlt1
        obtain ⟨y, hy⟩ := elem_at hlt2
        obtain ⟨b1, o1, rfl, f1⟩ := H1.out k x hx.out
        obtain ⟨b2, o2, rfl, f2⟩ := H2.out k y hy.out
        have g1 := cell_later hb f1
        have g2 := cell_later hb f2
        clear f1 f2
        rcases hxy : (x != y) with _ | _
        · have hE : x = y := by simpa using hxy
          have HN : Hid (befL a b = befL (a.drop (k + 1)) (b.drop (k + 1))) := by
            show _ = _
            rw [hbe.out]; exact befL_step hx.out (by rw [hy.out, hE])
          clear hbe hE
          go_wp2
          go_quiet (fail)
          go_wp2
          go_roundw
          case rel => exact ⟨k + 1, by omega, by omega, by go_num, HN, below_drewN hb⟩
          case measure => simp [intOf]; omega
        · have hE : x ≠ y := by simpa using hxy
          have HN := Lib.hid (show befL a b = decide (x < y) by rw [hbe.out]; exact befL_diff hx.out hy.out hE)
          clear hbe hE
          go_wp2
          go_quiet (fail)
          go_wp2
          go_quiet (fail)
          go_wp2
          go_ret
          exact ⟨by rw [HN.out]; rfl, below_drewN (below_drewN hb)⟩
      · have hd2 : decide ((k : Int) < (b.length : Int)) = false := by simp; omega
        have HN := Lib.hid (show befL a b = decide (a.length < b.length) by rw [hbe.out]; exact befL_end (.inr (by omega)) (by omega) (by omega))
        clear hbe
        go_wp2
        go_ret
        exact ⟨by rw [HN.out]; rfl, hb⟩
    · have hd1 : decide ((k : Int) < (a.length : Int)) = false := by simp; omega
      have HN := Lib.hid (show befL a b = decide (a.length < b.length) by rw [hbe.out]; exact befL_end (.inl (by omega)) (by omega) (by omega))
      clear hbe
      go_wp2
      go_ret
      exact ⟨by rw [HN.out]; rfl, hb⟩
theorem full_nil : fullB [] = false := by decide
/-- what lies in the variable of the best part so far -/
def BestV (lo m : Nat) (w : World) (bv : Value) : Option (List Int) → Prop
  | none => bv = .slice none 0 0
  | some b => b ≠ [] ∧ b.length ≤ 10 ∧ w.ownsRow lo 3 1 bv b.length (ints b) ∧ ∃ g cap, bv = .slice (some ⟨g, 0, none⟩) b.length cap ∧ g ≠ m
structure StI (lo m : Nat) (done : List (List Int)) (w : World) : Prop where
  lm : lo ≤ m
  fm : w.frozen? ⟨m, 0, none⟩ = false
  best : ∃ bv, w.cell? ⟨m, 0, none⟩ = some bv ∧ BestV lo m w bv (bestA done)
theorem BestV.keep {lo m : Nat} {w w' : World} {bv : Value} {r : Option (List Int)} (h : BestV lo m w bv r) (hb : Below w.heap.size w w') : BestV lo m w' bv r := by
  cases r with
  | none => exact h
  | some b => exact ⟨h.1, h.2.1, own_keep h.2.2.1 hb, h.2.2.2⟩
theorem StI.keep {lo m : Nat} {done : List (List Int)} {w w' : World} (h : StI lo m done w) (hb : Below w.heap.size w w') : StI lo m done w' := by
  obtain ⟨bv, hc, hB⟩ := h.best
  exact ⟨h.lm, by rw [hb.frozen (p := ⟨m, 0, none⟩) (World.block_lt_of_cell? _ _ hc)]; exact h.fm, bv, cell_later hb hc, hB.keep hb⟩
set_option maxHeartbeats 2000000 in
theorem st_doer (lo m : Nat) (S : List Int) (hS : ∀ y ∈ S, digitB y = true) : Doer (fun _ j => j = m) (StI lo m) 59 #[.pointer (some ⟨m, 0, none⟩)] S where
  calls := fun bs w => by kernel_rfl
  keepI := fun done w w' h hb => h.keep hb
  keepD := fun done w w' h hb j hj => hj
  ltD := fun done w j h hj => by obtain ⟨bv, hc, _⟩ := h.best; rw [hj]; exact World.block_lt_of_cell? _ _ hc
  run := by
    intro done part v w hpl hps hI hv hd
    have ht : testB part = true := by
      unfold testB
      rw [decide_eq_true hpl, Bool.true_and, List.all_eq_true]
      exact fun y hy => hS y (hps y hy)
    have hle := hv.le
    have hv2 := Lib.hid hv
    obtain ⟨a, c, rfl, _, _, _⟩ := hv.parts
    have HN := Lib.hid (bestA_snoc done part)
    have hFr0 : Hid (∀ w', Below w.heap.size w w' → Fr (fun _ j => j = m) w w') := fun w' hb => ⟨hb.os, hb.tape, hb.output, hb.size, fun j hj _ => hb.block j hj, fun j hj => .inl hj⟩
    have hFr : Hid (∀ w', Below w.heap.size w w' → ∀ x, Fr (fun _ j => j = m) w (w'.setCell ⟨m, 0, none⟩ x)) := fun w' hb x =>
      ⟨hb.os, hb.tape, hb.output, by simp; exact hb.size, fun j hj hne => by rw [heap_setCell_other _ _ _ _ hne]; exact hb.block j hj, fun j hj => .inl hj⟩
    have HF := Lib.hid (isFull_c _ part w hv ht)
    rcases h2 : fullB part with _ | _
    · have HC := Lib.hid (show bestA (done ++ [part]) = bestA done by rw [HN.out]; unfold stepA; rw [h2]; rfl)
      have HI := Lib.hid hI; have H2 := Lib.hid h2
      clear hI h2 hv ht
      go_enter Tryz.func59, Tryz.ntmps59
      go_wp2_with fail
      refine HF.out.mono ?_
      rintro e w1 ⟨rfl, hb1⟩
      rw [H2.out]
      have HB := Lib.hid hb1
      clear hb1
      go_wp2
      refine bodyPost_end (results_none rfl _ _ _) rfl ?_
      have hk := HI.out.keep HB.out
      obtain ⟨bv, k1, k2⟩ := hk.best
      exact ⟨rfl, ⟨hk.lm, hk.fm, bv, k1, by rw [HC.out]; exact k2⟩, hFr0.out _ HB.out⟩
    · have hne : part ≠ [] := fun e => by rw [e, full_nil] at h2; cases h2
      have hpos : 0 < part.length := List.length_pos_iff.2 hne
      have HNE := Lib.hid hne
      have fin : Hid (∀ (w2 : World) (u : Value), Below w.heap.size w w2 → w2.ownsRow w.heap.size 3 1 u part.length (ints part) → stepA (bestA done) part = some part → StI lo m (done ++ [part]) (w2.setCell ⟨m, 0, none⟩ u)) := by
        intro w2 u hb2 ho2 hst
        obtain ⟨bv, k1, _⟩ := (hI.keep hb2).best
        have hlm := hI.lm
        obtain ⟨bv0, k0, _⟩ := hI.best
        have hmlt : m < w.heap.size := World.block_lt_of_cell? _ _ k0
        obtain ⟨g, cap, e, hg1, hg2, _, _⟩ := own_form ho2 hpos
        refine ⟨hI.lm, by rw [World.frozen?_setCell]; exact (hI.keep hb2).fm, u, World.cell?_setCell_same _ _ _ k1, ?_⟩
        rw [HN.out, hst]
        refine ⟨HNE.out, hpl, ?_, g, cap, e, by omega⟩
        exact (own_lo ho2 (by omega)).kept (grownBy_setCell' w2 m u) (.inr (by rw [e]; intro h; simp [Value.ownBlock] at h; omega))
      clear hne
      obtain ⟨bv, hc, hB⟩ := hI.best
      have hfm := hI.fm
      have HI := Lib.hid hI; have H2 := Lib.hid h2
      have HV := hv2
      clear hI hv ht
      cases hr : bestA done with
      | none =>
        rw [hr] at hB
        obtain rfl : bv = .slice none 0 0 := hB
        have hst := Lib.hid (show stepA (bestA done) part = some part by rw [hr]; unfold stepA; rw [h2]; rfl)
        have hnil := fun (w : World) => Lib.run_eql_slice_nil (P := Tryz.prog) w 24 3 none 0 0 0 0 Tryz.underlying24
        clear h2 hr
        go_enter Tryz.func59, Tryz.ntmps59
        go_wp2_with fail
        refine HF.out.mono ?_
        rintro e w1 ⟨rfl, hb1⟩
        rw [H2.out]
        have g1 := cell_later hb1 hc
        have HCl := Lib.hid (Clone_c _ part w1 (HV.out.below hb1) (by omega))
        go_wp2_with fail
        refine HCl.out.mono ?_
        rintro e w2 ⟨u, rfl, ho2, hb2⟩
        obtain ⟨ug, ucap, rfl, _, _, _, _⟩ := own_form ho2 hpos
        have g2 := cell_later hb2 g1
        have hb3 := Below.chain hb1 hb2
        have f2 := (hb3.frozen (p := ⟨m, 0, none⟩) (World.block_lt_of_cell? _ _ hc)).trans hfm
        have HO := Lib.hid (own_lo (lo' := w.heap.size) ho2 hb1.size)
        have HB := Lib.hid hb3
        clear ho2 hb1 hb2 g1 hb3
        go_wp2
        refine bodyPost_end (results_none rfl _ _ _) rfl ?_
        exact ⟨rfl, fin.out _ _ HB.out HO.out hst.out, hFr.out _ HB.out _⟩
      | some b =>
        rw [hr] at hB
        obtain ⟨hb0, hb10, hob, g, cap, rfl, hgm⟩ := hB
        have hnil := fun (w : World) => Lib.run_eql_slice_nil (P := Tryz.prog) w 24 3 (some ⟨g, 0, none⟩) b.length cap 0 0 Tryz.underlying24
        have hob2 := Lib.hid hob
        clear hob hb0
        by_cases hl : part.length < b.length
        · have hst := Lib.hid (show stepA (bestA done) part = some part by rw [hr]; unfold stepA; rw [h2]; simp [hl])
          have hd : decide ((part.length : Int) < (b.length : Int)) = true := by simp; omega
          clear h2 hr
          go_enter Tryz.func59, Tryz.ntmps59
          go_wp2_with fail
          refine HF.out.mono ?_
          rintro e w1 ⟨rfl, hb1⟩
          rw [H2.out]
          have g1 := cell_later hb1 hc
          have HCl := Lib.hid (Clone_c _ part w1 (HV.out.below hb1) (by omega))
          go_wp2_with fail
          refine HCl.out.mono ?_
          rintro e w2 ⟨u, rfl, ho2, hb2⟩
          obtain ⟨ug, ucap, rfl, _, _, _, _⟩ := own_form ho2 hpos
          have g2 := cell_later hb2 g1
          have hb3 := Below.chain hb1 hb2
          have f2 := (hb3.frozen (p := ⟨m, 0, none⟩) (World.block_lt_of_cell? _ _ hc)).trans hfm
          have HO := Lib.hid (own_lo (lo' := w.heap.size) ho2 hb1.size)
          have HB := Lib.hid hb3
          clear ho2 hb1 hb2 g1 hb3
          go_wp2
          refine bodyPost_end (results_none rfl _ _ _) rfl ?_
          exact ⟨rfl, fin.out _ _ HB.out HO.out hst.out, hFr.out _ HB.out _⟩
        · have hst := Lib.hid (show bestA (done ++ [part]) = bestA done by rw [HN.out, hr]; unfold stepA; rw [h2]; simp [hl])
          have hd : decide ((part.length : Int) < (b.length : Int)) = false := by simp; omega
          clear h2 hr
          go_enter Tryz.func59, Tryz.ntmps59
          go_wp2_with fail
          refine HF.out.mono ?_
          rintro e w1 ⟨rfl, hb1⟩
          rw [H2.out]
          have g1 := cell_later hb1 hc
          have HB := Lib.hid hb1
          clear hb1
          go_wp2
          refine bodyPost_end (results_none rfl _ _ _) rfl ?_
          have hk := HI.out.keep HB.out
          obtain ⟨bv, k1, k2⟩ := hk.best
          exact ⟨rfl, ⟨hk.lm, hk.fm, bv, k1, by rw [hst.out]; exact k2⟩, hFr0.out _ HB.out⟩
end Go.Proofs.YtlipkplomndjcaaGreat
namespace Go.Proofs.YtlipkplomndjcaaGreat
open Go.RowKit
set_option linter.unusedVariables false
set_option maxRecDepth 100000
def shR (xs : List Int) : Option (List Int) := bestA (subsL (setS xs))
def shL (xs : List Int) : List Int := if testB xs then (shR xs).getD [] else []
def shB (xs : List Int) : Bool := testB xs && (shR xs).isSome
theorem shR_len {xs : List Int} (ht : testB xs = true) : ((shR xs).getD []).length ≤ 10 := by
  have h := bestA_is (subsL (setS xs)) (subsL_lex _ (setS_lt xs))
  unfold shR
  cases hr : bestA (subsL (setS xs)) with
  | none => simp
  | some m =>
    rw [hr] at h
    have hm := h.1
    have := (mem_parts (setS xs) [] m).1 hm
    obtain ⟨s, _, e⟩ := this
    have hl : m.length ≤ (setS xs).length := by
      rw [e, List.nil_append]; unfold digsL pick
      rw [List.length_map]; exact prtL_le _ _ _
    have h2 := setS_len xs
    have h3 : xs.length ≤ 10 := by unfold testB at ht; simp only [Bool.and_eq_true, decide_eq_true_eq] at ht; exact ht.1
    simp; omega
theorem shL_le (xs : List Int) : (shL xs).length ≤ 10 := by
  unfold shL
  split
  · rename_i h; exact shR_len h
  · simp
theorem neq_nil {P : Program} (w : World) (t e : TypeId) (a : Option Addr) (n c n' c' : Nat)
    (h : P.underlying t = some (.slice e)) :
    (binOp .neq t (.slice a n c) (.slice none n' c')).run P w = .ok (.bool (!a.isNone)) w := by
  simp only [binOp]
  simp [Op.equal, Op.maxDepth, Lib.run_equalIn_slice_nil w 9999 t e a n c n' c' h]
set_option maxHeartbeats 2000000 in
theorem ShortestTest_c (v : Value) (xs : List Int) (w : World) (hv : Ints w v xs) :
    Calls Tryz.prog 18 #[v] w (IntsPost w (shL xs) (shB xs)) := by
  have HV := Lib.hid hv
  rcases hq : testB xs with _ | _
  · have HL := Lib.hid (show shL xs = [] by simp [shL, hq])
    have HB := Lib.hid (show shB xs = false by simp [shB, hq])
    have HQ := Lib.hid hq; clear hq hv
    go_enter Tryz.func18, Tryz.ntmps18
    go_wp2_with fail
    refine (isTest_c v xs _ HV.out).mono ?_
    rintro e w1 ⟨rfl, hb1⟩
    rw [HQ.out]
    go_wp2
    go_ret2
    exact IntsPost.mk' HL.out HB.out (World.ownsRow_nil _ _ _ _) hb1
  · have HL := Lib.hid (show shL xs = (shR xs).getD [] by simp [shL, hq])
    have HBB := Lib.hid (show shB xs = (shR xs).isSome by simp [shB, hq])
    have hlen : xs.length ≤ 10 := by unfold testB at hq; simp only [Bool.and_eq_true, decide_eq_true_eq] at hq; exact hq.1
    have hsl := setS_len xs
    have hsd : Hid (∀ y ∈ setS xs, digitB y = true) := by
      have := testB_set hq
      unfold testB at this
      simp only [Bool.and_eq_true, List.all_eq_true] at this
      exact this.2
    have HR : Hid (shR xs = bestA ([] ++ subsL (setS xs))) := rfl
    have HQ := Lib.hid hq; clear hq hv
    go_enter Tryz.func18, Tryz.ntmps18
    go_wp2_with fail
    refine (isTest_c v xs _ HV.out).mono ?_
    rintro e w1 ⟨rfl, hb1⟩
    rw [HQ.out]
    have hb2 := Below.alc hb1 (.cells #[.slice none 0 0] 24)
    have q1 : (w1.alloc (.cells #[.slice none 0 0] 24)).cell? ⟨w1.heap.size, 0, none⟩ = some (.slice none 0 0) := by rw [World.cell?_alloc_at _ _ _ _ rfl]; rfl
    have q2 : (w1.alloc (.cells #[.slice none 0 0] 24)).frozen? ⟨w1.heap.size, 0, none⟩ = false := World.frozen?_alloc_new _ _ _ _
    have HS := Lib.hid (setOf_c v xs _ (HV.out.below hb2) (by omega))
    go_wp2_with fail
    refine HS.out.mono ?_
    rintro e w2 ⟨u, rfl, ho, hb3⟩
    have g1 := cell_later hb3 q1
    have g2 := (hb3.frozen (p := ⟨w1.heap.size, 0, none⟩) (World.block_lt_of_cell? _ _ q1)).trans q2
    have hb4 := Below.chain hb2 hb3
    have hI0 : StI w.heap.size w1.heap.size [] w2 := ⟨hb1.size, g2, .slice none 0 0, g1, rfl⟩
    have hlt := ho.lt
    have hIu := Ints.of_own ho
    have HX := Lib.hid (subsets_c (st_doer w.heap.size w1.heap.size (setS xs) hsd.out) (by omega) u w2 [] hI0 hIu (fun g hg => ⟨fun hd => by have := (hlt g hg).1; simp at this; omega, (hlt g hg).2⟩))
    clear q1 q2 hb2 hb3 ho g1 g2 hI0 hlt hIu
    go_wp2_with fail
    refine HX.out.mono ?_
    rintro e w3 ⟨rfl, hI3, hF3⟩
    have hmw := hb1.size
    have hb5 : Below w.heap.size w w3 := ⟨hF3.os.trans hb4.os, hF3.tape.trans hb4.tape, hF3.output.trans hb4.output, Nat.le_trans hb4.size hF3.size, fun j hj => (hF3.block j (Nat.lt_of_lt_of_le hj hb4.size) (by omega)).trans (hb4.block j hj)⟩
    obtain ⟨bv, k1, k2⟩ := hI3.best
    rw [← HR.out] at k2
    clear hI3 hF3 hb4 hb1
    cases hr : shR xs with
    | none =>
      rw [hr] at k2
      obtain rfl : bv = .slice none 0 0 := k2
      have hnil := fun (w : World) => neq_nil (P := Tryz.prog) w 24 3 none 0 0 0 0 Tryz.underlying24
      have H1 := Lib.hid (show shL xs = [] by rw [HL.out, hr]; rfl)
      have H2 := Lib.hid (show shB xs = false by rw [HBB.out, hr]; rfl)
      have HB5 := Lib.hid hb5
      clear hr hb5
      go_wp2
      go_quiet (fail)
      go_wp2
      go_ret2
      exact IntsPost.mk' H1.out H2.out (World.ownsRow_nil _ _ _ _) (below_drewN HB5.out)
    | some b =>
      rw [hr] at k2
      obtain ⟨_, _, hob, g, cap, rfl, _⟩ := k2
      have hnil := fun (w : World) => neq_nil (P := Tryz.prog) w 24 3 (some ⟨g, 0, none⟩) b.length cap 0 0 Tryz.underlying24
      have H1 := Lib.hid (show shL xs = b by rw [HL.out, hr]; rfl)
      have H2 := Lib.hid (show shB xs = true by rw [HBB.out, hr]; rfl)
      have HB5 := Lib.hid hb5
      have HO := Lib.hid hob
      clear hr hb5 hob
      go_wp2
      go_quiet (fail)
      go_wp2
      go_ret2
      exact IntsPost.mk' H1.out H2.out HO.out (below_drewN HB5.out)
end Go.Proofs.YtlipkplomndjcaaGreat
