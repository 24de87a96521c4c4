/- Texts of this claim, gathered: Vs, Vi, DrawU2. -/
import Derived.Test.YtfbnmkpkihfocaaK13
namespace Go.Proofs.Ytfbnmkpkihfocaa
open Go.RowKit
set_option linter.unusedVariables false
set_option maxRecDepth 100000
theorem vInts_c (v1 v2 : Value) (xs ys : List Int) (w : World) (h1 : Ints w v1 xs) (h2 : Ints w v2 ys) :
    Calls Try.prog 22 #[v1, v2] w fun e w' => e = .returned (.bool (decide (xs = ys))) ∧ Below w.heap.size w w' := by
  have hm1 := h1.le; have hm2 := h2.le
  obtain ⟨a1, c1, rfl, _, _, H1⟩ := h1.parts
  obtain ⟨a2, c2, rfl, _, _, H2⟩ := h2.parts
  by_cases hl : xs.length = ys.length
  · have hlb : ((xs.length : Int) != (ys.length : Int)) = false := by simp [hl]
    have HL := Lib.hid hl; clear hl
    go_enter Try.func22, Try.ntmps22
    go_wp2
    go_loopw [5] (fun i wr => ∃ k : Nat, k ≤ xs.length ∧ i = .int .i64 k ∧ Hid (∀ j, j < k → xs[j]? = ys[j]?) ∧ Hid (∃ n, wr = w.drewN n)) (fun i _ => xs.length - (intOf i).toNat)
    case atStart => exact ⟨0, by omega, rfl, fun j hj => by omega, ⟨0, rfl⟩⟩
    case round =>
      obtain ⟨k, hk, rfl, hsame, hw⟩ := hrel
      by_cases hlt : k < xs.length
      · have hlt2 : k < ys.length := by rw [← HL.out]; exact hlt
        obtain ⟨x, hx⟩ := elem_at hlt
        obtain ⟨y, hy⟩ := elem_at hlt2
        obtain ⟨b1, o1, rfl, g1⟩ := H1.out k x hx.out
        obtain ⟨b2, o2, rfl, g2⟩ := H2.out k y hy.out
        obtain ⟨n, rfl⟩ := hw.out
        clear h1 h2
        go_wp2
        go_quiet (fail)
        go_wp2
        · rename_i ht
          go_ret
          refine ⟨bool_ret ?_, below_drewN (below_drewN (Below.refl _ _))⟩
          symm; apply decide_eq_false; rintro rfl
          have := hx.out.symm.trans hy.out; simp at this ht; exact ht this
        · rename_i ht
          exact ⟨⟨k+1, by omega, by go_num, fun j hj => by
            by_cases hj2 : j < k
            · exact hsame.out j hj2
            · obtain rfl : j = k := by omega
              rw [hx.out, hy.out]; simp at ht; rw [ht], ⟨_, rfl⟩⟩, by simp [intOf]; omega⟩
      · obtain ⟨n, rfl⟩ := hw.out
        go_wp2
        go_ret
        refine ⟨bool_ret ?_, below_drewN (Below.refl _ _)⟩
        symm; apply decide_eq_true
        exact list_eq_of HL.out (by omega) hsame.out
  · have hlb : ((xs.length : Int) != (ys.length : Int)) = true := by simp; omega
    go_enter Try.func22, Try.ntmps22
    go_wp2
    go_ret
    refine ⟨bool_ret ?_, Below.refl _ _⟩
    symm; apply decide_eq_false; rintro rfl; exact hl rfl

theorem vGroups_c (u1 u2 : Value) (xss : List (List Int)) (B1 B2 : Nat) (w : World) (h1 : RdSS w B1 u1 xss) (h2 : RdSS w B2 u2 xss) :
    Calls Try.prog 23 #[u1, u2] w fun e w' => e = .returned (.bool true) ∧ Below w.heap.size w w' := by
  obtain ⟨a1, c1, rfl, hl1, H1⟩ := h1.parts
  obtain ⟨a2, c2, rfl, _, H2⟩ := h2.parts
  have hlb : ((xss.length : Int) != (xss.length : Int)) = false := by simp
  go_enter Try.func23, Try.ntmps23
  go_wp2
  go_loopw [5] (fun j wr => ∃ k : Nat, k ≤ xss.length ∧ j = .int .i64 (k : Int) ∧ Below w.heap.size w wr) (fun j _ => xss.length - (intOf j).toNat)
  case atStart => exact ⟨0, by omega, rfl, Below.refl _ _⟩
  case round =>
    obtain ⟨k, hk, rfl, hb⟩ := hrel
    by_cases hlt : k < xss.length
    · have hd : decide ((k : Int) < (xss.length : Int)) = true := by simp; omega
      obtain ⟨xs, hx⟩ := elem_at hlt
      obtain ⟨b1, o1, a1', c1', rfl, f1, i1⟩ := H1.out k xs hx.out
      obtain ⟨b2, o2, a2', c2', rfl, f2, i2⟩ := H2.out k xs hx.out
      have g1 := cell_later hb f1
      have g2 := cell_later hb f2
      have j1 := i1.below hb
      have j2 := i2.below hb
      clear f1 f2 i1 i2
      go_wp2_with fail
      go_region_held3 (fun w' => w'.cell? ⟨b1, o1 + k, none⟩ = some (.slice a1' xs.length c1') ∧ w'.cell? ⟨b2, o2 + k, none⟩ = some (.slice a2' xs.length c2'))
        (first | go_keep | (go_split_ands; exact ⟨cell_later hb2 (by assumption), cell_later hb2 (by assumption)⟩))
        (first | (go_at_call 22; refine (vInts_c _ _ xs xs _ j1.drew j2.drew).mono ?_; rintro e w' ⟨rfl, hb2⟩))
      have hb3 : Below w.heap.size w w' := Below.chain hb (Below.chain (Below.refl _ _).drew hb2)
      go_wp2
      go_roundw
      case rel => exact ⟨k + 1, by omega, by go_num, hb3⟩
      case measure => simp [intOf]; omega
    · obtain rfl : k = xss.length := by omega
      go_wp2
      go_ret
      exact ⟨rfl, hb⟩
theorem vHas_c (v : Value) (xs : List Int) (x : Int) (w : World) (h : Ints w v xs) :
    Calls Try.prog 24 #[v, .int .i64 x] w fun e w' => e = .returned (.bool (decide (x ∈ xs))) ∧ w = w' := by
  have hm1 := h.le
  obtain ⟨a1, c1, rfl, _, _, H1⟩ := h.parts
  clear h
  go_enter Try.func24, Try.ntmps24
  go_wp2
  go_loopw [5] (fun i wr => ∃ k : Nat, k ≤ xs.length ∧ i = .int .i64 k ∧ Hid (∀ (j : Nat) (y : Int), j < k → xs[j]? = some y → y ≠ x) ∧ w = wr) (fun i _ => xs.length - (intOf i).toNat)
  case atStart => exact ⟨0, by omega, rfl, fun j y hj => by omega, rfl⟩
  case round =>
    obtain ⟨k, hk, rfl, hno, rfl⟩ := hrel
    by_cases hlt : k < xs.length
    · obtain ⟨y, hy⟩ := elem_at hlt
      obtain ⟨b1, o1, rfl, g1⟩ := H1.out k y hy.out
      have hd : decide ((k : Int) < (xs.length : Int)) = true := by simp; omega
      by_cases he : y = x
      · subst he
        have hmem : decide (y ∈ xs) = true := decide_eq_true (List.mem_of_getElem? hy.out)
        have HM := Lib.hid hmem
        clear hmem
        go_wp2
        go_ret
        exact ⟨bool_ret HM.out.symm, rfl⟩
      · have heb : (y == x) = false := by simpa using he
        have HE := Lib.hid he
        clear he
        go_wp2
        go_roundw
        case rel => exact ⟨k + 1, by omega, by go_num, fun j z hj hz => by
          by_cases hj2 : j < k
          · exact hno.out j z hj2 hz
          · obtain rfl : j = k := by omega
            rw [hy.out] at hz; cases hz; exact HE.out, trivial⟩
        case measure => simp [intOf]; omega
    · have hd : decide ((k : Int) < (xs.length : Int)) = false := by simp; omega
      go_wp2
      go_ret
      refine ⟨bool_ret ?_, rfl⟩
      symm; apply decide_eq_false
      intro hm
      obtain ⟨j, hj⟩ := List.mem_iff_getElem?.1 hm
      have hjl := (List.getElem?_eq_some_iff.1 hj).1
      exact hno.out j x (by omega) hj rfl
end Go.Proofs.Ytfbnmkpkihfocaa
namespace Go.Proofs.Ytfbnmkpkihfocaa
open Go.RowKit
theorem vIntsSame_c (v1 v2 : Value) (xs : List Int) (w : World) (h1 : Ints w v1 xs) (h2 : Ints w v2 xs) :
    Calls Try.prog 22 #[v1, v2] w fun e w' => e = .returned (.bool true) ∧ Below w.heap.size w w' :=
  (vInts_c v1 v2 xs xs w h1 h2).mono fun e w' h => ⟨by rw [h.1, decide_eq_true rfl], h.2⟩
end Go.Proofs.Ytfbnmkpkihfocaa
namespace Go.Proofs.Ytfbnmkpkihfocaa
open Go.RowKit
theorem Bk.two' {w : World} {g t : Nat} {a b : Value} (h : Bk w g t #[a, b]) : w.cell? ⟨g, 0, none⟩ = some a ∧ w.cell? ⟨g, 1, none⟩ = some b ∧ w.frozen? ⟨g, 0, none⟩ = false ∧ w.frozen? ⟨g, 1, none⟩ = false := ⟨h.cell 0, h.cell 1, h.frozen 0, h.frozen 1⟩
theorem two_below' {w W : World} {b : Nat} (h : Below w.heap.size w W) (hb : w.heap.size ≤ b) (X Y : Value) : Below w.heap.size w ((W.setCell ⟨b, 0, none⟩ X).setCell ⟨b, 1, none⟩ Y) :=
  (h.setCell (p := ⟨b, 0, none⟩) hb _).setCell (p := ⟨b, 1, none⟩) hb _
theorem chain_back {w a b : World} (k : Below a.heap.size a b) (h : Below w.heap.size w a) : Below w.heap.size w b := Below.chain h k
end Go.Proofs.Ytfbnmkpkihfocaa
