/- Walks of slices.IndexFunc, slices.ContainsFunc and areAll at ints. -/
import Derived.Test.YtlipkplomndjcaaBase
namespace Go.Proofs.Ytlipkplomndjcaa
open Go.RowKit
set_option linter.unusedVariables false

/-- the first place at which p holds, or -1 -/
def firstAt {α : Type} (p : α → Bool) (xs : List α) : Int := match xs.findIdx? p with | some i => (i : Int) | none => -1
theorem firstAt_none {α : Type} {p : α → Bool} {xs : List α} {k : Nat} (hk : xs.length ≤ k) (h : ∀ j x, j < k → xs[j]? = some x → p x = false) : firstAt p xs = -1 := by
  have : xs.findIdx? p = none := by
    rw [List.findIdx?_eq_none_iff]; intro x hx
    obtain ⟨j, hj⟩ := List.mem_iff_getElem?.1 hx
    exact h j x (Nat.lt_of_lt_of_le (List.getElem?_eq_some_iff.1 hj).1 hk) hj
  simp [firstAt, this]
theorem firstAt_some {α : Type} {p : α → Bool} {xs : List α} {k : Nat} {x : α} (hx : xs[k]? = some x) (hp : p x = true) (h : ∀ j x, j < k → xs[j]? = some x → p x = false) : firstAt p xs = k := by
  have : xs.findIdx? p = some k := by
    rw [List.findIdx?_eq_some_iff_getElem]
    obtain ⟨hl, he⟩ := List.getElem?_eq_some_iff.1 hx
    refine ⟨hl, by rw [he]; exact hp, fun j hj => ?_⟩
    have := h j xs[j] hj (List.getElem?_eq_getElem (by omega))
    simp [this]
  simp [firstAt, this]

/-- fn is a function of the program with a body -/
def CallsIt (fn : Nat) : Prop := ∀ (bs : Array Value) (w : World), (callFunc fn bs).run Try.prog w = .ok (.enter fn bs) w
theorem IndexFuncInt_c (v : Value) (xs : List Int) (fn : Nat) (cap : Array Value) (p : Int → Bool) (w : World) (hv : Ints w v xs) (hf : CallsIt fn)
    (hp : ∀ (x : Int) (w' : World), x ∈ xs → Below w.heap.size w w' → Calls Try.prog fn (#[.int .i64 x] ++ cap) w' fun e w'' => e = .returned (.bool (p x)) ∧ Below w'.heap.size w' w'') :
    Calls Try.prog 166 #[v, .func (.func fn) #[] cap] w fun e w' => e = .returned (.int .i64 (firstAt p xs)) ∧ Below w.heap.size w w' := by
  obtain ⟨a, c, rfl, hc1, hc2, HC⟩ := hv.parts
  have hf' : ∀ (bs : Array Value) (w : World), (callFunc fn bs).run Try.prog w = .ok (.enter fn bs) w := hf
  go_enter Try.func166, Try.ntmps166
  go_wp2
  go_loopw [8] (fun i wr => ∃ k : Nat, k ≤ xs.length ∧ i = .int .i64 k ∧ Hid (∀ j x, j < k → xs[j]? = some x → p x = false) ∧ Below w.heap.size w wr) (fun i _ => xs.length - (intOf i).toNat)
  case atStart => exact ⟨0, by omega, rfl, fun j x hj => by omega, Below.refl _ _⟩
  case round =>
    obtain ⟨k, hk, rfl, hbef, hb⟩ := hrel
    have hlen := hv.le
    by_cases hlt : k < xs.length
    · obtain ⟨x, hx⟩ := elem_at hlt
      obtain ⟨b, off, rfl, g0⟩ := HC.out k x hx.out
      have hblt : b < w.heap.size := World.block_lt_of_cell? w _ g0
      have g1 : wr.cell? ⟨b, off + k, none⟩ = some (.int .i64 x) := ((bcell hb).1 _ _ hblt).trans g0
      clear g0
      go_wp2_with fail
      refine (hp x _ (List.mem_of_getElem? hx.out) hb).mono ?_
      rintro e w1 ⟨rfl, hb1⟩
      have hb2 : Below w.heap.size w w1 := hb.trans (hb1.mono hb.size)
      rcases hpx : p x with _ | _
      · have HP := Lib.hid hpx; clear hpx
        go_wp2
        go_roundw
        case rel => exact ⟨k + 1, by omega, by go_num, fun j y hj hy => by
          by_cases hj2 : j < k
          · exact hbef.out j y hj2 hy
          · obtain rfl : j = k := by omega
            rw [hx.out] at hy; obtain rfl := Option.some.inj hy; exact HP.out, hb2⟩
        case measure => simp [intOf]; omega
      · have HP := Lib.hid hpx; clear hpx
        go_wp2
        go_ret
        exact ⟨int_ret (firstAt_some hx.out HP.out hbef.out).symm, hb2⟩
    · go_wp2
      go_ret
      exact ⟨int_ret (firstAt_none (by omega) hbef.out).symm, hb⟩
theorem ContainsFuncInt_c (v : Value) (xs : List Int) (fn : Nat) (cap : Array Value) (p : Int → Bool) (w : World) (hv : Ints w v xs) (hf : CallsIt fn)
    (hp : ∀ (x : Int) (w' : World), x ∈ xs → Below w.heap.size w w' → Calls Try.prog fn (#[.int .i64 x] ++ cap) w' fun e w'' => e = .returned (.bool (p x)) ∧ Below w'.heap.size w' w'') :
    Calls Try.prog 144 #[v, .func (.func fn) #[] cap] w fun e w' => e = .returned (.bool (decide (0 ≤ firstAt p xs))) ∧ Below w.heap.size w w' := by
  go_enter Try.func144, Try.ntmps144
  go_wp2_with fail
  refine (IndexFuncInt_c v xs fn cap p w hv hf hp).mono ?_
  rintro e w' ⟨rfl, hb⟩
  go_wp2
  go_ret
  exact ⟨bool_ret (by simp), hb⟩
theorem firstAt_not_all {xs : List Int} {p : Int → Bool} : (decide (0 ≤ firstAt (fun x => !p x) xs)) = !(xs.all p) := by
  unfold firstAt
  cases h : xs.findIdx? (fun x => !p x) with
  | none => rw [List.findIdx?_eq_none_iff] at h; simp; exact fun x hx => by simpa using h x hx
  | some i =>
    rw [List.findIdx?_eq_some_iff_getElem] at h; obtain ⟨hl, h1, _⟩ := h
    simp; exact ⟨xs[i], List.getElem_mem hl, by simpa using h1⟩
/-- 'is' is a function of the program that looks at one int -/
theorem areAllInt_c (v : Value) (xs : List Int) (fn : Nat) (p : Int → Bool) (w : World) (hv : Ints w v xs) (hf : CallsIt fn)
    (hp : ∀ (x : Int) (w' : World), Calls Try.prog fn #[.int .i64 x] w' fun e w'' => e = .returned (.bool (p x)) ∧ w' = w'') :
    Calls Try.prog 85 #[v, .func (.func fn) #[] #[]] w fun e w' => e = .returned (.bool (xs.all p)) ∧ Below w.heap.size w w' := by
  go_enter Try.func85, Try.ntmps85
  go_wp2_with fail
  refine (ContainsFuncInt_c v xs 145 #[.pointer (some ⟨w.heap.size, 0, none⟩)] (fun x => !p x) _ (hv.below (below_one _)) (fun _ _ => by kernel_rfl) ?_).mono ?_
  · intro x w' _ hb
    have hc : w'.cell? ⟨w.heap.size, 0, none⟩ = some (.func (.func fn) #[] #[]) := by
      rw [(bcell hb).1 _ _ (by simp), World.cell?_alloc_at _ _ _ _ rfl]; rfl
    have hf' : ∀ (bs : Array Value) (w : World), (callFunc fn bs).run Try.prog w = .ok (.enter fn bs) w := hf
    go_enter Try.func145, Try.ntmps145
    go_wp2_with fail
    refine (hp x w').mono ?_
    rintro e w'' ⟨rfl, rfl⟩
    go_wp2
    go_ret
    exact ⟨rfl, Below.refl _ _⟩
  · rintro e w' ⟨rfl, hb⟩
    go_wp2
    go_ret
    exact ⟨bool_ret (by rw [firstAt_not_all]; simp), (below_one _).trans (hb.mono (by simp))⟩
end Go.Proofs.Ytlipkplomndjcaa
