/- Texts of this claim, gathered: DelF, States, States2, Read, Fo, Fo2, Count, First, Ff, Bench, Bench2. -/
import Derived.Test.YtfbnmkpkihfocaaK4
namespace Go.Proofs.Ytfbnmkpkihfocaa
open Go.RowKit
set_option linter.unusedVariables false
set_option maxRecDepth 100000
theorem flat2_take : ∀ (R : List (Int × Int)) (i : Nat), (flat2 R).take (i * 2) = flat2 (R.take i)
  | [], i => by simp [flat2]
  | x :: R, 0 => by simp [flat2]
  | x :: R, i + 1 => by
    have ih := flat2_take R i
    have e : (i + 1) * 2 = i * 2 + 2 := by omega
    rw [e]
    show (_ :: _ :: flat2 R).take (i * 2 + 2) = _ :: _ :: flat2 (R.take i)
    simp [ih]
theorem flat2_set {R : List (Int × Int)} {i : Nat} (hi : i < R.length) (a b : Int) : ((flat2 R).set (i * 2) (.int .i64 a)).set (i * 2 + 1) (.int .i64 b) = flat2 (R.set i (a, b)) := by
  have e : R = R.take i ++ R[i] :: R.drop (i + 1) := by rw [← List.drop_eq_getElem_cons hi, List.take_append_drop]
  have hl : (R.take i).length = i := by rw [List.length_take]; omega
  conv => lhs; rw [e]
  conv => rhs; rw [e]
  rw [flat2_append, set_mid _ _ _ _ hl.symm, flat2_append]
  have e3 : ∀ (p : Int × Int) (t : List (Int × Int)), flat2 (p :: t) = .int .i64 p.1 :: .int .i64 p.2 :: flat2 t := fun _ _ => rfl
  rw [e3, e3, set_two _ _ _ _ _ _ (by rw [flat2_length, hl])]
theorem pair_set {w : World} {lo g cap n : Nat} {e : TypeId} {R : List (Int × Int)} {i : Nat} {a b : Int} (ho : w.ownsRow lo e 2 (.slice (some ⟨g, 0, none⟩) n cap) n (flat2 R)) (hR : R.length = n) (hi : i < n) :
    (∃ u, w.cell? ⟨g, i * 2, none⟩ = some (.int .i64 u)) ∧ (∃ u, (w.setCell ⟨g, i * 2, none⟩ (.int .i64 a)).cell? ⟨g, i * 2 + 1, none⟩ = some (.int .i64 u)) ∧ (∃ u, w.cell? ⟨g, i * 2 + 1, none⟩ = some (.int .i64 u)) ∧
    w.frozen? ⟨g, i * 2, none⟩ = false ∧ (w.setCell ⟨g, i * 2, none⟩ (.int .i64 a)).frozen? ⟨g, i * 2 + 1, none⟩ = false ∧ w.frozen? ⟨g, i * 2 + 1, none⟩ = false ∧
      ((w.setCell ⟨g, i * 2, none⟩ (.int .i64 a)).setCell ⟨g, i * 2 + 1, none⟩ (.int .i64 b)).ownsRow lo e 2 (.slice (some ⟨g, 0, none⟩) n cap) n (flat2 (R.set i (a, b))) ∧
      w.grownBy ((w.setCell ⟨g, i * 2, none⟩ (.int .i64 a)).setCell ⟨g, i * 2 + 1, none⟩ (.int .i64 b)) (some g) := by
  have h1 := ho.stored (i * 2) (.int .i64 a)
  have h2 := h1.1.stored (i * 2 + 1) (.int .i64 b)
  have hf := flat2_at (List.getElem?_eq_getElem (show i < R.length by omega))
  refine ⟨⟨_, (ho.cellAt _ (by omega)).trans hf.1⟩, ⟨R[i].2, ?_⟩, ⟨_, (ho.cellAt _ (by omega)).trans hf.2⟩, ho.frozenAt _, h1.1.frozenAt _, ho.frozenAt _, ?_, h1.2.trans h2.2⟩
  · rw [h1.1.cellAt _ (by omega), List.getElem?_set_ne (by omega)]; exact hf.2
  · rw [← flat2_set (by omega)]; exact h2.1
end Go.Proofs.Ytfbnmkpkihfocaa
namespace Go.Proofs.Ytfbnmkpkihfocaa
open Go.RowKit
set_option linter.unusedVariables false
set_option maxRecDepth 100000



/-- the states that a test finds, and those that it does not find -/
def foundSt (xs : List Int) : List (Int × Int) := allSt.filter fun s => decide (0 ≤ placeOf s.1 s.2 xs)
def hiddenSt (xs : List Int) : List (Int × Int) := allSt.filter fun s => s.2 != 0 && decide (placeOf s.1 s.2 xs < 0)
theorem allSt_length : allSt.length = 15 := by decide
theorem shC_zero {c : Int} (h0 : 0 ≤ c) (h1 : c ≤ 127) : shC 0 0 c = c := by
  have : ∀ n : Fin 128, ((n.1 &&& 127) ||| 0 : Nat) = n.1 := by decide +kernel
  obtain ⟨n, rfl⟩ := Int.eq_ofNat_of_zero_le h0
  have := this ⟨n, by omega⟩
  simp only [shC, Int.toNat_natCast, Int.toNat_zero] at this ⊢
  exact congrArg Int.ofNat this
theorem placeOf_good (xs : List Int) : placeOf 0 0 xs = -1 := by
  unfold placeOf
  apply firstAt_none (k := xs.length) (Nat.le_refl _)
  intro j x _ _
  have := dg_bd x
  simp [finds, stD, stL, shC_zero this.1 this.2]
theorem allSt_cons : allSt = (0, 0) :: allSt.drop 1 := by decide
theorem allSt_kind : ∀ s ∈ allSt.drop 1, (s.2 != 0) = true := by decide
theorem foundSt_eq (xs : List Int) : foundSt xs = (allSt.drop 1).filter fun s => decide (0 ≤ placeOf s.1 s.2 xs) == true := by
  unfold foundSt
  rw [allSt_cons, List.filter_cons]
  simp [placeOf_good]
theorem hiddenSt_eq (xs : List Int) : hiddenSt xs = (allSt.drop 1).filter fun s => decide (0 ≤ placeOf s.1 s.2 xs) == false := by
  unfold hiddenSt
  rw [allSt_cons, List.filter_cons]
  simp only [bne_self_eq_false, Bool.false_and, Bool.false_eq_true, if_false, List.drop_succ_cons, List.drop_zero]
  apply List.filter_congr
  intro s hs
  rw [allSt_kind s hs]
  by_cases h : placeOf s.1 s.2 xs < 0
  · simp [h]
  · simp [h]; omega
theorem found_hidden (xs : List Int) : (foundSt xs).length + (hiddenSt xs).length = 14 := by
  rw [foundSt_eq, hiddenSt_eq]
  have h : ∀ (l : List (Int × Int)) (p : Int × Int → Bool), (l.filter fun s => p s == true).length + (l.filter fun s => p s == false).length = l.length := by
    intro l p
    induction l with
    | nil => rfl
    | cons a l ih => cases hp : p a <;> simp [hp] at ih ⊢ <;> omega
  rw [h]; decide
def fullB (xs : List Int) : Bool := decide ((foundSt xs).length = 14)
theorem fullB_hidden (xs : List Int) : fullB xs = decide ((hiddenSt xs).length = 0) := by
  have := found_hidden xs
  unfold fullB
  by_cases h : (hiddenSt xs).length = 0
  · rw [decide_eq_true h, decide_eq_true (by omega)]
  · rw [decide_eq_false h, decide_eq_false (by omega)]

/-- what the reference's list of all states has behind its first k kinds and b bars -/
def allTo (m : Nat) : List (Int × Int) := (0, 0) :: (grid.drop 7).take m
theorem allTo_succ_fin : ∀ (k : Fin 2) (b : Fin 7), allTo (7 * k.1 + b.1 + 1) = allTo (7 * k.1 + b.1) ++ [((b.1 : Int), (k.1 : Int) + 1)] := by decide
theorem allTo_le (m : Nat) : (allTo m).length ≤ 15 := by
  unfold allTo
  simp [grid]; omega
/-- the states but the good one that a test finds (f), or does not find, among the first m -/
def l7F (xs : List Int) (f : Bool) (m : Nat) : List (Int × Int) := ((allSt.drop 1).take m).filter fun s => decide (0 ≤ placeOf s.1 s.2 xs) == f
theorem l7F_zero (xs : List Int) (f : Bool) : l7F xs f 0 = [] := rfl
theorem l7F_le (xs : List Int) (f : Bool) (m : Nat) : (l7F xs f m).length ≤ 14 :=
  Nat.le_trans (List.length_filter_le _ _) (by rw [List.length_take]; simp [allSt, grid]; omega)
theorem l7F_succ (xs : List Int) (f : Bool) {m : Nat} {s : Int × Int} (hs : allSt[m + 1]? = some s) : l7F xs f (m + 1) = l7F xs f m ++ if decide (0 ≤ placeOf s.1 s.2 xs) == f then [s] else [] := by
  have hs2 : (allSt.drop 1)[m]? = some s := by rw [List.getElem?_drop, Nat.add_comm]; exact hs
  unfold l7F
  rw [take_snoc hs2, List.filter_append]
  cases hq : (decide (0 ≤ placeOf s.1 s.2 xs) == f) <;> simp [hq]
theorem l7F_found (xs : List Int) : l7F xs true 14 = foundSt xs := by rw [foundSt_eq]; rfl
theorem l7F_hidden (xs : List Int) : l7F xs false 14 = hiddenSt xs := by rw [hiddenSt_eq]; rfl
theorem allSt_ok : ∀ s ∈ allSt, stateB s.1 s.2 = true := by decide
/-- what both texts of IsFullTest return -/
def isFullV (xs : List Int) : Value := .tuple #[.bool (testB xs && fullB xs), .bool (testB xs)]
end Go.Proofs.Ytfbnmkpkihfocaa
namespace Go.Proofs.Ytfbnmkpkihfocaa
open Go.RowKit
set_option linter.unusedVariables false
set_option maxRecDepth 100000
/-- a list that is told if the test is valid, else none -/
def toldSt (xs : List Int) (l : List (Int × Int)) : List (Int × Int) := if testB xs then l else []
theorem toldSt_le (xs : List Int) (l : List (Int × Int)) (h : l.length ≤ 15) : (toldSt xs l).length ≤ 15 := by
  unfold toldSt; split
  · exact h
  · simp
theorem foundSt_le (xs : List Int) : (foundSt xs).length ≤ 15 := Nat.le_trans (List.length_filter_le _ _) (by decide)
theorem hiddenSt_le (xs : List Int) : (hiddenSt xs).length ≤ 15 := Nat.le_trans (List.length_filter_le _ _) (by decide)
end Go.Proofs.Ytfbnmkpkihfocaa
namespace Go.Proofs.Ytfbnmkpkihfocaa
open Go.RowKit
set_option linter.unusedVariables false
set_option maxRecDepth 100000
/-- the first k digits show the first k cells -/
def fitsTo (d l : Int) (ds cs : List Int) (k : Nat) : Bool := ((ds.zip cs).take k).all fun p => shC d l (dg p.1) == p.2
def fitsB (d l : Int) (ds cs : List Int) : Bool := fitsTo d l ds cs ds.length
theorem fitsTo_zero (d l : Int) (ds cs : List Int) : fitsTo d l ds cs 0 = true := rfl
theorem fitsTo_succ {d l : Int} {ds cs : List Int} {k : Nat} {x c : Int} (hx : ds[k]? = some x) (hc : cs[k]? = some c) : fitsTo d l ds cs (k + 1) = (fitsTo d l ds cs k && (shC d l (dg x) == c)) := by
  have h : (ds.zip cs)[k]? = some (x, c) := by rw [List.getElem?_zip_eq_some]; exact ⟨hx, hc⟩
  unfold fitsTo
  rw [take_snoc h, List.all_append]; simp
theorem fitsB_false {d l : Int} {ds cs : List Int} {k : Nat} {x c : Int} (hx : ds[k]? = some x) (hc : cs[k]? = some c) (h : (shC d l (dg x) == c) = false) : fitsB d l ds cs = false := by
  unfold fitsB fitsTo
  rw [List.all_eq_false]
  have h2 : (ds.zip cs)[k]? = some (x, c) := by rw [List.getElem?_zip_eq_some]; exact ⟨hx, hc⟩
  have hl := (List.getElem?_eq_some_iff.1 hx).1
  refine ⟨(x, c), ?_, by simpa using h⟩
  apply List.mem_of_getElem? (i := k)
  rw [List.getElem?_take, if_pos hl]; exact h2
theorem bne_of_beq {a b : Int} {r : Bool} (h : (a == b) = r) : (a != b) = !r := by rw [bne, h]
/-- all digits -/
def digitsB (ds : List Int) : Bool := ds.all digitB
theorem digits_at {ds : List Int} (h : digitsB ds = true) {k : Nat} {x : Int} (hx : ds[k]? = some x) : 0 ≤ x ∧ x ≤ 9 :=
  digitB_true (List.all_eq_true.1 h x (List.mem_of_getElem? hx))
theorem testB_digits {xs : List Int} (h : testB xs = true) : digitsB xs = true := by
  simp only [testB, Bool.and_eq_true] at h; exact h.2


/-- the states under which a test shows cells -/
def readSt (ds cs : List Int) : List (Int × Int) := allSt.filter fun s => fitsB (stD s.1 s.2) (stL s.1 s.2) ds cs
def readOk (ds cs : List Int) : Bool := testB ds && (decide (cs.length = ds.length) && cs.all cellB)
def readL (ds cs : List Int) : List (Int × Int) := if readOk ds cs then readSt ds cs else []
theorem readL_le (ds cs : List Int) : (readL ds cs).length ≤ 15 := by
  unfold readL; split
  · exact Nat.le_trans (List.length_filter_le _ _) (by decide)
  · simp
end Go.Proofs.Ytfbnmkpkihfocaa
namespace Go.Proofs.Ytfbnmkpkihfocaa
open Go.RowKit
set_option linter.unusedVariables false
set_option maxRecDepth 100000
def foOk (ds cs : List Int) : Bool := inB (ds.length : Int) 1 10 && (decide (cs.length = ds.length) && (digitsB ds && cs.all cellB))
def foQ (ds cs : List Int) (f : Int × Int) : Bool := fitsB f.1 f.2 ds cs
def foL (ds cs : List Int) : List (Int × Int) := if foOk ds cs then allF (foQ ds cs) else []
theorem foL_le (ds cs : List Int) : (foL ds cs).length ≤ 16384 := by
  unfold foL; split
  · exact allF_le _
  · simp
def FsPost (w : World) (L : List (Int × Int)) (b : Bool) (e : Ending) (w' : World) : Prop :=
  ∃ u, e = .returned (.tuple #[u, .bool b]) ∧ w'.ownsRow w.heap.size 25 2 u L.length (flat2 L) ∧ Below w.heap.size w w'
theorem FsPost.mk' {w w' : World} {L L' : List (Int × Int)} {b b' : Bool} {u : Value} (hL : L = L') (hbb : b = b') (ho : w'.ownsRow w.heap.size 25 2 u L'.length (flat2 L')) (hb : Below w.heap.size w w') : FsPost w L b (.returned (.tuple #[u, .bool b'])) w' := by
  subst hL hbb; exact ⟨u, rfl, ho, hb⟩
theorem dig10 : ∀ j : Fin 10, (#[.int .i64 63, .int .i64 6, .int .i64 91, .int .i64 79, .int .i64 102, .int .i64 109, .int .i64 125, .int .i64 7, .int .i64 127, .int .i64 111] : Array Value)[j.1]? = some (.int .i64 (dg (j.1 : Int)))
  | ⟨0, _⟩ => rfl
  | ⟨1, _⟩ => rfl
  | ⟨2, _⟩ => rfl
  | ⟨3, _⟩ => rfl
  | ⟨4, _⟩ => rfl
  | ⟨5, _⟩ => rfl
  | ⟨6, _⟩ => rfl
  | ⟨7, _⟩ => rfl
  | ⟨8, _⟩ => rfl
  | ⟨9, _⟩ => rfl
theorem Ints.block_lt {w : World} {v : Value} {xs : List Int} (h : Ints w v xs) (hp : 0 < xs.length) : ∀ b, v.ownBlock = some b → b < w.heap.size := by
  obtain ⟨a, c, rfl, _, _, HC⟩ := h.parts
  intro b hb
  obtain ⟨b', off, e, hc⟩ := HC.out 0 xs[0] (List.getElem?_eq_getElem hp)
  subst e
  simp only [Value.ownBlock, Option.some.injEq] at hb
  subst hb
  exact World.block_lt_of_cell? _ _ hc
end Go.Proofs.Ytfbnmkpkihfocaa
namespace Go.Proofs.Ytfbnmkpkihfocaa
open Go.RowKit
set_option linter.unusedVariables false
set_option maxRecDepth 100000
theorem all_at {α : Type} {p : α → Bool} {xs : List α} {k : Nat} {x : α} (hx : xs[k]? = some x) (h : p x = false) : xs.all p = false := by
  rw [Bool.eq_false_iff]; intro h2
  rw [List.all_eq_true] at h2
  rw [h2 x (List.mem_of_getElem? hx)] at h; cases h
theorem all_to {α : Type} {p : α → Bool} {xs : List α} {k : Nat} (hk : xs.length ≤ k) (h : ∀ j x, j < k → xs[j]? = some x → p x = true) : xs.all p = true := by
  rw [List.all_eq_true]
  intro x hx
  obtain ⟨j, hj, rfl⟩ := List.getElem_of_mem hx
  exact h j _ (by omega) (List.getElem?_eq_getElem hj)
end Go.Proofs.Ytfbnmkpkihfocaa
namespace Go.Proofs.Ytfbnmkpkihfocaa
open Go.RowKit
set_option linter.unusedVariables false
set_option maxRecDepth 100000
def nDig (f : Int × Int) (c : Int) : Nat := (digL f.1 f.2 c).length
theorem nDig_le (f : Int × Int) (c : Int) : nDig f c ≤ 10 := digL_le _ _ _
def prodTo (fs : List (Int × Int)) (r : List Int) (k : Nat) : Nat := ((fs.zip r).take k).foldl (fun m p => m * nDig p.1 p.2) 1
theorem prodTo_zero (fs : List (Int × Int)) (r : List Int) : prodTo fs r 0 = 1 := rfl
theorem prodTo_succ {fs : List (Int × Int)} {r : List Int} {k : Nat} {f : Int × Int} {c : Int} (hf : fs[k]? = some f) (hc : r[k]? = some c) : prodTo fs r (k + 1) = prodTo fs r k * nDig f c := by
  have h : (fs.zip r)[k]? = some (f, c) := by rw [List.getElem?_zip_eq_some]; exact ⟨hf, hc⟩
  unfold prodTo
  rw [take_snoc h, List.foldl_append]; rfl
theorem prodTo_le (fs : List (Int × Int)) (r : List Int) (k : Nat) : prodTo fs r k ≤ 10 ^ k := by
  induction k with
  | zero => simp [prodTo_zero]
  | succ k ih =>
    cases h : (fs.zip r)[k]? with
    | none =>
      have : prodTo fs r (k + 1) = prodTo fs r k := by
        unfold prodTo
        have hl := List.getElem?_eq_none_iff.1 h
        rw [List.take_of_length_le (by omega), List.take_of_length_le hl]
      rw [this]; exact Nat.le_trans ih (Nat.pow_le_pow_right (by omega) (by omega))
    | some p =>
      obtain ⟨f, c⟩ := p
      rw [List.getElem?_zip_eq_some] at h
      rw [prodTo_succ h.1 h.2, Nat.pow_succ]
      exact Nat.mul_le_mul ih (nDig_le _ _)
def cnOk (fs : List (Int × Int)) (r : List Int) : Bool := areB fs r && !decide (r.length = 0)
def cnN (fs : List (Int × Int)) (r : List Int) : Int := if cnOk fs r then (prodTo fs r r.length : Int) else 0
def cnV (fs : List (Int × Int)) (r : List Int) : Value := .tuple #[.int .i64 (cnN fs r), .bool (cnOk fs r)]
theorem wrap_mul {a b : Nat} (ha : a ≤ 100000) (hb : b ≤ 10) : wrap64 ((a : Int) * (b : Int)) = ((a * b : Nat) : Int) ∧ IntKind.i64.wrap ((a : Int) * (b : Int)) = ((a * b : Nat) : Int) := by
  have h : a * b ≤ 100000 * 10 := Nat.mul_le_mul ha hb
  have e : (a : Int) * (b : Int) = ((a * b : Nat) : Int) := by simp
  rw [e]
  exact ⟨by simp only [wrap64]; omega, wrap_i64_small _ (by omega)⟩
theorem pow_le_five {k : Nat} (hk : k ≤ 5) : 10 ^ k ≤ 100000 := Nat.le_trans (Nat.pow_le_pow_right (by omega) hk) (by decide)

end Go.Proofs.Ytfbnmkpkihfocaa
namespace Go.Proofs.Ytfbnmkpkihfocaa
open Go.RowKit
set_option linter.unusedVariables false
set_option maxRecDepth 100000
def headDig (f : Int × Int) (c : Int) : Int := (digL f.1 f.2 c).headD 0
def firstTo (fs : List (Int × Int)) (r : List Int) (k : Nat) : List Int := ((fs.zip r).take k).map fun p => headDig p.1 p.2
theorem firstTo_le (fs : List (Int × Int)) (r : List Int) (k : Nat) : (firstTo fs r k).length ≤ k := by simp [firstTo, List.length_take]; omega
theorem firstTo_succ {fs : List (Int × Int)} {r : List Int} {k : Nat} {f : Int × Int} {c : Int} (hf : fs[k]? = some f) (hc : r[k]? = some c) : firstTo fs r (k + 1) = firstTo fs r k ++ [headDig f c] := by
  have h : (fs.zip r)[k]? = some (f, c) := by rw [List.getElem?_zip_eq_some]; exact ⟨hf, hc⟩
  unfold firstTo
  rw [take_snoc h]; simp
theorem head_at {f : Int × Int} {c : Int} (h : nDig f c ≠ 0) : (digL f.1 f.2 c)[0]? = some (headDig f c) := by
  unfold nDig at h
  unfold headDig
  cases hd : digL f.1 f.2 c with
  | nil => rw [hd] at h; simp at h
  | cons a l => simp
theorem prodTo_zero_of {fs : List (Int × Int)} {r : List Int} {k n : Nat} {f : Int × Int} {c : Int} (hf : fs[k]? = some f) (hc : r[k]? = some c) (h0 : nDig f c = 0) (hn : k < n) : prodTo fs r n = 0 := by
  have h1 : prodTo fs r (k + 1) = 0 := by rw [prodTo_succ hf hc, h0, Nat.mul_zero]
  have : ∀ m, prodTo fs r (k + 1 + m) = 0 := by
    intro m
    induction m with
    | zero => exact h1
    | succ m ih =>
      cases h : (fs.zip r)[k + 1 + m]? with
      | none =>
        have e : prodTo fs r (k + 1 + (m + 1)) = prodTo fs r (k + 1 + m) := by
          unfold prodTo
          have hl := List.getElem?_eq_none_iff.1 h
          rw [List.take_of_length_le (by omega), List.take_of_length_le hl]
        rw [e]; exact ih
      | some p =>
        obtain ⟨f', c'⟩ := p
        rw [List.getElem?_zip_eq_some] at h
        rw [show k + 1 + (m + 1) = (k + 1 + m) + 1 by omega, prodTo_succ h.1 h.2, ih, Nat.zero_mul]
  have e := this (n - (k + 1))
  rw [show k + 1 + (n - (k + 1)) = n by omega] at e
  exact e
def fnOk (fs : List (Int × Int)) (r : List Int) : Bool := cnOk fs r && !decide (prodTo fs r r.length = 0)
def fnL (fs : List (Int × Int)) (r : List Int) : List Int := if fnOk fs r then firstTo fs r r.length else []
theorem fnOk_len {fs : List (Int × Int)} {r : List Int} (h : cnOk fs r = true) : r.length ≤ 6 := by
  simp only [cnOk, Bool.and_eq_true] at h; exact rowB_le (areB_row h.1)
theorem cnOk_are {fs : List (Int × Int)} {r : List Int} (h : cnOk fs r = true) : areB fs r = true := by
  simp only [cnOk, Bool.and_eq_true] at h; exact h.1
theorem fnL_le (fs : List (Int × Int)) (r : List Int) : (fnL fs r).length ≤ 6 := by
  unfold fnL; split
  · rename_i h; simp only [fnOk, Bool.and_eq_true] at h; exact Nat.le_trans (firstTo_le _ _ _) (fnOk_len h.1)
  · simp
end Go.Proofs.Ytfbnmkpkihfocaa
namespace Go.Proofs.Ytfbnmkpkihfocaa
set_option linter.unusedVariables false
theorem fits_at {d l : Int} {ds cs : List Int} (h : fitsB d l ds cs = true) {k : Nat} {x c : Int} (hx : ds[k]? = some x) (hc : cs[k]? = some c) : shC d l (dg x) = c := by
  cases hq : (shC d l (dg x) == c)
  · rw [fitsB_false hx hc hq] at h; cases h
  · simpa using hq
theorem mem_rowF {q : Int × Int → Bool} {d n : Nat} {f : Int × Int} (h : f ∈ rowF q d n) : ∃ l : Nat, l < n ∧ f = ((d : Int), (l : Int)) ∧ freeB d l = true ∧ q f = true := by
  unfold rowF at h
  rw [List.mem_map] at h
  obtain ⟨l, hl, rfl⟩ := h
  rw [List.mem_filter, List.mem_range, Bool.and_eq_true] at hl
  exact ⟨l, hl.1, rfl, hl.2⟩
theorem mem_colF {q : Int × Int → Bool} {n : Nat} {f : Int × Int} (h : f ∈ colF q n) : ∃ d l : Nat, d < n ∧ l < 128 ∧ f = ((d : Int), (l : Int)) ∧ freeB d l = true ∧ q f = true := by
  unfold colF at h
  rw [List.mem_flatMap] at h
  obtain ⟨d, hd, hf⟩ := h
  obtain ⟨l, hl, e, h1, h2⟩ := mem_rowF hf
  exact ⟨d, l, List.mem_range.1 hd, hl, e, h1, h2⟩
theorem mem_allFq {q : Int × Int → Bool} {f : Int × Int} (h : f ∈ allF q) : faultB f.1 f.2 = true ∧ q f = true := by
  obtain ⟨d, l, hd, hl, rfl, h1, h2⟩ := mem_colF h
  refine ⟨?_, h2⟩
  have : (andC (d : Int) (l : Int) == 0) = true := by
    unfold andC; unfold freeB at h1
    simp at h1 ⊢; omega
  simp only [faultB, Bool.and_eq_true]
  exact ⟨inB_mk (by omega) (by omega), inB_mk (by omega) (by omega), this⟩
def befF (f g : Int × Int) : Prop := f.1 < g.1 ∨ f.1 = g.1 ∧ f.2 < g.2
theorem rowF_asc (q : Int × Int → Bool) (d n : Nat) : (rowF q d n).Pairwise befF := by
  unfold rowF
  rw [List.pairwise_map]
  refine List.Pairwise.filter _ ?_
  refine List.pairwise_lt_range.imp ?_
  intro a b h
  exact .inr ⟨rfl, by simp; omega⟩
theorem colF_asc (q : Int × Int → Bool) : ∀ n : Nat, (colF q n).Pairwise befF
  | 0 => by simp [colF]
  | n + 1 => by
    rw [colF_succ, List.pairwise_append]
    refine ⟨colF_asc q n, rowF_asc q n 128, fun a ha b hb => ?_⟩
    obtain ⟨d, l, hd, _, rfl, _⟩ := mem_colF ha
    obtain ⟨l', _, rfl, _⟩ := mem_rowF hb
    exact .inl (by simp; omega)
theorem foL_asc (ds cs : List Int) : (foL ds cs).Pairwise befF := by
  unfold foL; split
  · exact colF_asc _ _
  · exact List.Pairwise.nil
theorem pair_next {α : Type} {R : α → α → Prop} {l : List α} (h : l.Pairwise R) {k : Nat} {a b : α} (ha : l[k]? = some a) (hb : l[k + 1]? = some b) : R a b := by
  obtain ⟨h1, e1⟩ := List.getElem?_eq_some_iff.1 ha
  obtain ⟨h2, e2⟩ := List.getElem?_eq_some_iff.1 hb
  have := List.pairwise_iff_getElem.1 h k (k + 1) h1 h2 (by omega)
  rw [e1, e2] at this; exact this
theorem foL_mem {ds cs : List Int} {f : Int × Int} (h : f ∈ foL ds cs) : foOk ds cs = true ∧ faultB f.1 f.2 = true ∧ fitsB f.1 f.2 ds cs = true := by
  unfold foL at h
  split at h
  · rename_i hq
    obtain ⟨h1, h2⟩ := mem_allFq h
    exact ⟨hq, h1, h2⟩
  · simp at h
theorem foOk_at {ds cs : List Int} (h : foOk ds cs = true) {k : Nat} {x : Int} (hx : ds[k]? = some x) : digitB x = true := by
  simp only [foOk, Bool.and_eq_true, decide_eq_true_eq] at h
  exact List.all_eq_true.1 h.2.2.1 x (List.mem_of_getElem? hx)
theorem foOk_len {ds cs : List Int} (h : foOk ds cs = true) : cs.length = ds.length ∧ ds.length ≤ 10 := by
  simp only [foOk, Bool.and_eq_true, decide_eq_true_eq] at h
  have := inB_true h.1
  exact ⟨h.2.1, by omega⟩
theorem fnOk_eq (fs : List (Int × Int)) (r : List Int) : fnOk fs r = (cnOk fs r && decide (0 < cnN fs r)) := by
  unfold fnOk cnN
  cases h : cnOk fs r
  · rfl
  · simp
    by_cases h0 : prodTo fs r r.length = 0
    · simp [h0]
    · simp [h0]; omega
theorem digL_mem {d l c x : Int} (h : x ∈ digL d l c) : digitB x = true ∧ shC d l (dg x) = c := by
  unfold digL at h
  rw [List.mem_filter] at h
  exact ⟨(by have := h.1; revert this; exact (by decide : ∀ y ∈ tenI, digitB y = true) x), by simpa using h.2⟩
/-- the first number of a row that can stand for one: each of its digits shows the row's cell -/
theorem firstTo_at {fs : List (Int × Int)} {r : List Int} (h : fnOk fs r = true) {k : Nat} {f : Int × Int} {c : Int} (hf : fs[k]? = some f) (hc : r[k]? = some c) :
    (firstTo fs r r.length)[k]? = some (headDig f c) ∧ digitB (headDig f c) = true ∧ shC f.1 f.2 (dg (headDig f c)) = c := by
  have hk := (List.getElem?_eq_some_iff.1 hc).1
  have hn : nDig f c ≠ 0 := by
    intro h0
    have := prodTo_zero_of hf hc h0 hk
    simp [fnOk, this] at h
  have hm := digL_mem (List.mem_of_getElem? (head_at hn))
  refine ⟨?_, hm.1, hm.2⟩
  unfold firstTo
  have h2 : (fs.zip r)[k]? = some (f, c) := by rw [List.getElem?_zip_eq_some]; exact ⟨hf, hc⟩
  rw [List.getElem?_map, List.getElem?_take, if_pos hk, h2]; rfl
theorem firstTo_len {fs : List (Int × Int)} {r : List Int} (h : fs.length = r.length) : (firstTo fs r r.length).length = r.length := by
  unfold firstTo; rw [List.length_map, List.length_take, List.length_zip]; omega
/-- the cells of the first number, and that they show the row -/
theorem first_shows {fs : List (Int × Int)} {r : List Int} (h : fnOk fs r = true) :
    areB fs ((fnL fs r).map dg) = true ∧ srL fs ((fnL fs r).map dg) = r ∧ ∀ x ∈ fnL fs r, digitB x = true := by
  have hc : cnOk fs r = true := by simp only [fnOk, Bool.and_eq_true] at h; exact h.1
  have ha := cnOk_are hc
  have hl := areB_len ha
  have hL : fnL fs r = firstTo fs r r.length := by unfold fnL; rw [if_pos h]
  rw [hL]
  have hlen := firstTo_len hl
  have key : ∀ k, k < r.length → ∃ f c, fs[k]? = some f ∧ r[k]? = some c := fun k hk =>
    ⟨fs[k]'(by omega), r[k], List.getElem?_eq_getElem (by omega), List.getElem?_eq_getElem hk⟩
  have hdig : ∀ x ∈ firstTo fs r r.length, digitB x = true := by
    intro x hx
    obtain ⟨k, hk⟩ := List.mem_iff_getElem?.1 hx
    have hlt := (List.getElem?_eq_some_iff.1 hk).1
    obtain ⟨f, c, hf, hc⟩ := key k (by omega)
    obtain ⟨e1, e2, _⟩ := firstTo_at h hf hc
    rw [hk] at e1; cases e1; exact e2
  have hB : areB fs ((firstTo fs r r.length).map dg) = true := by
    unfold areB at ha ⊢
    simp only [Bool.and_eq_true, decide_eq_true_eq] at ha ⊢
    refine ⟨?_, by rw [List.length_map]; omega, ha.2.2⟩
    unfold rowB
    simp only [Bool.and_eq_true, decide_eq_true_eq, List.all_eq_true]
    refine ⟨?_, fun y hy => ?_⟩
    · have := rowB_le ha.1; rw [List.length_map]; omega
    · obtain ⟨x, _, rfl⟩ := List.mem_map.1 hy
      have := dg_bd x
      exact inB_mk this.1 this.2
  refine ⟨hB, ?_, hdig⟩
  unfold srL
  rw [if_pos hB]
  apply List.ext_getElem?
  intro k
  by_cases hk : k < r.length
  · obtain ⟨f, c, hf, hc⟩ := key k hk
    obtain ⟨e1, _, e3⟩ := firstTo_at h hf hc
    unfold shownTo
    have h2 : (fs.zip ((firstTo fs r r.length).map dg))[k]? = some (f, dg (headDig f c)) := by
      rw [List.getElem?_zip_eq_some]; exact ⟨hf, by rw [List.getElem?_map, e1]; rfl⟩
    rw [List.getElem?_map, List.getElem?_take, if_pos (by rw [List.length_map]; omega), h2, hc]
    simp [e3]
  · rw [List.getElem?_eq_none (by have := shownTo_le fs ((firstTo fs r r.length).map dg) ((firstTo fs r r.length).map dg).length; rw [List.length_map] at this ⊢; omega), List.getElem?_eq_none (by omega)]
end Go.Proofs.Ytfbnmkpkihfocaa
namespace Go.Proofs.Ytfbnmkpkihfocaa
open Go.RowKit
set_option linter.unusedVariables false
set_option maxRecDepth 100000
/-- a value of so many ints -/
def aggI (b : List Int) : Value := .agg (ints b).toArray
def bg (b : List Int) (j : Nat) : Int := b.getD j 0
/-- the dark bars and the lit ones of a place -/
def bF (b : List Int) (k : Nat) : Int × Int := (bg b (6 + k), bg b (12 + k))
theorem ints_get {b : List Int} {j : Nat} (h : j < b.length) : (ints b).toArray[j]? = some (.int .i64 (bg b j)) := by
  simp [ints, h, bg]
/-- the cells of a Bench's box, behind whatever was made behind it -/
theorem bench_cell {w w1 : World} {b : List Int} {t : TypeId} (hb : Below (w.alloc (.cells (ints b).toArray t)).heap.size (w.alloc (.cells (ints b).toArray t)) w1) {j : Nat} (h : j < b.length) :
    w1.cell? ⟨w.heap.size, j, none⟩ = some (.int .i64 (bg b j)) := (box_after hb).1 j _ (ints_get h)
theorem bench_range {w w1 : World} {b : List Int} {t : TypeId} (hb : Below (w.alloc (.cells (ints b).toArray t)).heap.size (w.alloc (.cells (ints b).toArray t)) w1) :
    w1.rangeAt w.heap.size 0 (ints b) := fun j v h => by rw [Nat.zero_add]; exact (box_after hb).1 j v (by simpa using h)
theorem loadBench {w : World} {g : Nat} {b : List Int} (h : w.rangeAt g 0 (ints b)) (hb : b.length = 19) : (Instr.loadAt 50 (.pointer (some ⟨g, 0, none⟩))).run Try.prog w = .ok (.agg (ints b).toArray) w :=
  run_loadAt_mid w g 0 _ (ints b) _ h Try.underlying50 rfl (by rw [show (ints b).length = 19 by simp [ints, hb]]; kernel_rfl)
theorem wpList_loadB {ops : Array Oper} {rest : List Oper} {op : Oper} {a : Act} {w : World} {Q : Exit → Act → World → Prop} (hw : Region.wanted op (yielded ops a.tmps) = true) (x : Operand) (ho : op.op = .load 50 x)
    (g : Nat) (hx : a.eval x = .pointer (some ⟨g, 0, none⟩)) (b : List Int) (hc : w.rangeAt g 0 (ints b)) (hb : b.length = 19)
    (h : wpList Try.prog ops Q rest (a.put op.dst (.agg (ints b).toArray)) w) : wpList Try.prog ops Q (op :: rest) a w :=
  wpList_load_want hw _ x ho g 0 hx (ints b) _ hc Try.underlying50 rfl (by rw [show (ints b).length = 19 by simp [ints, hb]]; kernel_rfl) h
theorem wpList_load6 {ops : Array Oper} {rest : List Oper} {op : Oper} {a : Act} {w : World} {Q : Exit → Act → World → Prop} (hw : Region.wanted op (yielded ops a.tmps) = true) (x : Operand) (ho : op.op = .load 48 x)
    (g o : Nat) (hx : a.eval x = .pointer (some ⟨g, o, none⟩)) (b : List Int) (hc : w.rangeAt g o (ints b)) (hb : b.length = 6)
    (h : wpList Try.prog ops Q rest (a.put op.dst (.agg (ints b).toArray)) w) : wpList Try.prog ops Q (op :: rest) a w :=
  wpList_load_want hw _ x ho g o hx (ints b) _ hc Try.underlying48 rfl (by rw [show (ints b).length = 6 by simp [ints, hb]]; kernel_rfl) h
theorem ints_one {b : List Int} : ∀ v ∈ ints b, v.oneCell' = true := fun v hv => by
  simp only [ints, List.mem_map] at hv
  obtain ⟨x, _, rfl⟩ := hv
  rfl
theorem wpList_store6 {ops : Array Oper} {rest : List Oper} {op : Oper} {a : Act} {w : World} {Q : Exit → Act → World → Prop} (hw : Region.wanted op (yielded ops a.tmps) = true) (x y : Operand) (ho : op.op = .store 48 x y)
    (g o : Nat) (b : List Int) (hx : a.eval x = .pointer (some ⟨g, o, none⟩)) (hy : a.eval y = .agg (ints b).toArray) (ht : w.there g o 6) (hb : b.length = 6)
    (h : wpList Try.prog ops Q rest (a.put op.dst undef) (w.setCells g o (ints b))) : wpList Try.prog ops Q (op :: rest) a w :=
  wpList_store_want hw _ x y ho g o (ints b) hx hy (by rw [show (ints b).length = 6 by simp [ints, hb]]; exact ht) (by rw [show (ints b).length = 6 by simp [ints, hb]]; kernel_rfl) ints_one h
theorem wpList_storeB {ops : Array Oper} {rest : List Oper} {op : Oper} {a : Act} {w : World} {Q : Exit → Act → World → Prop} (hw : Region.wanted op (yielded ops a.tmps) = true) (x y : Operand) (ho : op.op = .store 50 x y)
    (g : Nat) (b : List Int) (hx : a.eval x = .pointer (some ⟨g, 0, none⟩)) (hy : a.eval y = .agg (ints b).toArray) (ht : w.there g 0 19) (hb : b.length = 19)
    (h : wpList Try.prog ops Q rest (a.put op.dst undef) (w.setCells g 0 (ints b))) : wpList Try.prog ops Q (op :: rest) a w :=
  wpList_store_want hw _ x y ho g 0 (ints b) hx hy (by rw [show (ints b).length = 19 by simp [ints, hb]]; exact ht) (by rw [show (ints b).length = 19 by simp [ints, hb]]; kernel_rfl) ints_one h
theorem loadVarB {w : World} {g : Nat} {b : List Int} (h : w.rangeAt g 0 (ints b)) (hb : b.length = 19) : (loadVar 50 ⟨g, 0, none⟩).run Try.prog w = .ok (aggI b) w :=
  run_loadVar_mid w g 0 _ (ints b) _ h Try.underlying50 rfl (by rw [show (ints b).length = 19 by simp [ints, hb]]; kernel_rfl)
def fsB (b : List Int) : List (Int × Int) := (List.range 6).map (bF b)
def goodAt (b : List Int) (k : Nat) : Bool := cellB (bg b k) && fB (bF b k)
def goodTo (b : List Int) (n : Nat) : Bool := (List.range n).all (goodAt b)
def goodB (b : List Int) : Bool := goodTo b 6 && inB (bg b 18) 0 1000
theorem goodTo_succ (b : List Int) (n : Nat) : goodTo b (n + 1) = (goodTo b n && goodAt b n) := by
  unfold goodTo; rw [List.range_succ, List.all_append]; simp
theorem goodTo_bad {b : List Int} {k n : Nat} (hk : k < n) (h : goodAt b k = false) : goodTo b n = false := by
  unfold goodTo
  rw [Bool.eq_false_iff]; intro h2
  rw [List.all_eq_true] at h2
  rw [h2 k (List.mem_range.2 hk)] at h; cases h
theorem take_range {b : List Int} {n : Nat} (h : n ≤ b.length) : b.take n = (List.range n).map (bg b) := by
  apply List.ext_getElem?
  intro i
  rw [List.getElem?_take, List.getElem?_map]
  by_cases hi : i < n
  · rw [if_pos hi, List.getElem?_range hi, List.getElem?_eq_getElem (by omega)]
    simp [bg, show i < b.length by omega]
  · rw [if_neg hi, List.getElem?_eq_none (by simp; omega)]; rfl
theorem goodB_eq {b : List Int} (hb : b.length = 19) : goodB b = ((rowB (b.take 6) && (fsB b).all fB) && inB (bg b 18) 0 1000) := by
  unfold goodB goodTo rowB fsB
  congr 1
  rw [take_range (by omega), decide_eq_true (by simp), Bool.true_and, List.all_map, List.all_map, Bool.eq_iff_iff]
  simp only [Bool.and_eq_true, List.all_eq_true, goodAt, Function.comp]
  exact ⟨fun h => ⟨fun x hx => (h x hx).1, fun x hx => (h x hx).2⟩, fun h x hx => ⟨h.1 x hx, h.2 x hx⟩⟩
theorem l12Fault_c (b : List Int) (k : Nat) (w : World) (hb : b.length = 19) (hk : k < 6) :
    Calls Try.prog 96 #[aggI b, .int .i64 (k : Int)] w fun e w' => e = .returned (.agg #[.int .i64 (bF b k).1, .int .i64 (bF b k).2]) ∧ Below w.heap.size w w' := by
  unfold aggI bF
  have g1 := bench_cell (w := w) (b := b) (t := 50) (below_one (.cells #[.int .i64 0, .int .i64 0] 25)) (j := 6 + k) (by omega)
  have g2 := bench_cell (w := w) (b := b) (t := 50) (below_one (.cells #[.int .i64 0, .int .i64 0] 25)) (j := 12 + k) (by omega)
  go_enter Try.func96, Try.ntmps96
  go_wp2
  go_region
  go_wp2
  exact bodyPost_ret (v := .agg #[.int .i64 (bg b (6 + k)), .int .i64 (bg b (12 + k))]) (by simp [results, Try.results96, go_sem]) rfl ⟨rfl, by (repeat (first | exact Below.refl _ _ | exact (Below.refl _ _).drew | assumption | exact below_one _ | refine Below.chain ?_ (by assumption) | refine Below.drew ?_ | refine Below.alc ?_ _ | refine below_drewN ?_ | (refine Below.setCell ?_ ?_ _) | exact Nat.le_refl _ | (simp; done) | (simp; omega)))⟩
theorem bfault_c (b : List Int) (k : Nat) (w : World) (hb : b.length = 19) (hk : k < 6) :
    Calls Try.prog 94 #[aggI b, .int .i64 (k : Int)] w fun e w' => e = .returned (.agg #[.int .i64 (bF b k).1, .int .i64 (bF b k).2]) ∧ Below w.heap.size w w' := by
  unfold aggI bF
  have g1 := bench_cell (w := w) (b := b) (t := 50) (below_one (.cells #[.int .i64 0, .int .i64 0] 25)) (j := 6 + k) (by omega)
  have g2 := bench_cell (w := w) (b := b) (t := 50) (below_one (.cells #[.int .i64 0, .int .i64 0] 25)) (j := 12 + k) (by omega)
  go_enter Try.func94, Try.ntmps94
  go_wp2
  go_region
  go_wp2
  exact bodyPost_ret (v := .agg #[.int .i64 (bg b (6 + k)), .int .i64 (bg b (12 + k))]) (by simp [results, Try.results94, go_sem]) rfl ⟨rfl, by (repeat (first | exact Below.refl _ _ | exact (Below.refl _ _).drew | assumption | exact below_one _ | refine Below.chain ?_ (by assumption) | refine Below.drew ?_ | refine Below.alc ?_ _ | refine below_drewN ?_ | (refine Below.setCell ?_ ?_ _) | exact Nat.le_refl _ | (simp; done) | (simp; omega)))⟩
theorem l12Good_c (b : List Int) (w : World) (hb : b.length = 19) :
    Calls Try.prog 78 #[aggI b] w fun e w' => e = .returned (.bool (goodB b)) ∧ Below w.heap.size w w' := by
  unfold aggI
  have HW : Hid (∀ wr, Below (w.alloc (.cells (ints b).toArray 50)).heap.size (w.alloc (.cells (ints b).toArray 50)) wr → Below w.heap.size w wr) := fun wr h => Below.chain (below_one _) h
  go_enter Try.func78, Try.ntmps78
  go_wp2
  generalize hwb : w.alloc (.cells (ints b).toArray 50) = wb at *
  go_loopw [3] (fun j wr => ∃ k : Nat, k ≤ 6 ∧ j = .int .i64 (k : Int) ∧ goodTo b k = true ∧ Below wb.heap.size wb wr) (fun j _ => 7 - (intOf j).toNat)
  case atStart => exact ⟨0, by omega, rfl, rfl, Below.refl _ _⟩
  case round =>
    obtain ⟨k, hk, rfl, hgt, hbw⟩ := hrel
    have hbr := hbw
    subst hwb
    by_cases hlt : k < 6
    · have hd : decide ((k : Int) < 6) = true := by simp; omega
      have g0 := bench_cell hbw (j := k) (by omega)
      have HS := Lib.hid (goodTo_succ b k)
      have HB := Lib.hid (fun h => goodTo_bad (b := b) (n := 6) hlt h)
      go_wp2_with fail
      refine (l2Cell_c _ _).mono ?_
      rintro e w2 ⟨rfl, rfl⟩
      rcases hq : cellB (bg b k) with _ | _
      · have hF : goodB b = false := by unfold goodB; rw [HB.out (by unfold goodAt; rw [hq]; rfl)]; rfl
        have HF := Lib.hid hF; clear hF
        go_wp2
        go_ret
        exact ⟨by rw [HF.out]; rfl, HW.out _ hbr⟩
      · have hr := bench_range hbw
        go_wp2_with (refine wpList_loadB rfl _ rfl _ rfl b hr hb ?_)
        refine (l12Fault_c b k _ hb hlt).mono ?_
        rintro e w3 ⟨rfl, hb3⟩
        have hb4 := Below.chain hbr hb3
        clear hb3 hbr hr g0
        go_wp2_with fail
        refine (l3Fault_c _ _ _).mono ?_
        rintro e w4 ⟨rfl, hb5⟩
        have hb6 := Below.chain hb4 hb5
        clear hb4 hb5
        rcases hq2 : faultB (bF b k).1 (bF b k).2 with _ | _
        · have hF : goodB b = false := by unfold goodB; rw [HB.out (by unfold goodAt fB; rw [hq2, Bool.and_false])]; rfl
          have HF := Lib.hid hF; clear hF
          go_wp2
          go_ret
          exact ⟨by rw [HF.out]; rfl, HW.out _ hb6⟩
        · have hF : goodTo b (k + 1) = true := by rw [HS.out, hgt]; unfold goodAt fB; rw [hq, hq2]; rfl
          have HF := Lib.hid hF; clear hF
          go_wp2
          go_roundw
          case rel => exact ⟨k + 1, by omega, by go_num, HF.out, hb6⟩
          case measure => simp [intOf]; omega
    · obtain rfl : k = 6 := by omega
      have g0 := bench_cell hbw (j := 18) (by omega)
      have hF : goodB b = inB (bg b 18) 0 1000 := by unfold goodB; rw [hgt]; rfl
      have HF := Lib.hid hF; clear hF
      go_wp2_with fail
      refine (l1In_c _ _ _ _).mono ?_
      rintro e w2 ⟨rfl, rfl⟩
      go_wp2
      go_ret
      exact ⟨by rw [HF.out]; rfl, HW.out _ hbr⟩
def fsTo (b : List Int) (n : Nat) : List (Int × Int) := (List.range n).map (bF b)
theorem fsTo_succ (b : List Int) (n : Nat) : fsTo b (n + 1) = fsTo b n ++ [bF b n] := by unfold fsTo; rw [List.range_succ, List.map_append]; rfl
theorem fsTo_len (b : List Int) (n : Nat) : (fsTo b n).length = n := by simp [fsTo]
theorem faults_c (b : List Int) (w : World) (hb : b.length = 19) :
    Calls Try.prog 84 #[aggI b] w fun e w' => ∃ u, e = .returned u ∧ w'.ownsRow w.heap.size 25 2 u 6 (flat2 (fsB b)) ∧ Below w.heap.size w w' := by
  unfold aggI
  obtain ⟨i, hi, hz0, hz1, hz2⟩ := info_parts info_Fault
  have HW : Hid (∀ wr, Below (w.alloc (.cells (ints b).toArray 50)).heap.size (w.alloc (.cells (ints b).toArray 50)) wr → Below w.heap.size w wr) := fun wr h => Below.chain (below_one _) h
  go_enter Try.func84, Try.ntmps84
  go_wp2
  generalize hwb : w.alloc (.cells (ints b).toArray 50) = wb at *
  have hwz : w.heap.size + 1 = wb.heap.size := by rw [← hwb]; simp
  go_loopw [3, 5] (fun o j wr => ∃ k : Nat, k ≤ 6 ∧ j = .int .i64 (k : Int) ∧ wr.ownsRow wb.heap.size 25 2 o k (flat2 (fsTo b k)) ∧ Below wb.heap.size wb wr) (fun _ j _ => 7 - (intOf j).toNat)
  case atStart => exact ⟨0, by omega, rfl, World.ownsRow_nil _ _ _ _, Below.refl _ _⟩
  case round =>
    obtain ⟨k, hk, rfl, ho, hbw⟩ := hrel
    by_cases hlt : k < 6
    · have hd : decide ((k : Int) < 6) = true := by simp; omega
      have hr : wr.rangeAt w.heap.size 0 (ints b) := by subst hwb; exact bench_range hbw
      obtain ⟨f1, f2, hf⟩ : ∃ f1 f2, bF b k = (f1, f2) := ⟨_, _, rfl⟩
      have hs := fsTo_succ b k
      rw [hf] at hs
      have HS := Lib.hid hs; have HF := Lib.hid hf; clear hs hf
      go_wp2_with (refine wpList_loadB rfl _ rfl _ rfl b hr hb ?_)
      refine (bfault_c b k _ hb hlt).mono ?_
      rintro e w3 ⟨he, hb3⟩
      rw [HF.out] at he
      subst he
      have hb4 := Below.chain hbw hb3
      have ho4 := own_keep ho hb3
      clear hb3 hbw hr ho HF
      go_wp2_with (at_builtin; refine wpList_append_own_at _ rfl _ _ 85 rfl wb.heap.size 25 i (.agg #[.int .i64 0, .int .i64 0]) 2 16 Try.underlying85 hi hz0 hz1 hz2 rfl (by decide) _ k (flat2 (fsTo b k)) rfl (ho4.alloc _) ⟨w3.heap.size, 0, none⟩ 1 1 [.int .i64 f1, .int .i64 f2] rfl rfl (news_new _ [.int .i64 f1, .int .i64 f2] _) (by simp [Value.oneCell']) (by unfold maxLen; omega) (by omega) (by have := hb4.size; simp; omega) ?_)
      intro v' w4 ho5 hg5 _ _
      have hb7 : Below wb.heap.size wb w4 := (Below.alc hb4 _).grown hg5 (by have := hb4.size; simp; omega) (fun g hg => (ho4.lt g hg).1)
      clear ho4 hb4 hg5
      go_wp2
      go_roundw
      case rel => exact ⟨k + 1, by omega, by go_num, by rw [HS.out]; exact ownsRow_cast ho5 rfl (flat2_snoc _ _ _).symm, hb7⟩
      case measure => simp [intOf]; omega
    · obtain rfl : k = 6 := by omega
      go_wp2
      go_ret
      exact ⟨_, rfl, own_lo ho (by omega), HW.out _ hbw⟩
theorem ints_box {w w1 : World} {b : List Int} {t : TypeId} (hb : Below (w.alloc (.cells (ints b).toArray t)).heap.size (w.alloc (.cells (ints b).toArray t)) w1) {n : Nat} (h : n ≤ b.length) (hm : b.length ≤ 1000) (c : Nat) (hc : n ≤ c) (hcm : c ≤ 1000) :
    Ints w1 (.slice (some ⟨w.heap.size, 0, none⟩) n c) (b.take n) := by
  have hl : (b.take n).length = n := by rw [List.length_take]; omega
  refine ⟨_, _, by rw [hl], by rw [hl]; exact hc, by unfold maxLen; omega, by simp, fun _ => ⟨_, _, rfl, fun j hj => ?_⟩⟩
  rw [hl] at hj
  rw [Nat.zero_add, bench_cell hb (by omega), List.getElem?_map, List.getElem?_take, if_pos (by omega), List.getElem?_eq_getElem (by omega)]
  simp [bg, show j < b.length by omega]
theorem IsBench_c (b : List Int) (w : World) (hb : b.length = 19) :
    Calls Try.prog 40 #[aggI b] w fun e w' => e = .returned (.bool (goodB b)) ∧ Below w.heap.size w w' := by
  unfold aggI
  have hcl : CallsIt 45 := fun bs w => by kernel_rfl
  have HW : Hid (∀ wr, Below (w.alloc (.cells (ints b).toArray 50)).heap.size (w.alloc (.cells (ints b).toArray 50)) wr → Below w.heap.size w wr) := fun wr h => Below.chain (below_one _) h
  have hI := ints_box (w := w) (b := b) (t := 50) (Below.refl _ _) (n := 6) (by omega) (by omega) 6 (by omega) (by omega)
  have HG := Lib.hid (goodB_eq hb)
  go_enter Try.func40, Try.ntmps40
  go_wp2_with fail
  refine (IsRow_c _ _ _ hI).mono ?_
  rintro e w2 ⟨rfl, hb2⟩
  have hr := bench_range hb2
  have g18 := bench_cell hb2 (j := 18) (by omega)
  rcases hq : rowB (b.take 6) with _ | _
  · have HF := Lib.hid (show goodB b = false by rw [HG.out, hq]; rfl)
    clear HG hI
    go_wp2
    go_ret
    exact ⟨by rw [HF.out]; rfl, HW.out _ hb2⟩
  · go_wp2_with (refine wpList_loadB rfl _ rfl _ rfl b hr hb ?_)
    refine (faults_c b _ hb).mono ?_
    rintro e w3 ⟨u, rfl, ho, hb3⟩
    have hb4 := Below.chain hb2 hb3
    have g18' := bench_cell hb4 (j := 18) (by omega)
    clear g18 hb2 hb3 hr hI
    have hP : Pairs w3 u (fsB b) := Pairs.of_own ho
    clear ho
    go_wp2_with fail
    refine (areAllFault_c _ (fsB b) 45 fB _ hP hcl (fun x w' => IsFault_c x.1 x.2 w')).mono ?_
    rintro e w4 ⟨rfl, hb5⟩
    have hb6 := Below.chain hb4 hb5
    have g18 := bench_cell hb6 (j := 18) (by omega)
    clear g18' hb4 hb5 hP
    rcases hq2 : (fsB b).all fB with _ | _
    · have HF := Lib.hid (show goodB b = false by rw [HG.out, hq, hq2]; rfl)
      clear HG
      go_wp2
      go_ret
      exact ⟨by rw [HF.out]; rfl, HW.out _ hb6⟩
    · have HF := Lib.hid (show goodB b = inB (bg b 18) 0 1000 by rw [HG.out, hq, hq2]; rfl)
      clear HG
      go_wp2_with fail
      refine (within_c _ _ _ _).mono ?_
      rintro e w5 ⟨rfl, rfl⟩
      go_wp2
      go_ret
      exact ⟨by rw [HF.out]; rfl, HW.out _ hb6⟩
end Go.Proofs.Ytfbnmkpkihfocaa
namespace Go.Proofs.Ytfbnmkpkihfocaa
open Go.RowKit
set_option linter.unusedVariables false
set_option maxRecDepth 100000
theorem len6 {b : List Int} (h : b.length = 6) : ∃ x0 x1 x2 x3 x4 x5, b = [x0, x1, x2, x3, x4, x5] := by
  match b, h with
  | [x0, x1, x2, x3, x4, x5], _ => exact ⟨x0, x1, x2, x3, x4, x5, rfl⟩
/-- six of the ints -/
def pt (b : List Int) (o : Nat) : List Int := (b.drop o).take 6
theorem part6 {w : World} {g : Nat} {b : List Int} (h : w.rangeAt g 0 (ints b)) (o : Nat) : w.rangeAt g o (ints (pt b o)) := by
  have := range_sub h o 6
  rw [Nat.zero_add] at this
  simpa [ints, pt, List.map_take, List.map_drop] using this
theorem part6_len {b : List Int} (h : b.length = 19) {o : Nat} (ho : o ≤ 12) : (pt b o).length = 6 := by simp [pt, h]; omega
theorem cell18 {w : World} {g : Nat} {b : List Int} (h : w.rangeAt g 0 (ints b)) {j : Nat} (hj : j < b.length) : w.cell? ⟨g, j, none⟩ = some (.int .i64 (bg b j)) := by
  have := h j (.int .i64 (bg b j)) (by have := ints_get hj; simpa using this)
  rwa [Nat.zero_add] at this
theorem pt_join {b : List Int} (h : b.length = 19) : ints b = ((ints (pt b 0) ++ ints (pt b 6)) ++ ints (pt b 12)) ++ [.int .i64 (bg b 18)] := by
  have : b = ((pt b 0 ++ pt b 6) ++ pt b 12) ++ [bg b 18] := by
    match b, h with
    | [_, _, _, _, _, _, _, _, _, _, _, _, _, _, _, _, _, _, _], _ => rfl
  conv => lhs; rw [this]
  simp [ints]
/-- a new Bench -/
def zB : Obj := .cells #[.int .i64 0, .int .i64 0, .int .i64 0, .int .i64 0, .int .i64 0, .int .i64 0, .int .i64 0, .int .i64 0, .int .i64 0, .int .i64 0, .int .i64 0, .int .i64 0, .int .i64 0, .int .i64 0, .int .i64 0, .int .i64 0, .int .i64 0, .int .i64 0, .int .i64 0] 50
end Go.Proofs.Ytfbnmkpkihfocaa
