/- Walks of the functions that tell whether digits show cells under a fault, and the states under which they do. -/
import Derived.Test.YtlipkplomndjcaaStates2
namespace Go.Proofs.Ytlipkplomndjcaa
open Go.RowKit
set_option linter.unusedVariables false
set_option maxRecDepth 100000
/-- the first k digits show the first k cells -/
def fitsTo (d l : Int) (ds cs : List Int) (k : Nat) : Bool := ((ds.zip cs).take k).all fun p => shC d l (dg p.1) == p.2
def fitsB (d l : Int) (ds cs : List Int) : Bool := fitsTo d l ds cs ds.length
theorem fitsTo_zero (d l : Int) (ds cs : List Int) : fitsTo d l ds cs 0 = true := rfl
theorem fitsTo_succ {d l : Int} {ds cs : List Int} {k : Nat} {x c : Int} (hx : ds[k]? = some x) (hc : cs[k]? = some c) : fitsTo d l ds cs (k + 1) = (fitsTo d l ds cs k && (shC d l (dg x) == c)) := by
  have h : (ds.zip cs)[k]? = some (x, c) := by rw [List.getElem?_zip_eq_some]; exact ⟨hx, hc⟩
  unfold fitsTo
  rw [take_snoc h, List.all_append]; simp
theorem fitsB_false {d l : Int} {ds cs : List Int} {k : Nat} {x c : Int} (hx : ds[k]? = some x) (hc : cs[k]? = some c) (h : (shC d l (dg x) == c) = false) : fitsB d l ds cs = false := by
  unfold fitsB fitsTo
  rw [List.all_eq_false]
  have h2 : (ds.zip cs)[k]? = some (x, c) := by rw [List.getElem?_zip_eq_some]; exact ⟨hx, hc⟩
  have hl := (List.getElem?_eq_some_iff.1 hx).1
  refine ⟨(x, c), ?_, by simpa using h⟩
  apply List.mem_of_getElem? (i := k)
  rw [List.getElem?_take, if_pos hl]; exact h2
theorem bne_of_beq {a b : Int} {r : Bool} (h : (a == b) = r) : (a != b) = !r := by rw [bne, h]
/-- all digits -/
def digitsB (ds : List Int) : Bool := ds.all digitB
theorem digits_at {ds : List Int} (h : digitsB ds = true) {k : Nat} {x : Int} (hx : ds[k]? = some x) : 0 ≤ x ∧ x ≤ 9 :=
  digitB_true (List.all_eq_true.1 h x (List.mem_of_getElem? hx))
theorem testB_digits {xs : List Int} (h : testB xs = true) : digitsB xs = true := by
  simp only [testB, Bool.and_eq_true] at h; exact h.2

theorem l3Fits_c (d l : Int) (v1 v2 : Value) (ds cs : List Int) (w : World) (d0 : 0 ≤ d) (d1 : d ≤ 127) (l0 : 0 ≤ l) (l1 : l ≤ 127) (h1 : Ints w v1 ds) (h2 : Ints w v2 cs) (hl : ds.length = cs.length) (hd : digitsB ds = true) :
    Calls Try.prog 94 #[.agg #[.int .i64 d, .int .i64 l], v1, v2] w fun e w' => e = .returned (.bool (fitsB d l ds cs)) ∧ Below w.heap.size w w' := by
  have hm1 := h1.le; have hm2 := h2.le
  obtain ⟨a1, c1, rfl, _, _, H1⟩ := h1.parts
  obtain ⟨a2, c2, rfl, _, _, H2⟩ := h2.parts
  have q0 : (w.alloc (.cells #[.int .i64 d, .int .i64 l] 42)).cell? ⟨w.heap.size, 0, none⟩ = some (.int .i64 d) := by rw [World.cell?_alloc_at _ _ _ _ rfl]; rfl
  have q1 : (w.alloc (.cells #[.int .i64 d, .int .i64 l] 42)).cell? ⟨w.heap.size, 1, none⟩ = some (.int .i64 l) := by rw [World.cell?_alloc_at _ _ _ _ rfl]; rfl
  have hb0 := below_one (w := w) (.cells #[.int .i64 d, .int .i64 l] 42)
  have HL := Lib.hid hl; clear hl
  go_enter Try.func94, Try.ntmps94
  go_wp2
  go_loopw [7] (fun i wr => ∃ k : Nat, k ≤ ds.length ∧ i = .int .i64 k ∧ Hid (fitsTo d l ds cs k = true) ∧ Below w.heap.size w wr ∧ wr.cell? ⟨w.heap.size, 0, none⟩ = some (.int .i64 d) ∧ wr.cell? ⟨w.heap.size, 1, none⟩ = some (.int .i64 l)) (fun i _ => ds.length - (intOf i).toNat)
  case atStart => exact ⟨0, by omega, rfl, fitsTo_zero _ _ _ _, hb0, q0, q1⟩
  case round =>
    obtain ⟨k, hk, rfl, hbef, hb, g0, g1⟩ := hrel
    clear q0 q1 hb0
    by_cases hlt : k < ds.length
    · have hlt2 : k < cs.length := by rw [← HL.out]; exact hlt
      have hdd : decide ((k : Int) < (ds.length : Int)) = true := by simp; omega
      obtain ⟨x, hx⟩ := elem_at hlt
      obtain ⟨y, hy⟩ := elem_at hlt2
      obtain ⟨b1, o1, rfl, f1⟩ := H1.out k x hx.out
      obtain ⟨b2, o2, rfl, f2⟩ := H2.out k y hy.out
      have g2 := cell_later hb f1
      have g3 := cell_later hb f2
      have hxd := digits_at hd hx.out
      have bdx := dg_bd x
      have hx0 := hxd.1; have hx1 := hxd.2
      clear h1 h2 f1 f2 hxd
      go_wp2_with fail
      go_region_held3 (fun w' => w'.cell? ⟨w.heap.size, 0, none⟩ = some (.int .i64 d) ∧ w'.cell? ⟨w.heap.size, 1, none⟩ = some (.int .i64 l) ∧ w'.cell? ⟨b1, o1 + k, none⟩ = some (.int .i64 x) ∧ w'.cell? ⟨b2, o2 + k, none⟩ = some (.int .i64 y))
        (first | go_keep | (go_split_ands; exact ⟨cell_later (by assumption) (by assumption), cell_later (by assumption) (by assumption), cell_later (by assumption) (by assumption), cell_later (by assumption) (by assumption)⟩))
        (first | (go_at_call 82; refine (l2Digit_c x hx0 hx1 _).mono ?_; rintro e w' ⟨rfl, hb2⟩) | (go_at_call 81; refine (l3Shown_c d l (dg x) d0 d1 l0 l1 bdx.1 bdx.2 _).mono ?_; rintro e w' ⟨rfl, hb3⟩))
      go_split_ands
      have hb4 : Below w.heap.size w _ := Below.chain (Below.chain hb.drew hb2) hb3
      rcases hq : (shC d l (dg x) == y) with _ | _
      · have hq2 := bne_of_beq hq
        have HQ := Lib.hid hq; clear hq
        simp only [Bool.not_false] at hq2
        go_wp2
        go_ret
        exact ⟨bool_ret (fitsB_false hx.out hy.out HQ.out).symm, hb4⟩
      · have hq2 := bne_of_beq hq
        have HQ := Lib.hid hq; clear hq
        simp only [Bool.not_true] at hq2
        go_wp2
        go_roundw
        case rel => exact ⟨k + 1, by omega, by go_num, by rw [fitsTo_succ hx.out hy.out, hbef.out, HQ.out]; rfl, hb4, by assumption, by assumption⟩
        case measure => simp [intOf]; omega
    · obtain rfl : k = ds.length := by omega
      go_wp2
      go_ret
      exact ⟨bool_ret hbef.out.symm, hb⟩

/-- the states under which a test shows cells -/
def readSt (ds cs : List Int) : List (Int × Int) := allSt.filter fun s => fitsB (stD s.1 s.2) (stL s.1 s.2) ds cs
def readOk (ds cs : List Int) : Bool := testB ds && (decide (cs.length = ds.length) && cs.all cellB)
def readL (ds cs : List Int) : List (Int × Int) := if readOk ds cs then readSt ds cs else []
theorem readL_le (ds cs : List Int) : (readL ds cs).length ≤ 15 := by
  unfold readL; split
  · exact Nat.le_trans (List.length_filter_le _ _) (by decide)
  · simp
def RdPost (w : World) (ds cs : List Int) (e : Ending) (w' : World) : Prop :=
  ∃ u, e = .returned (.tuple #[u, .bool (readOk ds cs)]) ∧ w'.ownsRow w.heap.size 150 2 u (readL ds cs).length (flat2 (readL ds cs)) ∧ Below w.heap.size w w'
theorem RdPost.no {w w' : World} {ds cs : List Int} {u : Value} (ht : readOk ds cs = false) (ho : w'.ownsRow w.heap.size 150 2 u 0 []) (hb : Below w.heap.size w w') : RdPost w ds cs (.returned (.tuple #[u, .bool false])) w' := by
  refine ⟨u, by rw [ht], ?_, hb⟩
  simpa [readL, ht, flat2_nil] using ho
theorem RdPost.yes {w w' : World} {ds cs : List Int} {u : Value} (ht : readOk ds cs = true) (ho : w'.ownsRow w.heap.size 150 2 u (readSt ds cs).length (flat2 (readSt ds cs))) (hb : Below w.heap.size w w') : RdPost w ds cs (.returned (.tuple #[u, .bool true])) w' := by
  refine ⟨u, by rw [ht], ?_, hb⟩
  simpa [readL, ht] using ho
end Go.Proofs.Ytlipkplomndjcaa
