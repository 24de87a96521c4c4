/- Texts of this claim, gathered: States2, Read, Read2, Frac, Dark, Dark2, Told, Job1, Shows, DrawU2, Draw. -/
import Derived.Test.YtfbnmkpkihfocaaGreatK8
namespace Go.Proofs.YtfbnmkpkihfocaaGreat
open Go.RowKit
set_option linter.unusedVariables false
set_option maxRecDepth 100000
/-- a list that is told if the test is valid, else none -/
def toldSt (xs : List Int) (l : List (Int × Int)) : List (Int × Int) := if testB xs then l else []
theorem toldSt_le (xs : List Int) (l : List (Int × Int)) (h : l.length ≤ 15) : (toldSt xs l).length ≤ 15 := by
  unfold toldSt; split
  · exact h
  · simp
theorem foundSt_le (xs : List Int) : (foundSt xs).length ≤ 15 := Nat.le_trans (List.length_filter_le _ _) (by decide)
theorem hiddenSt_le (xs : List Int) : (hiddenSt xs).length ≤ 15 := Nat.le_trans (List.length_filter_le _ _) (by decide)
/-- the post of both texts: a slice of the call's own with the list, and the bool -/
def StPost (w : World) (xs : List Int) (l : List (Int × Int)) (e : Ending) (w' : World) : Prop :=
  ∃ u, e = .returned (.tuple #[u, .bool (testB xs)]) ∧ w'.ownsRow w.heap.size 31 2 u (toldSt xs l).length (flat2 (toldSt xs l)) ∧ Below w.heap.size w w'
theorem StPost.no {w w' : World} {xs : List Int} {l : List (Int × Int)} {u : Value} (ht : testB xs = false) (ho : w'.ownsRow w.heap.size 31 2 u 0 []) (hb : Below w.heap.size w w') : StPost w xs l (.returned (.tuple #[u, .bool false])) w' := by
  refine ⟨u, by rw [ht], ?_, hb⟩
  simpa [toldSt, ht, flat2_nil] using ho
theorem StPost.yes {w w' : World} {xs : List Int} {l : List (Int × Int)} {u : Value} (ht : testB xs = true) (ho : w'.ownsRow w.heap.size 31 2 u l.length (flat2 l)) (hb : Below w.heap.size w w') : StPost w xs l (.returned (.tuple #[u, .bool true])) w' := by
  refine ⟨u, by rw [ht], ?_, hb⟩
  simpa [toldSt, ht] using ho
end Go.Proofs.YtfbnmkpkihfocaaGreat
namespace Go.Proofs.YtfbnmkpkihfocaaGreat
open Go.RowKit
set_option linter.unusedVariables false
set_option maxRecDepth 100000
/-- the first k digits show the first k cells -/
def fitsTo (d l : Int) (ds cs : List Int) (k : Nat) : Bool := ((ds.zip cs).take k).all fun p => shC d l (dg p.1) == p.2
def fitsB (d l : Int) (ds cs : List Int) : Bool := fitsTo d l ds cs ds.length
theorem fitsTo_zero (d l : Int) (ds cs : List Int) : fitsTo d l ds cs 0 = true := rfl
theorem fitsTo_succ {d l : Int} {ds cs : List Int} {k : Nat} {x c : Int} (hx : ds[k]? = some x) (hc : cs[k]? = some c) : fitsTo d l ds cs (k + 1) = (fitsTo d l ds cs k && (shC d l (dg x) == c)) := by
  have h : (ds.zip cs)[k]? = some (x, c) := by rw [List.getElem?_zip_eq_some]; exact ⟨hx, hc⟩
  unfold fitsTo
  rw [take_snoc h, List.all_append]; simp
theorem fitsB_false {d l : Int} {ds cs : List Int} {k : Nat} {x c : Int} (hx : ds[k]? = some x) (hc : cs[k]? = some c) (h : (shC d l (dg x) == c) = false) : fitsB d l ds cs = false := by
  unfold fitsB fitsTo
  rw [List.all_eq_false]
  have h2 : (ds.zip cs)[k]? = some (x, c) := by rw [List.getElem?_zip_eq_some]; exact ⟨hx, hc⟩
  have hl := (List.getElem?_eq_some_iff.1 hx).1
  refine ⟨(x, c), ?_, by simpa using h⟩
  apply List.mem_of_getElem? (i := k)
  rw [List.getElem?_take, if_pos hl]; exact h2
theorem bne_of_beq {a b : Int} {r : Bool} (h : (a == b) = r) : (a != b) = !r := by rw [bne, h]
/-- all digits -/
def digitsB (ds : List Int) : Bool := ds.all digitB
theorem digits_at {ds : List Int} (h : digitsB ds = true) {k : Nat} {x : Int} (hx : ds[k]? = some x) : 0 ≤ x ∧ x ≤ 9 :=
  digitB_true (List.all_eq_true.1 h x (List.mem_of_getElem? hx))
theorem testB_digits {xs : List Int} (h : testB xs = true) : digitsB xs = true := by
  simp only [testB, Bool.and_eq_true] at h; exact h.2

theorem l3Fits_c (d l : Int) (v1 v2 : Value) (ds cs : List Int) (w : World) (d0 : 0 ≤ d) (d1 : d ≤ 127) (l0 : 0 ≤ l) (l1 : l ≤ 127) (h1 : Ints w v1 ds) (h2 : Ints w v2 cs) (hl : ds.length = cs.length) (hd : digitsB ds = true) :
    Calls Tryz.prog 44 #[.agg #[.int .i64 d, .int .i64 l], v1, v2] w fun e w' => e = .returned (.bool (fitsB d l ds cs)) ∧ Below w.heap.size w w' := by
  have hm1 := h1.le; have hm2 := h2.le
  obtain ⟨a1, c1, rfl, _, _, H1⟩ := h1.parts
  obtain ⟨a2, c2, rfl, _, _, H2⟩ := h2.parts
  have q0 : (w.alloc (.cells #[.int .i64 d, .int .i64 l] 44)).cell? ⟨w.heap.size, 0, none⟩ = some (.int .i64 d) := by rw [World.cell?_alloc_at _ _ _ _ rfl]; rfl
  have q1 : (w.alloc (.cells #[.int .i64 d, .int .i64 l] 44)).cell? ⟨w.heap.size, 1, none⟩ = some (.int .i64 l) := by rw [World.cell?_alloc_at _ _ _ _ rfl]; rfl
  have hb0 := below_one (w := w) (.cells #[.int .i64 d, .int .i64 l] 44)
  have HL := Lib.hid hl; clear hl
  go_enter Tryz.func44, Tryz.ntmps44
  go_wp2
  go_loopw [7] (fun i wr => ∃ k : Nat, k ≤ ds.length ∧ i = .int .i64 k ∧ Hid (fitsTo d l ds cs k = true) ∧ Below w.heap.size w wr ∧ wr.cell? ⟨w.heap.size, 0, none⟩ = some (.int .i64 d) ∧ wr.cell? ⟨w.heap.size, 1, none⟩ = some (.int .i64 l)) (fun i _ => ds.length - (intOf i).toNat)
  case atStart => exact ⟨0, by omega, rfl, fitsTo_zero _ _ _ _, hb0, q0, q1⟩
  case round =>
    obtain ⟨k, hk, rfl, hbef, hb, g0, g1⟩ := hrel
    clear q0 q1 hb0
    by_cases hlt : k < ds.length
    · have hlt2 : k < cs.length := by rw [← HL.out]; exact hlt
      have hdd : decide ((k : Int) < (ds.length : Int)) = true := by simp; omega
      obtain ⟨x, hx⟩ := elem_at hlt
      obtain ⟨y, hy⟩ := elem_at hlt2
      obtain ⟨b1, o1, rfl, f1⟩ := H1.out k x hx.out
      obtain ⟨b2, o2, rfl, f2⟩ := H2.out k y hy.out
      have g2 := cell_later hb f1
      have g3 := cell_later hb f2
      have hxd := digits_at hd hx.out
      have bdx := dg_bd x
      have hx0 := hxd.1; have hx1 := hxd.2
      clear h1 h2 f1 f2 hxd
      go_wp2_with fail
      go_region_held3 (fun w' => w'.cell? ⟨w.heap.size, 0, none⟩ = some (.int .i64 d) ∧ w'.cell? ⟨w.heap.size, 1, none⟩ = some (.int .i64 l) ∧ w'.cell? ⟨b1, o1 + k, none⟩ = some (.int .i64 x) ∧ w'.cell? ⟨b2, o2 + k, none⟩ = some (.int .i64 y))
        (first | go_keep | (go_split_ands; exact ⟨cell_later (by assumption) (by assumption), cell_later (by assumption) (by assumption), cell_later (by assumption) (by assumption), cell_later (by assumption) (by assumption)⟩))
        (first | (go_at_call 31; refine (l2Digit_c x hx0 hx1 _).mono ?_; rintro e w' ⟨rfl, hb2⟩) | (go_at_call 29; refine (l3Shown_c d l (dg x) d0 d1 l0 l1 bdx.1 bdx.2 _).mono ?_; rintro e w' ⟨rfl, hb3⟩))
      go_split_ands
      have hb4 : Below w.heap.size w _ := Below.chain (Below.chain hb.drew hb2) hb3
      rcases hq : (shC d l (dg x) == y) with _ | _
      · have hq2 := bne_of_beq hq
        have HQ := Lib.hid hq; clear hq
        simp only [Bool.not_false] at hq2
        go_wp2
        go_ret
        exact ⟨bool_ret (fitsB_false hx.out hy.out HQ.out).symm, hb4⟩
      · have hq2 := bne_of_beq hq
        have HQ := Lib.hid hq; clear hq
        simp only [Bool.not_true] at hq2
        go_wp2
        go_roundw
        case rel => exact ⟨k + 1, by omega, by go_num, by rw [fitsTo_succ hx.out hy.out, hbef.out, HQ.out]; rfl, hb4, by assumption, by assumption⟩
        case measure => simp [intOf]; omega
    · obtain rfl : k = ds.length := by omega
      go_wp2
      go_ret
      exact ⟨bool_ret hbef.out.symm, hb⟩

/-- the states under which a test shows cells -/
def readSt (ds cs : List Int) : List (Int × Int) := allSt.filter fun s => fitsB (stD s.1 s.2) (stL s.1 s.2) ds cs
def readOk (ds cs : List Int) : Bool := testB ds && (decide (cs.length = ds.length) && cs.all cellB)
def readL (ds cs : List Int) : List (Int × Int) := if readOk ds cs then readSt ds cs else []
theorem readL_le (ds cs : List Int) : (readL ds cs).length ≤ 15 := by
  unfold readL; split
  · exact Nat.le_trans (List.length_filter_le _ _) (by decide)
  · simp
def RdPost (w : World) (ds cs : List Int) (e : Ending) (w' : World) : Prop :=
  ∃ u, e = .returned (.tuple #[u, .bool (readOk ds cs)]) ∧ w'.ownsRow w.heap.size 31 2 u (readL ds cs).length (flat2 (readL ds cs)) ∧ Below w.heap.size w w'
theorem RdPost.no {w w' : World} {ds cs : List Int} {u : Value} (ht : readOk ds cs = false) (ho : w'.ownsRow w.heap.size 31 2 u 0 []) (hb : Below w.heap.size w w') : RdPost w ds cs (.returned (.tuple #[u, .bool false])) w' := by
  refine ⟨u, by rw [ht], ?_, hb⟩
  simpa [readL, ht, flat2_nil] using ho
theorem RdPost.yes {w w' : World} {ds cs : List Int} {u : Value} (ht : readOk ds cs = true) (ho : w'.ownsRow w.heap.size 31 2 u (readSt ds cs).length (flat2 (readSt ds cs))) (hb : Below w.heap.size w w') : RdPost w ds cs (.returned (.tuple #[u, .bool true])) w' := by
  refine ⟨u, by rw [ht], ?_, hb⟩
  simpa [readL, ht] using ho
theorem ReadStatesF_c (bar kind : Int) (p1 p2 : Addr) (s1 s2 : Value) (ds cs : List Int) (w : World) (hst : stateB bar kind = true) (q1 : w.cell? p1 = some s1) (q2 : w.cell? p2 = some s2) (e1 : p1 = ⟨p1.block, 0, none⟩) (e2 : p2 = ⟨p2.block, 0, none⟩)
    (h1 : Ints w s1 ds) (h2 : Ints w s2 cs) (hl : ds.length = cs.length) (hd : digitsB ds = true) :
    Calls Tryz.prog 37 #[.agg #[.int .i64 bar, .int .i64 kind], .pointer (some p1), .pointer (some p2)] w fun e w' => e = .returned (.bool (fitsB (stD bar kind) (stL bar kind) ds cs)) ∧ Below w.heap.size w w' := by
  obtain ⟨pb1, po1, ps1⟩ := p1
  obtain ⟨pb2, po2, ps2⟩ := p2
  simp only [Addr.mk.injEq, true_and] at e1 e2
  obtain ⟨rfl, rfl⟩ := e1
  obtain ⟨rfl, rfl⟩ := e2
  have bd := stDL_bd hst
  have hm1 := h1.le; have hm2 := h2.le
  obtain ⟨a1, c1, rfl, _, _, H1⟩ := h1.parts
  obtain ⟨a2, c2, rfl, _, _, H2⟩ := h2.parts
  have hb0 := below_one (w := w) (.cells #[.int .i64 bar, .int .i64 kind] 31)
  have q10 := cell_later hb0 q1
  have q20 := cell_later hb0 q2
  have r0 : (w.alloc (.cells #[.int .i64 bar, .int .i64 kind] 31)).cell? ⟨w.heap.size, 0, none⟩ = some (.int .i64 bar) := by rw [World.cell?_alloc_at _ _ _ _ rfl]; rfl
  have r1 : (w.alloc (.cells #[.int .i64 bar, .int .i64 kind] 31)).cell? ⟨w.heap.size, 1, none⟩ = some (.int .i64 kind) := by rw [World.cell?_alloc_at _ _ _ _ rfl]; rfl
  have HL := Lib.hid hl; clear hl
  go_enter Tryz.func37, Tryz.ntmps37
  go_wp2
  go_loopw [9, 5, 6] (fun i _ _ wr => ∃ k : Nat, k ≤ ds.length ∧ i = .int .i64 k ∧ Hid (fitsTo (stD bar kind) (stL bar kind) ds cs k = true) ∧ Below w.heap.size w wr ∧ wr.cell? ⟨w.heap.size, 0, none⟩ = some (.int .i64 bar) ∧ wr.cell? ⟨w.heap.size, 1, none⟩ = some (.int .i64 kind) ∧ wr.cell? ⟨pb1, 0, none⟩ = some (.slice a1 ds.length c1) ∧ wr.cell? ⟨pb2, 0, none⟩ = some (.slice a2 cs.length c2)) (fun i _ _ _ => ds.length - (intOf i).toNat)
  case atStart => exact ⟨0, by omega, rfl, fitsTo_zero _ _ _ _, hb0, r0, r1, q10, q20⟩
  case round =>
    obtain ⟨k, hk, rfl, hbef, hb, g0, g1, g4, g5⟩ := hrel
    clear q10 q20 r0 r1 hb0
    by_cases hlt : k < ds.length
    · have hlt2 : k < cs.length := by rw [← HL.out]; exact hlt
      have hdd : decide ((k : Int) < (ds.length : Int)) = true := by simp; omega
      obtain ⟨x, hx⟩ := elem_at hlt
      obtain ⟨y, hy⟩ := elem_at hlt2
      obtain ⟨b1, o1, rfl, f1⟩ := H1.out k x hx.out
      obtain ⟨b2, o2, rfl, f2⟩ := H2.out k y hy.out
      have g2 := cell_later hb f1
      have g3 := cell_later hb f2
      have hxd := digits_at hd hx.out
      have bdx := dg_bd x
      have hx0 := hxd.1; have hx1 := hxd.2
      have hix := fun w => index_dig x hx0 hx1 w
      clear h1 h2 f1 f2 hxd q1 q2
      go_wp2_with fail
      go_region_held3 (fun w' => w'.cell? ⟨w.heap.size, 0, none⟩ = some (.int .i64 bar) ∧ w'.cell? ⟨w.heap.size, 1, none⟩ = some (.int .i64 kind) ∧ w'.cell? ⟨pb1, 0, none⟩ = some (.slice (some ⟨b1, o1, none⟩) ds.length c1) ∧ w'.cell? ⟨pb2, 0, none⟩ = some (.slice (some ⟨b2, o2, none⟩) cs.length c2) ∧ w'.cell? ⟨b1, o1 + k, none⟩ = some (.int .i64 x) ∧ w'.cell? ⟨b2, o2 + k, none⟩ = some (.int .i64 y))
        (first | go_keep | (go_split_ands; exact ⟨cell_later (by assumption) (by assumption), cell_later (by assumption) (by assumption), cell_later (by assumption) (by assumption), cell_later (by assumption) (by assumption), cell_later (by assumption) (by assumption), cell_later (by assumption) (by assumption)⟩))
        (first | (go_at_call 40; refine (digitCells_c _).mono ?_; rintro e w' ⟨rfl, hb2⟩) | (go_at_call 38; refine (Sfault_c bar kind hst _).mono ?_; rintro e w' ⟨rfl, hb3⟩; unfold faultV) | (go_at_call 39; refine (shown_c _ _ (dg x) bd.1 bd.2.1 bd.2.2.1 bd.2.2.2 bdx.1 bdx.2 _).mono ?_; rintro e w' ⟨rfl, hb4⟩))
      go_split_ands
      have hb6 : Below w.heap.size w _ := Below.chain (Below.chain (Below.chain hb.drew hb3) hb2) hb4
      rcases hq : (shC (stD bar kind) (stL bar kind) (dg x) == y) with _ | _
      · have hq2 := bne_of_beq hq
        have HQ := Lib.hid hq; clear hq hix
        simp only [Bool.not_false] at hq2
        go_wp2
        go_ret
        exact ⟨bool_ret (fitsB_false hx.out hy.out HQ.out).symm, hb6⟩
      · have hq2 := bne_of_beq hq
        have HQ := Lib.hid hq; clear hq hix
        simp only [Bool.not_true] at hq2
        go_wp2
        go_roundw
        case rel => exact ⟨k + 1, by omega, by go_num, by rw [fitsTo_succ hx.out hy.out, hbef.out, HQ.out]; rfl, hb6, by assumption, by assumption, by assumption, by assumption⟩
        case measure => simp [intOf]; omega
    · obtain rfl : k = ds.length := by omega
      go_wp2
      go_ret
      exact ⟨bool_ret hbef.out.symm, hb⟩
theorem ReadStates_c (v1 v2 : Value) (ds cs : List Int) (w : World) (h1 : Ints w v1 ds) (h2 : Ints w v2 cs) : Calls Tryz.prog 6 #[v1, v2] w (RdPost w ds cs) := by
  obtain ⟨a1, c1, rfl, _, _, _⟩ := h1.parts
  obtain ⟨a2, c2, rfl, _, _, _⟩ := h2.parts
  have hb00 : Below w.heap.size w ((w.alloc (.cells #[.slice a1 ds.length c1] 24)).alloc (.cells #[.slice a2 cs.length c2] 24)) := by (repeat (first | exact Below.refl _ _ | exact (Below.refl _ _).drew | assumption | exact below_one _ | refine Below.chain ?_ (by assumption) | refine Below.drew ?_ | refine Below.alc ?_ _ | refine below_drewN ?_ | (refine Below.setCell ?_ ?_ _) | exact Nat.le_refl _ | (simp; done) | (simp; omega)))
  have r0 : ((w.alloc (.cells #[.slice a1 ds.length c1] 24)).alloc (.cells #[.slice a2 cs.length c2] 24)).cell? ⟨w.heap.size, 0, none⟩ = some (.slice a1 ds.length c1) := by
    rw [World.cell?_alloc_past _ _ _ (by simp), World.cell?_alloc_at _ _ _ _ rfl]; rfl
  have r1 : ((w.alloc (.cells #[.slice a1 ds.length c1] 24)).alloc (.cells #[.slice a2 cs.length c2] 24)).cell? ⟨w.heap.size + 1, 0, none⟩ = some (.slice a2 cs.length c2) := by
    rw [World.cell?_alloc_at _ _ _ _ (by simp)]; rfl
  have h10 := h1.below hb00
  have h20 := h2.below hb00
  rcases ht : testB ds with _ | _
  · have hno : readOk ds cs = false := by simp [readOk, ht]
    have HT := Lib.hid ht; have HN := Lib.hid hno; clear ht hno
    go_enter Tryz.func6, Tryz.ntmps6
    go_wp2_with fail
    refine (isTest_c _ ds _ h10).mono ?_
    rintro e w1 ⟨rfl, hb1⟩
    rw [HT.out]
    go_wp2
    go_ret2
    exact RdPost.no HN.out (World.ownsRow_nil _ _ _ _) (Below.chain hb00 hb1)
  · by_cases hl : cs.length = ds.length
    · have hlb : ((cs.length : Int) != (ds.length : Int)) = false := by simp [hl]
      have HL := Lib.hid hl; clear hl
      rcases hc : cs.all cellB with _ | _
      · have hno : readOk ds cs = false := by simp [readOk, hc]
        have HT := Lib.hid ht; have HN := Lib.hid hno; have HC := Lib.hid hc; clear ht hno hc
        go_enter Tryz.func6, Tryz.ntmps6
        go_wp2_with fail
        refine (isTest_c _ ds _ h10).mono ?_
        rintro e w1 ⟨rfl, hb1⟩
        rw [HT.out]
        have r01 := cell_later hb1 r0
        have r11 := cell_later hb1 r1
        have h21 := h20.below hb1
        clear r0 r1 h20
        go_wp2_with fail
        refine (areAllInt_c _ cs 35 cellB _ h21 (fun _ _ => by kernel_rfl) (fun x w' => IsCell_c x w')).mono ?_
        rintro e w2 ⟨rfl, hb2⟩
        rw [HC.out]
        go_wp2
        go_ret2
        exact RdPost.no HN.out (World.ownsRow_nil _ _ _ _) (Below.chain (Below.chain hb00 hb1) hb2)
      · have hyes : readOk ds cs = true := by simp [readOk, ht, hc, HL.out]
        have HT := Lib.hid ht; have HN := Lib.hid hyes; have HC := Lib.hid hc; clear ht hyes hc
        go_enter Tryz.func6, Tryz.ntmps6
        go_wp2_with fail
        refine (isTest_c _ ds _ h10).mono ?_
        rintro e w1 ⟨rfl, hb1⟩
        rw [HT.out]
        have r01 := cell_later hb1 r0
        have r11 := cell_later hb1 r1
        have h11 := h10.below hb1
        have h21 := h20.below hb1
        clear r0 r1 h20 h10
        go_wp2_with fail
        refine (areAllInt_c _ cs 35 cellB _ h21 (fun _ _ => by kernel_rfl) (fun x w' => IsCell_c x w')).mono ?_
        rintro e w2 ⟨rfl, hb2⟩
        rw [HC.out]
        have r02 := cell_later hb2 r01
        have r12 := cell_later hb2 r11
        have h12 := h11.below hb2
        have h22 := h21.below hb2
        have hb3 : Below w.heap.size w w2 := Below.chain (Below.chain hb00 hb1) hb2
        clear r01 r11 h11 h21 hb1 hb2 hb00
        go_wp2_with fail
        refine (states_c 37 #[.pointer (some ⟨w.heap.size, 0, none⟩), .pointer (some ⟨w.heap.size + 1, 0, none⟩)] (fun s => fitsB (stD s.1 s.2) (stL s.1 s.2) ds cs) _ (fun _ _ => by kernel_rfl) ?_).mono ?_
        · intro bar kind w3 hst hb
          exact ReadStatesF_c bar kind _ _ _ _ ds cs w3 hst (cell_later hb r02) (cell_later hb r12) rfl rfl (h12.below hb) (h22.below hb) HL.out.symm (testB_digits HT.out)
        · rintro e w3 ⟨u, rfl, ho, hb⟩
          have ho' : w3.ownsRow w.heap.size 31 2 u (readSt ds cs).length (flat2 (readSt ds cs)) := own_lo ho hb3.size
          go_wp2
          go_ret2
          exact RdPost.yes HN.out ho' (Below.chain hb3 hb)
    · have hno : readOk ds cs = false := by simp [readOk, hl]
      have hlb : ((cs.length : Int) != (ds.length : Int)) = true := by simp; omega
      have HT := Lib.hid ht; have HN := Lib.hid hno; clear ht hno
      go_enter Tryz.func6, Tryz.ntmps6
      go_wp2_with fail
      refine (isTest_c _ ds _ h10).mono ?_
      rintro e w1 ⟨rfl, hb1⟩
      rw [HT.out]
      have r01 := cell_later hb1 r0
      have r11 := cell_later hb1 r1
      clear r0 r1
      go_wp2
      go_ret2
      exact RdPost.no HN.out (World.ownsRow_nil _ _ _ _) (Below.chain hb00 hb1)
end Go.Proofs.YtfbnmkpkihfocaaGreat
namespace Go.Proofs.YtfbnmkpkihfocaaGreat
open Go.RowKit
set_option linter.unusedVariables false
set_option maxRecDepth 100000
/-- those of the first m states under which a test shows cells -/
def readTo (ds cs : List Int) (m : Nat) : List (Int × Int) := (allSt.take m).filter fun s => fitsB (stD s.1 s.2) (stL s.1 s.2) ds cs
theorem readTo_le (ds cs : List Int) (m : Nat) : (readTo ds cs m).length ≤ 15 :=
  Nat.le_trans (List.length_filter_le _ _) (by rw [List.length_take, allSt_length]; omega)
theorem readTo_succ (ds cs : List Int) {m : Nat} {s : Int × Int} (hs : allSt[m]? = some s) : readTo ds cs (m + 1) = readTo ds cs m ++ if fitsB (stD s.1 s.2) (stL s.1 s.2) ds cs then [s] else [] := by
  unfold readTo
  rw [take_snoc hs, List.filter_append]
  cases hq : (fitsB (stD s.1 s.2) (stL s.1 s.2) ds cs) <;> simp [hq]
theorem readTo_all (ds cs : List Int) : readTo ds cs 15 = readSt ds cs := by
  unfold readTo readSt
  rw [List.take_of_length_le (by rw [allSt_length]; omega)]
theorem sReadStates_c (v1 v2 : Value) (ds cs : List Int) (w : World) (h1 : Ints w v1 ds) (h2 : Ints w v2 cs) : Calls Tryz.prog 7 #[v1, v2] w (RdPost w ds cs) := by
  have hm1 := h1.le; have hm2 := h2.le
  obtain ⟨a1, c1, rfl, _, _, _⟩ := h1.parts
  obtain ⟨a2, c2, rfl, _, _, H2⟩ := h2.parts
  obtain ⟨i, hi, hz0, hz1, hz2⟩ := info_parts info_State
  have ho0 := World.ownsRow_lit (e := 31) (size := 2) (base := w.heap.size) w #[] 0 (Nat.le_refl _) (by decide) rfl
  have hb0 := below_one (w := w) (.cells #[] 31)
  have h10 := h1.below hb0
  have h20 := h2.below hb0
  rcases ht : testB ds with _ | _
  · have hno : readOk ds cs = false := by simp [readOk, ht]
    have HT := Lib.hid ht; have HN := Lib.hid hno; clear ht hno
    go_enter Tryz.func7, Tryz.ntmps7
    go_wp2_with fail
    refine (l7Test_c _ ds _ h10).mono ?_
    rintro e w1 ⟨rfl, hb1⟩
    rw [HT.out]
    go_wp2
    go_ret2
    exact RdPost.no HN.out (own_keep ho0 hb1) (Below.chain hb0 hb1)
  · by_cases hl : cs.length = ds.length
    · have hlb : ((cs.length : Int) != (ds.length : Int)) = false := by simp [hl]
      have HL := Lib.hid hl; clear hl
      have HT := Lib.hid ht; clear ht
      go_enter Tryz.func7, Tryz.ntmps7
      go_wp2_with fail
      refine (l7Test_c _ ds _ h10).mono ?_
      rintro e w1 ⟨rfl, hb1⟩
      rw [HT.out]
      have ho1 := own_keep ho0 hb1
      have hb01 := Below.chain hb0 hb1
      clear ho0 hb0 hb1 h10 h20
      go_wp2
      go_loopw [7] (fun i wr => ∃ k : Nat, k ≤ cs.length ∧ i = .int .i64 k ∧ Hid (∀ j x, j < k → cs[j]? = some x → cellB x = true) ∧ w1 = wr) (fun i _ => cs.length - (intOf i).toNat)
      case atStart => exact ⟨0, by omega, rfl, fun j x hj => by omega, by trivial⟩
      case round =>
        obtain ⟨k, hk, rfl, hbef, rfl⟩ := hrel
        by_cases hlt : k < cs.length
        · have hdd : decide ((k : Int) < (cs.length : Int)) = true := by simp; omega
          obtain ⟨x, hx⟩ := elem_at hlt
          obtain ⟨b2, o2, rfl, f2⟩ := H2.out k x hx.out
          have g2 := cell_later hb01 f2
          clear f2
          go_wp2_with fail
          refine (l2Cell_c _ _).mono ?_
          rintro e w' ⟨rfl, rfl⟩
          rcases hpx : cellB x with _ | _
          · have hno : readOk ds cs = false := by
              simp only [readOk, Bool.and_eq_false_iff]; right; right
              rw [List.all_eq_false]; exact ⟨x, List.mem_of_getElem? hx.out, by simp [hpx]⟩
            have HN := Lib.hid hno; have HP := Lib.hid hpx; clear hpx hno
            go_wp2
            go_ret2
            exact RdPost.no HN.out ho1 hb01
          · have HP := Lib.hid hpx; clear hpx
            go_wp2
            go_roundw
            case rel => exact ⟨k + 1, by omega, by go_num, fun j y hj hy => by
              by_cases hj2 : j < k
              · exact hbef.out j y hj2 hy
              · obtain rfl : j = k := by omega
                rw [hx.out] at hy; obtain rfl := Option.some.inj hy; exact HP.out, by trivial⟩
            case measure => simp [intOf]; omega
        · have hall : cs.all cellB = true := by
            rw [List.all_eq_true]; intro x hx
            obtain ⟨j, hj⟩ := List.mem_iff_getElem?.1 hx
            exact hbef.out j x (by have := (List.getElem?_eq_some_iff.1 hj).1; omega) hj
          have hyes : readOk ds cs = true := by simp [readOk, HT.out, hall, HL.out]
          have HN := Lib.hid hyes; clear hyes hall
          have hdd : decide ((k : Int) < (cs.length : Int)) = false := by simp; omega
          go_wp2_with fail
          refine (l7All_c _).mono ?_
          rintro e w2 ⟨u, rfl, hoA, hbA⟩
          obtain ⟨g, cap, hu, hg0, hg1, _, _⟩ := own_form hoA (by rw [allSt_length]; omega)
          have hA : Pairs w2 u allSt := Pairs.of_own hoA
          have ho2 := own_keep ho1 hbA
          have hb02 := Below.chain hb01 hbA
          have hl15 : allSt.length = 15 := allSt_length
          rw [hl15] at hu
          subst hu
          have hgo : ∀ q, (Value.slice (some ⟨w.heap.size, 0, none⟩) 0 0).ownBlock = some q → q < g := by
            intro q hq; have := (ho1.lt q hq).2; omega
          have hgo2 : w.heap.size < g := hgo _ rfl
          have h12 := h1.below hb02
          have h22 := h2.below hb02
          clear hoA hbA ho1 hb01 hg0 hl15 hgo hlt hbef
          go_wp2
          go_loopw [6, 9] (fun o j wr => ∃ k : Nat, k ≤ 15 ∧ j = .int .i64 (k : Int) ∧ wr.ownsRow w.heap.size 31 2 o (readTo ds cs k).length (flat2 (readTo ds cs k)) ∧ Below w.heap.size w wr ∧ Pairs wr (.slice (some ⟨g, 0, none⟩) 15 cap) allSt ∧ o.ownBlock ≠ some g ∧ g < wr.heap.size) (fun _ j _ => 16 - (intOf j).toNat)
          case atStart => exact ⟨0, by omega, rfl, ho2, hb02, hA, by simp [Value.ownBlock]; omega, hg1⟩
          case round =>
            obtain ⟨k2, hk2, rfl, ho, hb, hP, hne, hgl⟩ := hrel
            clear ho2 hb02 hA hg1
            by_cases hlt : k2 < 15
            · have hdk : decide ((k2 : Int) < 15) = true := by simp; omega
              obtain ⟨s, hs⟩ := elem_at (show k2 < allSt.length by rw [allSt_length]; omega)
              have hok := allSt_ok s (List.mem_of_getElem? hs.out)
              obtain ⟨a0, c0, he, _, _, HA⟩ := hP.parts
              obtain ⟨b2, off2, e2, g0, g1⟩ := HA.out _ _ hs.out
              obtain ⟨rfl, rfl⟩ : b2 = g ∧ off2 = 0 := by
                rw [e2] at he; injection he with h1 _ _; injection h1 with h1; injection h1 with h1 h2 _; exact ⟨h1.symm, h2.symm⟩
              clear he HA e2
              simp only [Nat.zero_add] at g0 g1
              obtain ⟨bar, kind⟩ := s
              have bd := stDL_bd hok
              have h13 := h1.below hb
              have h23 := h2.below hb
              have hsc := readTo_succ ds cs hs.out
              have hle := readTo_le ds cs k2
              generalize readTo ds cs k2 = cur at *
              have HS := Lib.hid hsc; clear hsc h12 h22
              go_wp2_with fail
              refine (l7Fault_c bar kind hok _).mono ?_
              rintro e w3 ⟨rfl, hb3⟩
              unfold faultV
              have h14 := h13.below hb3
              have h24 := h23.below hb3
              go_wp2_with fail
              refine (l3Fits_c _ _ _ _ ds cs _ bd.1 bd.2.1 bd.2.2.1 bd.2.2.2 h14 h24 HL.out.symm (testB_digits HT.out)).mono ?_
              rintro e w4 ⟨rfl, hb4⟩
              have hb34 := Below.chain hb3 hb4
              have g02 := cell_later hb34 g0
              have g12 := cell_later hb34 g1
              have hb5 := Below.chain hb hb34
              have ho2 := own_keep ho hb34
              have hP2 := hP.below hb34
              have hgl2 : b2 < w4.heap.size := Nat.lt_of_lt_of_le hgl hb34.size
              clear ho hb hP hgl g0 g1 hb3 hb4 hb34 h13 h23 h14 h24
              rcases hq : fitsB (stD bar kind) (stL bar kind) ds cs with _ | _
              · have hS2 : readTo ds cs (k2 + 1) = cur := by rw [HS.out]; simp [hq]
                have HS2 := Lib.hid hS2; have HQ := Lib.hid hq; clear hS2 HS hq
                go_wp2
                go_roundw
                case rel => exact ⟨k2 + 1, by omega, by go_num, by rw [HS2.out]; exact ho2, hb5, hP2, hne, hgl2⟩
                case measure => simp [intOf]; omega
              · have hS2 : readTo ds cs (k2 + 1) = cur ++ [(bar, kind)] := by rw [HS.out]; simp [hq]
                have HS2 := Lib.hid hS2; have HQ := Lib.hid hq; clear hS2 HS hq
                go_wp2_with (at_builtin; refine wpList_append_own_at _ rfl _ _ 27 rfl w.heap.size 31 i (.agg #[.int .i64 0, .int .i64 0]) 2 16 Tryz.underlying27 hi hz0 hz1 hz2 rfl (by decide) _ cur.length (flat2 cur) rfl (ho2.alloc _) ⟨w4.heap.size, 0, none⟩ 1 1 [.int .i64 bar, .int .i64 kind] rfl rfl (news_new _ [.int .i64 bar, .int .i64 kind] _) (by simp [Value.oneCell']) (by unfold maxLen; omega) (by omega) (by have := hb5.size; simp; omega) ?_)
                intro v' w5 ho5 hg5 _ hat
                have hb7 : Below w.heap.size w w5 := (Below.alc hb5 _).grown hg5 (by have := hb5.size; simp; omega) (fun g hg => (ho2.lt g hg).1)
                have hP3 : Pairs w5 (.slice (some ⟨b2, 0, none⟩) 15 cap) allSt := (hP2.below (below_one _)).grown hg5 (.inr (by simpa [Value.ownBlock] using (Ne.symm hne)))
                have hne3 : v'.ownBlock ≠ some b2 := by
                  rcases hat with h | h
                  · rw [h]; exact hne
                  · rw [h]; simp; omega
                have hgl3 : b2 < w5.heap.size := Nat.lt_of_lt_of_le (by simp; omega) hg5.size
                clear ho2 hb5 hP2 hne hgl2 hg5 hat g02 g12
                go_wp2
                go_roundw
                case rel => exact ⟨k2 + 1, by omega, by go_num, by rw [HS2.out]; exact ownsRow_cast ho5 (by simp) (flat2_snoc _ _ _).symm, hb7, hP3, hne3, hgl3⟩
                case measure => simp [intOf]; omega
            · obtain rfl : k2 = 15 := by omega
              go_wp2
              go_ret2
              exact RdPost.yes HN.out (by rw [← readTo_all]; exact ho) hb
    · have hno : readOk ds cs = false := by simp [readOk, hl]
      have hlb : ((cs.length : Int) != (ds.length : Int)) = true := by simp; omega
      have HT := Lib.hid ht; have HN := Lib.hid hno; clear ht hno
      go_enter Tryz.func7, Tryz.ntmps7
      go_wp2_with fail
      refine (l7Test_c _ ds _ h10).mono ?_
      rintro e w1 ⟨rfl, hb1⟩
      rw [HT.out]
      go_wp2
      go_ret2
      exact RdPost.no HN.out (own_keep ho0 hb1) (Below.chain hb0 hb1)
end Go.Proofs.YtfbnmkpkihfocaaGreat
namespace Go.Proofs.YtfbnmkpkihfocaaGreat
open Go.RowKit
set_option linter.unusedVariables false
set_option maxRecDepth 100000
def fracN (a b : Nat) : Int := ((a / Nat.gcd a b : Nat) : Int)
def fracD (a b : Nat) : Int := ((b / Nat.gcd a b : Nat) : Int)
def fracV (a b : Nat) : Value := .agg #[.int .i64 (fracN a b), .int .i64 (fracD a b)]
theorem wrapK (n : Int) : IntKind.i64.wrap n = wrap64 n := by
  simp only [IntKind.wrap, IntKind.bits, IntKind.signed, wrap64]; simp; split <;> omega
end Go.Proofs.YtfbnmkpkihfocaaGreat
namespace Go.Proofs.YtfbnmkpkihfocaaGreat
open Go.RowKit
set_option linter.unusedVariables false
set_option maxRecDepth 100000
def dkS (g : Nat → Nat) (k : Int) (n : Nat) : Nat := (((List.range n).filter fun d : Nat => cnt (d : Int) == k).map g).sum
def dkM (k : Int) (n : Nat) : Nat := ((List.range n).filter fun d : Nat => cnt (d : Int) == k).length
theorem dkS_succ (g : Nat → Nat) (k : Int) (n : Nat) : dkS g k (n + 1) = dkS g k n + if cnt (n : Int) == k then g n else 0 := by
  unfold dkS
  rw [List.range_succ, List.filter_append, List.map_append, List.sum_append]
  cases h : cnt (n : Int) == k <;> simp [h]
theorem dkM_succ (k : Int) (n : Nat) : dkM k (n + 1) = dkM k n + if cnt (n : Int) == k then 1 else 0 := by
  unfold dkM
  rw [List.range_succ, List.filter_append, List.length_append]
  cases h : cnt (n : Int) == k <;> simp [h]
theorem dkM_le (k : Int) (n : Nat) : dkM k n ≤ n := by
  unfold dkM; exact Nat.le_trans (List.length_filter_le _ _) (by simp)
theorem dkS_le {g : Nat → Nat} (hg : ∀ d, g d ≤ 10) (k : Int) (n : Nat) : dkS g k n ≤ 10 * n := by
  induction n with
  | zero => simp [dkS]
  | succ n ih => rw [dkS_succ]; have := hg n; split <;> omega
theorem dkM_pos : ∀ k : Fin 8, 0 < dkM (k.1 : Int) 128 := by decide +kernel
end Go.Proofs.YtfbnmkpkihfocaaGreat
namespace Go.Proofs.YtfbnmkpkihfocaaGreat
open Go.RowKit
set_option linter.unusedVariables false
set_option maxRecDepth 100000
theorem OwnSS.parts {w : World} {lo : Nat} {u : Value} {xss : List (List Int)} (h : OwnSS w lo u xss) : ∃ a c, u = .slice a xss.length c ∧ xss.length ≤ 9223372036854775807 ∧
    Hid (∀ k xs, xss[k]? = some xs → ∃ b off a' c', a = some ⟨b, off, none⟩ ∧ w.cell? ⟨b, off + k, none⟩ = some (.slice a' xs.length c') ∧ xs.length ≤ 9223372036854775807 ∧ Ints w (.slice a' xs.length c') xs) := by
  obtain ⟨vs, ho, hi⟩ := h
  have hle := (Sl.of_own ho).le
  obtain ⟨a, c, rfl, h1, h2, h3, h4⟩ := Sl.of_own ho
  refine ⟨a, c, rfl, hle, fun k xs hk => ?_⟩
  have hlt : k < xss.length := (List.getElem?_eq_some_iff.1 hk).1
  obtain ⟨b, off, rfl, hc⟩ := h4 (by omega)
  have hv : vs[k]? = some vs[k] := List.getElem?_eq_getElem (by rw [hi.1]; exact hlt)
  have hown := hi.2.1 k _ _ hv hk
  have hI : Ints w vs[k] xs := Ints.of_own hown
  obtain ⟨a', c', e, _⟩ := hI.parts
  refine ⟨b, off, a', c', rfl, by rw [hc k (by omega), hv, e], ?_, by rw [← e]; exact hI⟩
  exact hI.le
def dkH (kind : Int) (xs : List Int) : Bool := kind == 1 || (kind == 2 && xs.length == 1)
def dkI (kind : Int) (xss : List (List Int)) (i : Nat) : Nat := ((xss.take i).filter (dkH kind)).length
theorem dkI_succ {kind : Int} {xss : List (List Int)} {i : Nat} {xs : List Int} (h : xss[i]? = some xs) : dkI kind xss (i + 1) = dkI kind xss i + if dkH kind xs then 1 else 0 := by
  unfold dkI
  rw [take_snoc h, List.filter_append, List.length_append]
  cases hq : dkH kind xs <;> simp [hq]
theorem dkI_le (kind : Int) (xss : List (List Int)) (i : Nat) : dkI kind xss i ≤ xss.length :=
  Nat.le_trans (List.length_filter_le _ _) (List.length_take_le' _ _)
def dkG (kind : Int) (d : Nat) : Nat := dkI kind (grpL d 0) (grpL d 0).length + if kind == 3 && (grpL d 0).length == 10 then 1 else 0
theorem dkG_le {kind : Int} (hk : kind = 1 ∨ kind = 2 ∨ kind = 3) (d : Nat) : dkG kind d ≤ 10 := by
  have h1 := dkI_le kind (grpL d 0) (grpL d 0).length
  have h2 : (grpL d 0).length ≤ 10 := grpTo_le _ _ _
  unfold dkG
  rcases hk with rfl | rfl | rfl
  · simp; omega
  · simp; omega
  · have : dkI 3 (grpL d 0) (grpL d 0).length = 0 := by unfold dkI; simp [dkH]
    rw [this]; split <;> omega
end Go.Proofs.YtfbnmkpkihfocaaGreat
namespace Go.Proofs.YtfbnmkpkihfocaaGreat
open Go.RowKit
set_option linter.unusedVariables false
set_option maxRecDepth 100000
theorem headD_of {xs : List Int} {x d : Int} (h : xs[0]? = some x) : xs.headD d = x := by cases xs <;> simp_all
theorem grpL_pos {d l : Int} {k : Nat} {xs : List Int} (h : (grpL d l)[k]? = some xs) : 0 < xs.length := by
  have hm := List.mem_of_getElem? h
  unfold grpL grpTo at hm
  simp only [List.mem_map, List.mem_filter] at hm
  obtain ⟨x, ⟨hx, _⟩, rfl⟩ := hm
  obtain ⟨n, hn, hxn⟩ := List.getElem_of_mem hx
  have hn10 : n < 10 := by rw [List.length_take] at hn; omega
  rw [List.getElem_take] at hxn
  have hx2 : x = (n : Int) := by
    have := tenI_at hn10
    rw [List.getElem?_eq_getElem (by simp [tenI]; omega), hxn] at this
    simpa using this
  subst hx2
  have h0 := grpOf_head (d := d) (l := l) hn10
  exact (List.getElem?_eq_some_iff.1 h0).1
def toldTo (xss : List (List Int)) (k : Nat) : List Int := ((xss.take k).filter fun xs => xs.length == 1).map fun xs => xs.headD 0
theorem toldTo_succ {xss : List (List Int)} {k : Nat} {xs : List Int} (h : xss[k]? = some xs) : toldTo xss (k + 1) = toldTo xss k ++ if xs.length == 1 then [xs.headD 0] else [] := by
  unfold toldTo
  rw [take_snoc h, List.filter_append, List.map_append]
  cases hq : xs.length == 1 <;> simp [hq]
theorem toldTo_len (xss : List (List Int)) (k : Nat) : (toldTo xss k).length = dkI 2 xss k := by
  unfold toldTo dkI; rw [List.length_map]; congr 2
theorem toldTo_le (xss : List (List Int)) (k : Nat) : (toldTo xss k).length ≤ xss.length := by rw [toldTo_len]; exact dkI_le _ _ _
def tdL (d l : Int) : List Int := if faultB d l then toldTo (grpL d l) (grpL d l).length else []
theorem tdL_le (d l : Int) : (tdL d l).length ≤ 10 := by
  unfold tdL; split
  · exact Nat.le_trans (toldTo_le _ _) (grpTo_le _ _ _)
  · simp
end Go.Proofs.YtfbnmkpkihfocaaGreat
namespace Go.Proofs.YtfbnmkpkihfocaaGreat
open Go.RowKit
set_option linter.unusedVariables false
set_option maxRecDepth 100000
/-- a cell whose bars stand elsewhere -/
def permC (p : List Nat) (c : Int) : Int := (((List.range 7).foldl (fun o k => o + c.toNat / 2 ^ (p.getD k 0) % 2 * 2 ^ k) 0 : Nat) : Int)
def mvC (t : Bool) (c : Int) : Int := permC (if t then [3, 4, 5, 0, 1, 2, 6] else [0, 5, 4, 3, 2, 1, 6]) c
theorem mvC_all : ∀ n : Fin 128, ∀ t : Bool, 0 ≤ mvC t (n.1 : Int) ∧ mvC t (n.1 : Int) ≤ 127 := by decide +kernel
theorem mvC_bd {c : Int} (t : Bool) (h0 : 0 ≤ c) (h1 : c ≤ 127) : 0 ≤ mvC t c ∧ mvC t c ≤ 127 := by
  obtain ⟨n, rfl⟩ := Int.eq_ofNat_of_zero_le h0
  exact mvC_all ⟨n, by omega⟩ t
theorem mvT_i : ∀ n : Nat, n < 128 → (bits BinOp.or IntKind.i64 (bits BinOp.or IntKind.i64 (bits BinOp.or IntKind.i64 (bits BinOp.or IntKind.i64 (bits BinOp.or IntKind.i64 (bits BinOp.or IntKind.i64 (bits BinOp.or IntKind.i64 0 (wrap64 (bits BinOp.and IntKind.i64 (n : Int) 1 * 8))) (wrap64 (bits BinOp.and IntKind.i64 ((n : Int) / 2) 1 * 16))) (wrap64 (bits BinOp.and IntKind.i64 ((n : Int) / 4) 1 * 32))) (wrap64 (bits BinOp.and IntKind.i64 ((n : Int) / 8) 1))) (wrap64 (bits BinOp.and IntKind.i64 ((n : Int) / 16) 1 * 2))) (wrap64 (bits BinOp.and IntKind.i64 ((n : Int) / 32) 1 * 4))) (wrap64 (bits BinOp.and IntKind.i64 ((n : Int) / 64) 1 * 64))) = mvC true (n : Int) := by decide +kernel
theorem mvM_i : ∀ n : Nat, n < 128 → (bits BinOp.or IntKind.i64 (bits BinOp.or IntKind.i64 (bits BinOp.or IntKind.i64 (bits BinOp.or IntKind.i64 (bits BinOp.or IntKind.i64 (bits BinOp.or IntKind.i64 (bits BinOp.or IntKind.i64 0 (wrap64 (bits BinOp.and IntKind.i64 (n : Int) 1))) (wrap64 (bits BinOp.and IntKind.i64 ((n : Int) / 2) 1 * 32))) (wrap64 (bits BinOp.and IntKind.i64 ((n : Int) / 4) 1 * 16))) (wrap64 (bits BinOp.and IntKind.i64 ((n : Int) / 8) 1 * 8))) (wrap64 (bits BinOp.and IntKind.i64 ((n : Int) / 16) 1 * 4))) (wrap64 (bits BinOp.and IntKind.i64 ((n : Int) / 32) 1 * 2))) (wrap64 (bits BinOp.and IntKind.i64 ((n : Int) / 64) 1 * 64))) = mvC false (n : Int) := by decide +kernel
theorem mvT_s : ∀ n : Nat, n < 128 → (bits BinOp.or IntKind.i64 (bits BinOp.or IntKind.i64 (bits BinOp.or IntKind.i64 (bits BinOp.or IntKind.i64 (bits BinOp.or IntKind.i64 (bits BinOp.or IntKind.i64 (bits BinOp.or IntKind.i64 0 (wrap64 (bits BinOp.and IntKind.i64 ((n : Int) / 8) 1))) (wrap64 (bits BinOp.and IntKind.i64 ((n : Int) / 16) 1 * 2))) (wrap64 (bits BinOp.and IntKind.i64 ((n : Int) / 32) 1 * 4))) (wrap64 (bits BinOp.and IntKind.i64 (n : Int) 1 * 8))) (wrap64 (bits BinOp.and IntKind.i64 ((n : Int) / 2) 1 * 16))) (wrap64 (bits BinOp.and IntKind.i64 ((n : Int) / 4) 1 * 32))) (wrap64 (bits BinOp.and IntKind.i64 ((n : Int) / 64) 1 * 64))) = mvC true (n : Int) := by decide +kernel
theorem mvM_s : ∀ n : Nat, n < 128 → (bits BinOp.or IntKind.i64 (bits BinOp.or IntKind.i64 (bits BinOp.or IntKind.i64 (bits BinOp.or IntKind.i64 (bits BinOp.or IntKind.i64 (bits BinOp.or IntKind.i64 (bits BinOp.or IntKind.i64 0 (wrap64 (bits BinOp.and IntKind.i64 (n : Int) 1))) (wrap64 (bits BinOp.and IntKind.i64 ((n : Int) / 32) 1 * 2))) (wrap64 (bits BinOp.and IntKind.i64 ((n : Int) / 16) 1 * 4))) (wrap64 (bits BinOp.and IntKind.i64 ((n : Int) / 8) 1 * 8))) (wrap64 (bits BinOp.and IntKind.i64 ((n : Int) / 4) 1 * 16))) (wrap64 (bits BinOp.and IntKind.i64 ((n : Int) / 2) 1 * 32))) (wrap64 (bits BinOp.and IntKind.i64 ((n : Int) / 64) 1 * 64))) = mvC false (n : Int) := by decide +kernel
end Go.Proofs.YtfbnmkpkihfocaaGreat
namespace Go.Proofs.YtfbnmkpkihfocaaGreat
open Go.RowKit
set_option linter.unusedVariables false
set_option linter.unusedSimpArgs false
set_option maxRecDepth 100000
def coV (d : Int) : Value := .tuple #[.int .i64 (if digitB d then dg d else 0), .bool (digitB d)]
theorem CellOf_c (d : Int) (w : World) : Calls Tryz.prog 20 #[.int .i64 d] w fun e w' => e = .returned (coV d) ∧ Below w.heap.size w w' := by
  rcases hq : digitB d with _ | _
  · have HF := Lib.hid (show coV d = .tuple #[.int .i64 0, .bool false] by simp [coV, hq])
    have HQ := Lib.hid hq; clear hq
    go_enter Tryz.func20, Tryz.ntmps20
    go_wp2_with fail
    refine (isDigit_c d _).mono ?_
    rintro e w1 ⟨rfl, rfl⟩
    rw [HQ.out]
    go_wp2
    go_ret2
    exact ⟨by rw [HF.out]; rfl, by (repeat (first | exact Below.refl _ _ | exact (Below.refl _ _).drew | assumption | exact below_one _ | refine Below.chain ?_ (by assumption) | refine Below.drew ?_ | refine Below.alc ?_ _ | refine below_drewN ?_ | (refine Below.setCell ?_ ?_ _) | exact Nat.le_refl _ | (simp; done) | (simp; omega)))⟩
  · have HF := Lib.hid (show coV d = .tuple #[.int .i64 (dg d), .bool true] by simp [coV, hq])
    have hd := digitB_true hq
    have h0 := hd.1; have h1 := hd.2
    have hix := fun w => index_dig d h0 h1 w
    have HQ := Lib.hid hq; clear hq
    go_enter Tryz.func20, Tryz.ntmps20
    go_wp2_with fail
    refine (isDigit_c d _).mono ?_
    rintro e w1 ⟨rfl, rfl⟩
    rw [HQ.out]
    go_wp2_with fail
    refine (digitCells_c _).mono ?_
    rintro e w2 ⟨rfl, hb2⟩
    go_wp2
    go_ret2
    exact ⟨by rw [HF.out]; rfl, by (repeat (first | exact Below.refl _ _ | exact (Below.refl _ _).drew | assumption | exact below_one _ | refine Below.chain ?_ (by assumption) | refine Below.drew ?_ | refine Below.alc ?_ _ | refine below_drewN ?_ | (refine Below.setCell ?_ ?_ _) | exact Nat.le_refl _ | (simp; done) | (simp; omega)))⟩
def scOk (d l c : Int) : Bool := faultB d l && cellB c
def scV (d l c : Int) : Value := .tuple #[.int .i64 (if scOk d l c then shC d l c else 0), .bool (scOk d l c)]
theorem ShownCell_c (d l c : Int) (w : World) : Calls Tryz.prog 21 #[.agg #[.int .i64 d, .int .i64 l], .int .i64 c] w fun e w' => e = .returned (scV d l c) ∧ Below w.heap.size w w' := by
  rcases hq : faultB d l with _ | _
  · have HF := Lib.hid (show scV d l c = .tuple #[.int .i64 0, .bool false] by simp [scV, scOk, hq])
    have HQ := Lib.hid hq; clear hq
    go_enter Tryz.func21, Tryz.ntmps21
    go_wp2_with fail
    refine (IsFault_c d l _).mono ?_
    rintro e w1 ⟨rfl, hb1⟩
    rw [HQ.out]
    have q0 := (box_after hb1).1 0 _ rfl
    have q1 := (box_after hb1).1 1 _ rfl
    have hb2 := Below.chain (below_one _) hb1
    clear hb1
    go_wp2
    go_ret2
    exact ⟨by rw [HF.out]; rfl, by (repeat (first | exact Below.refl _ _ | exact (Below.refl _ _).drew | assumption | exact below_one _ | refine Below.chain ?_ (by assumption) | refine Below.drew ?_ | refine Below.alc ?_ _ | refine below_drewN ?_ | (refine Below.setCell ?_ ?_ _) | exact Nat.le_refl _ | (simp; done) | (simp; omega)))⟩
  · rcases hc : cellB c with _ | _
    · have HF := Lib.hid (show scV d l c = .tuple #[.int .i64 0, .bool false] by simp [scV, scOk, hc])
      have HQ := Lib.hid hq; clear hq
      have HC := Lib.hid hc; clear hc
      go_enter Tryz.func21, Tryz.ntmps21
      go_wp2_with fail
      refine (IsFault_c d l _).mono ?_
      rintro e w1 ⟨rfl, hb1⟩
      rw [HQ.out]
      have q0 := (box_after hb1).1 0 _ rfl
      have q1 := (box_after hb1).1 1 _ rfl
      have hb2 := Below.chain (below_one _) hb1
      clear hb1
      go_wp2_with fail
      refine (IsCell_c c _).mono ?_
      rintro e w1 ⟨rfl, rfl⟩
      rw [HC.out]
      go_wp2
      go_ret2
      exact ⟨by rw [HF.out]; rfl, by (repeat (first | exact Below.refl _ _ | exact (Below.refl _ _).drew | assumption | exact below_one _ | refine Below.chain ?_ (by assumption) | refine Below.drew ?_ | refine Below.alc ?_ _ | refine below_drewN ?_ | (refine Below.setCell ?_ ?_ _) | exact Nat.le_refl _ | (simp; done) | (simp; omega)))⟩
    · have HF := Lib.hid (show scV d l c = .tuple #[.int .i64 (shC d l c), .bool true] by simp [scV, scOk, hc, hq])
      have bd := faultB_true hq
      have bc := cellB_true hc
      have HQ := Lib.hid hq; clear hq
      have HC := Lib.hid hc; clear hc
      go_enter Tryz.func21, Tryz.ntmps21
      go_wp2_with fail
      refine (IsFault_c d l _).mono ?_
      rintro e w1 ⟨rfl, hb1⟩
      rw [HQ.out]
      have q0 := (box_after hb1).1 0 _ rfl
      have q1 := (box_after hb1).1 1 _ rfl
      have hb2 := Below.chain (below_one _) hb1
      clear hb1
      go_wp2_with fail
      refine (IsCell_c c _).mono ?_
      rintro e w1 ⟨rfl, rfl⟩
      rw [HC.out]
      go_wp2_with fail
      refine (shown_c d l c bd.1 bd.2.1 bd.2.2.1 bd.2.2.2.1 bc.1 bc.2 _).mono ?_
      rintro e w3 ⟨rfl, hb3⟩
      have hb4 := Below.chain hb2 hb3
      go_wp2
      go_ret2
      exact ⟨by rw [HF.out]; rfl, by (repeat (first | exact Below.refl _ _ | exact (Below.refl _ _).drew | assumption | exact below_one _ | refine Below.chain ?_ (by assumption) | refine Below.drew ?_ | refine Below.alc ?_ _ | refine below_drewN ?_ | (refine Below.setCell ?_ ?_ _) | exact Nat.le_refl _ | (simp; done) | (simp; omega)))⟩
def dsL (d l c : Int) : List Int := if scOk d l c then digL d l c else []
theorem dsL_le (d l c : Int) : (dsL d l c).length ≤ 10 := by
  unfold dsL; split
  · exact digL_le _ _ _
  · simp
def ciV (d l : Int) : Value := .tuple #[.int .i64 (if faultB d l then ((grpL d l).length : Int) else 0), .bool (faultB d l)]
def ihV (d l : Int) : Value := .tuple #[.bool (faultB d l && decide ((grpL d l).length = 10)), .bool (faultB d l)]
end Go.Proofs.YtfbnmkpkihfocaaGreat
namespace Go.Proofs.YtfbnmkpkihfocaaGreat
open Go.RowKit
theorem Bk.two' {w : World} {g t : Nat} {a b : Value} (h : Bk w g t #[a, b]) : w.cell? ⟨g, 0, none⟩ = some a ∧ w.cell? ⟨g, 1, none⟩ = some b ∧ w.frozen? ⟨g, 0, none⟩ = false ∧ w.frozen? ⟨g, 1, none⟩ = false := ⟨h.cell 0, h.cell 1, h.frozen 0, h.frozen 1⟩
theorem two_below' {w W : World} {b : Nat} (h : Below w.heap.size w W) (hb : w.heap.size ≤ b) (X Y : Value) : Below w.heap.size w ((W.setCell ⟨b, 0, none⟩ X).setCell ⟨b, 1, none⟩ Y) :=
  (h.setCell (p := ⟨b, 0, none⟩) hb _).setCell (p := ⟨b, 1, none⟩) hb _
theorem chain_back {w a b : World} (k : Below a.heap.size a b) (h : Below w.heap.size w a) : Below w.heap.size w b := Below.chain h k
end Go.Proofs.YtfbnmkpkihfocaaGreat
namespace Go.Proofs.YtfbnmkpkihfocaaGreat
open Go.RowKit
set_option linter.unusedVariables false
set_option linter.unusedSimpArgs false
set_option maxRecDepth 100000

theorem cell_c (g m : Nat) (w : World) (h : CurAt w g m) (hm : m + 20 < 4611686018427387904) :
    Calls Tryz.prog 26 #[.pointer (some ⟨g, 0, none⟩)] w (DrawI w g (m + 20) fun _ => True) := by
  have HC := Lib.hid h
  clear h
  go_enter Tryz.func26, Tryz.ntmps26
  go_wp2_with fail
  refine (pick_c 40 g m _ HC.out (by omega)).mono ?_
  rintro e w1 ⟨x, rfl, hx, hs⟩
  have HS := Lib.hid hs
  clear hs hx
  have A1 := Lib.hid (fun xs hp hl => amongL_c xs g (m + 2) w1 _ rfl HS.out.cur (by omega) hp hl)
  have O1 := Lib.hid (fun n => one_c n g (m + 2) w1 HS.out.cur (by omega))
  by_cases e0 : x = 0
  · subst e0
    go_wp2_with fail
    refine (A1.out [-1, 128, 4611686018427387904] (by decide) (by decide)).mono ?_
    rintro e w2 ⟨y, rfl, hy, hs⟩
    have HS2 := Lib.hid (HS.out.trans hs)
    clear hs hy
    go_wp2
    go_ret
    exact ⟨_, rfl, trivial, HS2.out.mono (by omega)⟩
  · by_cases e1 : x = 1 ∨ x = 2 ∨ x = 3
    · rcases e1 with rfl | rfl | rfl <;>
      · go_wp2_with fail
        refine (A1.out [0, 127, 64] (by decide) (by decide)).mono ?_
        rintro e w2 ⟨y, rfl, hy, hs⟩
        have HS2 := Lib.hid (HS.out.trans hs)
        clear hs hy
        go_wp2
        go_ret
        exact ⟨_, rfl, trivial, HS2.out.mono (by omega)⟩
    · have e1' : ¬ x = 1 := fun h => e1 (.inl h)
      have e2' : ¬ x = 2 := fun h => e1 (.inr (.inl h))
      have e3' : ¬ x = 3 := fun h => e1 (.inr (.inr h))
      clear e1
      go_wp2_with fail
      refine (O1.out 3).mono ?_
      rintro e w2 ⟨b, rfl, hs⟩
      have HS2 := Lib.hid (HS.out.trans hs)
      clear hs
      cases b with
      | true =>
        go_wp2_with fail
        refine (pick_c 128 g (m + 4) _ HS2.out.cur (by omega)).mono ?_
        rintro e w3 ⟨y, rfl, hy, hs⟩
        have HS3 := Lib.hid (HS2.out.trans hs)
        clear hs hy
        go_wp2
        go_ret
        exact ⟨_, rfl, trivial, HS3.out.mono (by omega)⟩
      | false =>
        go_wp2_with fail
        refine (pick_c 10 g (m + 4) _ HS2.out.cur (by omega)).mono ?_
        rintro e w3 ⟨y, rfl, hy, hs⟩
        have HS3 := Lib.hid (HS2.out.trans hs)
        have y0 := hy.1
        have y1 := hy.2 (by omega)
        clear hs hy
        go_wp2_with fail
        refine (l2Digit_c y y0 (by omega) _).mono ?_
        rintro e w4 ⟨rfl, hb⟩
        have HS4 := Lib.hid (HS3.out.below hb)
        clear hb
        go_wp2_with fail
        refine (one_c 5 g (m + 6) _ HS4.out.cur (by omega)).mono ?_
        rintro e w5 ⟨b, rfl, hs⟩
        have HS5 := Lib.hid (HS4.out.trans hs)
        clear hs
        cases b with
        | false =>
          go_wp2
          go_ret
          exact ⟨_, rfl, trivial, HS5.out.mono (by omega)⟩
        | true =>
          go_wp2_with fail
          refine (pick_c 7 g (m + 8) _ HS5.out.cur (by omega)).mono ?_
          rintro e w6 ⟨z, rfl, hz, hs⟩
          have HS6 := Lib.hid (HS5.out.trans hs)
          obtain ⟨k, rfl⟩ := Int.eq_ofNat_of_zero_le hz.1
          have z1 : k < 7 := by have := hz.2 (by omega); omega
          clear hs hz
          go_wp2
          go_ret
          exact ⟨_, rfl, trivial, HS6.out.mono (by omega)⟩

/-- What a draw of a slice of ints gives. -/
def DrawS (w : World) (g m n : Nat) (e : Ending) (w' : World) : Prop :=
  ∃ (v : Value) (xs : List Int), e = .returned v ∧ xs.length ≤ n ∧ w'.ownsRow w.heap.size 3 1 v xs.length (xs.map (Value.int .i64)) ∧ CStep w w' g m
theorem DrawS.mono {w : World} {g m m' n n' : Nat} {e : Ending} {w' : World} (h : DrawS w g m n e w') (hm : m ≤ m') (hn : n ≤ n') : DrawS w g m' n' e w' := by
  obtain ⟨v, xs, h1, h2, h3, h4⟩ := h
  exact ⟨v, xs, h1, by omega, h3, h4.mono hm⟩
/-- behind an append to a row of the call's own -/
theorem CStep.grown {a b c : World} {g m : Nat} {r : Option Nat} (h : CStep a b g m) (hg : b.grownBy c r) (hga : g < a.heap.size) (hr : ∀ k, r = some k → a.heap.size ≤ k) : CStep a c g m :=
  ⟨⟨hg.os.trans h.gr.os, hg.tape.trans h.gr.tape, hg.output.trans h.gr.output, Nat.le_trans h.gr.size hg.size, fun i hi hne => (hg.block i (Nat.lt_of_lt_of_le hi h.gr.size) (fun e => by
    have := hr i e.symm; omega)).trans (h.gr.block i hi hne)⟩, h.cur.grown hg (fun k hk => by have := hr k hk; omega)⟩
theorem row_start (w : World) (lo : Nat) (h : lo ≤ w.heap.size) : (w.alloc (.cells #[] 3)).ownsRow lo 3 1 (.slice (some ⟨w.heap.size, 0, none⟩) 0 0) ([] : List Int).length (([] : List Int).map (Value.int .i64)) :=
  World.ownsRow_lit (e := 3) (size := 1) (base := lo) w #[] 0 h (by decide) rfl
/-- What a draw of a Fault gives. -/
def DrawF (w : World) (g m : Nat) (e : Ending) (w' : World) : Prop := ∃ d l : Int, e = .returned (.agg #[.int .i64 d, .int .i64 l]) ∧ CStep w w' g m
theorem CStep.store {a b : World} {g m : Nat} (h : CStep a b g m) (hga : g < a.heap.size) {p : Addr} (hp : a.heap.size ≤ p.block) (v : Value) : CStep a (b.setCell p v) g m :=
  ⟨⟨h.gr.os, h.gr.tape, h.gr.output, by have := h.gr.size; simp [World.setCell]; exact this, fun k hk hne => (Below.heap_setCell _ _ _ _ (by omega)).trans (h.gr.block k hk hne)⟩, h.cur.blocks fun k hk => Below.heap_setCell _ _ _ _ (by omega)⟩
theorem Bk.step {a b : World} {g m k t : Nat} {cs : Array Value} (h : Bk a k t cs) (hs : CStep a b g m) (hk : k ≠ g) : Bk b k t cs := h.keep (hs.gr.block k h.lt (fun e => hk (by cases e; rfl)))
theorem two_res {W : World} {b t : Nat} {a c : Value} (h : Bk W b t #[a, c]) (X Y : Value) :
    ((W.setCell ⟨b, 0, none⟩ X).setCell ⟨b, 1, none⟩ Y).cell? ⟨b, 0, none⟩ = some X ∧ ((W.setCell ⟨b, 0, none⟩ X).setCell ⟨b, 1, none⟩ Y).cell? ⟨b, 1, none⟩ = some Y := by
  have h2 := (h.set 0 X).set 1 Y
  exact ⟨h2.cell 0, h2.cell 1⟩
end Go.Proofs.YtfbnmkpkihfocaaGreat
