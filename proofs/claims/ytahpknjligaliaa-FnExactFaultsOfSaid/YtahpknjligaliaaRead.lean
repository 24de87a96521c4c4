/- Walks of the functions that tell whether digits show cells under a fault, and the states under which they do. -/
import Derived.Test.YtahpknjligaliaaStates2
namespace Go.Proofs.Ytahpknjligaliaa
open Go.RowKit
set_option linter.unusedVariables false
set_option maxRecDepth 100000
/-- the first k digits show the first k cells -/
def fitsTo (d l : Int) (ds cs : List Int) (k : Nat) : Bool := ((ds.zip cs).take k).all fun p => shC d l (dg p.1) == p.2
def fitsB (d l : Int) (ds cs : List Int) : Bool := fitsTo d l ds cs ds.length
theorem fitsTo_zero (d l : Int) (ds cs : List Int) : fitsTo d l ds cs 0 = true := rfl
theorem fitsTo_succ {d l : Int} {ds cs : List Int} {k : Nat} {x c : Int} (hx : ds[k]? = some x) (hc : cs[k]? = some c) : fitsTo d l ds cs (k + 1) = (fitsTo d l ds cs k && (shC d l (dg x) == c)) := by
  have h : (ds.zip cs)[k]? = some (x, c) := by rw [List.getElem?_zip_eq_some]; exact ⟨hx, hc⟩
  unfold fitsTo
  rw [take_snoc h, List.all_append]; simp
theorem fitsB_false {d l : Int} {ds cs : List Int} {k : Nat} {x c : Int} (hx : ds[k]? = some x) (hc : cs[k]? = some c) (h : (shC d l (dg x) == c) = false) : fitsB d l ds cs = false := by
  unfold fitsB fitsTo
  rw [List.all_eq_false]
  have h2 : (ds.zip cs)[k]? = some (x, c) := by rw [List.getElem?_zip_eq_some]; exact ⟨hx, hc⟩
  have hl := (List.getElem?_eq_some_iff.1 hx).1
  refine ⟨(x, c), ?_, by simpa using h⟩
  apply List.mem_of_getElem? (i := k)
  rw [List.getElem?_take, if_pos hl]; exact h2
theorem bne_of_beq {a b : Int} {r : Bool} (h : (a == b) = r) : (a != b) = !r := by rw [bne, h]
/-- all digits -/
def digitsB (ds : List Int) : Bool := ds.all digitB
theorem digits_at {ds : List Int} (h : digitsB ds = true) {k : Nat} {x : Int} (hx : ds[k]? = some x) : 0 ≤ x ∧ x ≤ 9 :=
  digitB_true (List.all_eq_true.1 h x (List.mem_of_getElem? hx))
theorem testB_digits {xs : List Int} (h : testB xs = true) : digitsB xs = true := by
  simp only [testB, Bool.and_eq_true] at h; exact h.2

theorem l3Fits_c (d l : Int) (v1 v2 : Value) (ds cs : List Int) (w : World) (d0 : 0 ≤ d) (d1 : d ≤ 127) (l0 : 0 ≤ l) (l1 : l ≤ 127) (h1 : Ints w v1 ds) (h2 : Ints w v2 cs) (hl : ds.length = cs.length) (hd : digitsB ds = true) :
    Calls Try.prog 154 #[.agg #[.int .i64 d, .int .i64 l], v1, v2] w fun e w' => e = .returned (.bool (fitsB d l ds cs)) ∧ Below w.heap.size w w' := by
  have hm1 := h1.le; have hm2 := h2.le
  obtain ⟨a1, c1, rfl, _, _, H1⟩ := h1.parts
  obtain ⟨a2, c2, rfl, _, _, H2⟩ := h2.parts
  have q0 : (w.alloc (.cells #[.int .i64 d, .int .i64 l] 65)).cell? ⟨w.heap.size, 0, none⟩ = some (.int .i64 d) := by rw [World.cell?_alloc_at _ _ _ _ rfl]; rfl
  have q1 : (w.alloc (.cells #[.int .i64 d, .int .i64 l] 65)).cell? ⟨w.heap.size, 1, none⟩ = some (.int .i64 l) := by rw [World.cell?_alloc_at _ _ _ _ rfl]; rfl
  have hb0 := below_one (w := w) (.cells #[.int .i64 d, .int .i64 l] 65)
  have HL := Lib.hid hl; clear hl
  go_enter Try.func154, Try.ntmps154
  go_wp2
  go_loopw [7] (fun i wr => ∃ k : Nat, k ≤ ds.length ∧ i = .int .i64 k ∧ Hid (fitsTo d l ds cs k = true) ∧ Below w.heap.size w wr ∧ wr.cell? ⟨w.heap.size, 0, none⟩ = some (.int .i64 d) ∧ wr.cell? ⟨w.heap.size, 1, none⟩ = some (.int .i64 l)) (fun i _ => ds.length - (intOf i).toNat)
  case atStart => exact ⟨0, by omega, rfl, fitsTo_zero _ _ _ _, hb0, q0, q1⟩
  case round =>
    obtain ⟨k, hk, rfl, hbef, hb, g0, g1⟩ := hrel
    clear q0 q1 hb0
    by_cases hlt : k < ds.length
    · have hlt2 : k < cs.length := by rw [← HL.out]; exact hlt
      have hdd : decide ((k : Int) < (ds.length : Int)) = true := by simp; omega
      obtain ⟨x, hx⟩ := elem_at hlt
      obtain ⟨y, hy⟩ := elem_at hlt2
      obtain ⟨b1, o1, rfl, f1⟩ := H1.out k x hx.out
      obtain ⟨b2, o2, rfl, f2⟩ := H2.out k y hy.out
      have g2 := cell_later hb f1
      have g3 := cell_later hb f2
      have hxd := digits_at hd hx.out
      have bdx := dg_bd x
      have hx0 := hxd.1; have hx1 := hxd.2
      clear h1 h2 f1 f2 hxd
      go_wp2_with fail
      go_region_held3 (fun w' => w'.cell? ⟨w.heap.size, 0, none⟩ = some (.int .i64 d) ∧ w'.cell? ⟨w.heap.size, 1, none⟩ = some (.int .i64 l) ∧ w'.cell? ⟨b1, o1 + k, none⟩ = some (.int .i64 x) ∧ w'.cell? ⟨b2, o2 + k, none⟩ = some (.int .i64 y))
        (first | go_keep | (go_split_ands; exact ⟨cell_later (by assumption) (by assumption), cell_later (by assumption) (by assumption), cell_later (by assumption) (by assumption), cell_later (by assumption) (by assumption)⟩))
        (first | (go_at_call 182; refine (l2Digit_c x hx0 hx1 _).mono ?_; rintro e w' ⟨rfl, hb2⟩) | (go_at_call 137; refine (l3Shown_c d l (dg x) d0 d1 l0 l1 bdx.1 bdx.2 _).mono ?_; rintro e w' ⟨rfl, hb3⟩))
      go_split_ands
      have hb4 : Below w.heap.size w _ := Below.chain (Below.chain hb.drew hb2) hb3
      rcases hq : (shC d l (dg x) == y) with _ | _
      · have hq2 := bne_of_beq hq
        have HQ := Lib.hid hq; clear hq
        simp only [Bool.not_false] at hq2
        go_wp2
        go_ret
        exact ⟨bool_ret (fitsB_false hx.out hy.out HQ.out).symm, hb4⟩
      · have hq2 := bne_of_beq hq
        have HQ := Lib.hid hq; clear hq
        simp only [Bool.not_true] at hq2
        go_wp2
        go_roundw
        case rel => exact ⟨k + 1, by omega, by go_num, by rw [fitsTo_succ hx.out hy.out, hbef.out, HQ.out]; rfl, hb4, by assumption, by assumption⟩
        case measure => simp [intOf]; omega
    · obtain rfl : k = ds.length := by omega
      go_wp2
      go_ret
      exact ⟨bool_ret hbef.out.symm, hb⟩

/-- the states under which a test shows cells -/
def readSt (ds cs : List Int) : List (Int × Int) := allSt.filter fun s => fitsB (stD s.1 s.2) (stL s.1 s.2) ds cs
def readOk (ds cs : List Int) : Bool := testB ds && (decide (cs.length = ds.length) && cs.all cellB)
def readL (ds cs : List Int) : List (Int × Int) := if readOk ds cs then readSt ds cs else []
theorem readL_le (ds cs : List Int) : (readL ds cs).length ≤ 15 := by
  unfold readL; split
  · exact Nat.le_trans (List.length_filter_le _ _) (by decide)
  · simp
def RdPost (w : World) (ds cs : List Int) (e : Ending) (w' : World) : Prop :=
  ∃ u, e = .returned (.tuple #[u, .bool (readOk ds cs)]) ∧ w'.ownsRow w.heap.size 41 2 u (readL ds cs).length (flat2 (readL ds cs)) ∧ Below w.heap.size w w'
theorem RdPost.no {w w' : World} {ds cs : List Int} {u : Value} (ht : readOk ds cs = false) (ho : w'.ownsRow w.heap.size 41 2 u 0 []) (hb : Below w.heap.size w w') : RdPost w ds cs (.returned (.tuple #[u, .bool false])) w' := by
  refine ⟨u, by rw [ht], ?_, hb⟩
  simpa [readL, ht, flat2_nil] using ho
theorem RdPost.yes {w w' : World} {ds cs : List Int} {u : Value} (ht : readOk ds cs = true) (ho : w'.ownsRow w.heap.size 41 2 u (readSt ds cs).length (flat2 (readSt ds cs))) (hb : Below w.heap.size w w') : RdPost w ds cs (.returned (.tuple #[u, .bool true])) w' := by
  refine ⟨u, by rw [ht], ?_, hb⟩
  simpa [readL, ht] using ho
theorem ReadStatesF_c (bar kind : Int) (p1 p2 : Addr) (s1 s2 : Value) (ds cs : List Int) (w : World) (hst : stateB bar kind = true) (q1 : w.cell? p1 = some s1) (q2 : w.cell? p2 = some s2) (e1 : p1 = ⟨p1.block, 0, none⟩) (e2 : p2 = ⟨p2.block, 0, none⟩)
    (h1 : Ints w s1 ds) (h2 : Ints w s2 cs) (hl : ds.length = cs.length) (hd : digitsB ds = true) :
    Calls Try.prog 171 #[.agg #[.int .i64 bar, .int .i64 kind], .pointer (some p1), .pointer (some p2)] w fun e w' => e = .returned (.bool (fitsB (stD bar kind) (stL bar kind) ds cs)) ∧ Below w.heap.size w w' := by
  obtain ⟨pb1, po1, ps1⟩ := p1
  obtain ⟨pb2, po2, ps2⟩ := p2
  simp only [Addr.mk.injEq, true_and] at e1 e2
  obtain ⟨rfl, rfl⟩ := e1
  obtain ⟨rfl, rfl⟩ := e2
  have bd := stDL_bd hst
  have hm1 := h1.le; have hm2 := h2.le
  obtain ⟨a1, c1, rfl, _, _, H1⟩ := h1.parts
  obtain ⟨a2, c2, rfl, _, _, H2⟩ := h2.parts
  have hb0 := below_one (w := w) (.cells #[.int .i64 bar, .int .i64 kind] 41)
  have q10 := cell_later hb0 q1
  have q20 := cell_later hb0 q2
  have r0 : (w.alloc (.cells #[.int .i64 bar, .int .i64 kind] 41)).cell? ⟨w.heap.size, 0, none⟩ = some (.int .i64 bar) := by rw [World.cell?_alloc_at _ _ _ _ rfl]; rfl
  have r1 : (w.alloc (.cells #[.int .i64 bar, .int .i64 kind] 41)).cell? ⟨w.heap.size, 1, none⟩ = some (.int .i64 kind) := by rw [World.cell?_alloc_at _ _ _ _ rfl]; rfl
  have HL := Lib.hid hl; clear hl
  go_enter Try.func171, Try.ntmps171
  go_wp2
  go_loopw [9, 5, 6] (fun i _ _ wr => ∃ k : Nat, k ≤ ds.length ∧ i = .int .i64 k ∧ Hid (fitsTo (stD bar kind) (stL bar kind) ds cs k = true) ∧ Below w.heap.size w wr ∧ wr.cell? ⟨w.heap.size, 0, none⟩ = some (.int .i64 bar) ∧ wr.cell? ⟨w.heap.size, 1, none⟩ = some (.int .i64 kind) ∧ wr.cell? ⟨pb1, 0, none⟩ = some (.slice a1 ds.length c1) ∧ wr.cell? ⟨pb2, 0, none⟩ = some (.slice a2 cs.length c2)) (fun i _ _ _ => ds.length - (intOf i).toNat)
  case atStart => exact ⟨0, by omega, rfl, fitsTo_zero _ _ _ _, hb0, r0, r1, q10, q20⟩
  case round =>
    obtain ⟨k, hk, rfl, hbef, hb, g0, g1, g4, g5⟩ := hrel
    clear q10 q20 r0 r1 hb0
    by_cases hlt : k < ds.length
    · have hlt2 : k < cs.length := by rw [← HL.out]; exact hlt
      have hdd : decide ((k : Int) < (ds.length : Int)) = true := by simp; omega
      obtain ⟨x, hx⟩ := elem_at hlt
      obtain ⟨y, hy⟩ := elem_at hlt2
      obtain ⟨b1, o1, rfl, f1⟩ := H1.out k x hx.out
      obtain ⟨b2, o2, rfl, f2⟩ := H2.out k y hy.out
      have g2 := cell_later hb f1
      have g3 := cell_later hb f2
      have hxd := digits_at hd hx.out
      have bdx := dg_bd x
      have hx0 := hxd.1; have hx1 := hxd.2
      have hix := fun w => index_dig x hx0 hx1 w
      clear h1 h2 f1 f2 hxd q1 q2
      go_wp2_with fail
      go_region_held3 (fun w' => w'.cell? ⟨w.heap.size, 0, none⟩ = some (.int .i64 bar) ∧ w'.cell? ⟨w.heap.size, 1, none⟩ = some (.int .i64 kind) ∧ w'.cell? ⟨pb1, 0, none⟩ = some (.slice (some ⟨b1, o1, none⟩) ds.length c1) ∧ w'.cell? ⟨pb2, 0, none⟩ = some (.slice (some ⟨b2, o2, none⟩) cs.length c2) ∧ w'.cell? ⟨b1, o1 + k, none⟩ = some (.int .i64 x) ∧ w'.cell? ⟨b2, o2 + k, none⟩ = some (.int .i64 y))
        (first | go_keep | (go_split_ands; exact ⟨cell_later (by assumption) (by assumption), cell_later (by assumption) (by assumption), cell_later (by assumption) (by assumption), cell_later (by assumption) (by assumption), cell_later (by assumption) (by assumption), cell_later (by assumption) (by assumption)⟩))
        (first | (go_at_call 158; refine (digitCells_c _).mono ?_; rintro e w' ⟨rfl, hb2⟩) | (go_at_call 172; refine (Sfault_c bar kind hst _).mono ?_; rintro e w' ⟨rfl, hb3⟩; unfold faultV) | (go_at_call 138; refine (shown_c _ _ (dg x) bd.1 bd.2.1 bd.2.2.1 bd.2.2.2 bdx.1 bdx.2 _).mono ?_; rintro e w' ⟨rfl, hb4⟩))
      go_split_ands
      have hb6 : Below w.heap.size w _ := Below.chain (Below.chain (Below.chain hb.drew hb3) hb2) hb4
      rcases hq : (shC (stD bar kind) (stL bar kind) (dg x) == y) with _ | _
      · have hq2 := bne_of_beq hq
        have HQ := Lib.hid hq; clear hq hix
        simp only [Bool.not_false] at hq2
        go_wp2
        go_ret
        exact ⟨bool_ret (fitsB_false hx.out hy.out HQ.out).symm, hb6⟩
      · have hq2 := bne_of_beq hq
        have HQ := Lib.hid hq; clear hq hix
        simp only [Bool.not_true] at hq2
        go_wp2
        go_roundw
        case rel => exact ⟨k + 1, by omega, by go_num, by rw [fitsTo_succ hx.out hy.out, hbef.out, HQ.out]; rfl, hb6, by assumption, by assumption, by assumption, by assumption⟩
        case measure => simp [intOf]; omega
    · obtain rfl : k = ds.length := by omega
      go_wp2
      go_ret
      exact ⟨bool_ret hbef.out.symm, hb⟩
theorem ReadStates_c (v1 v2 : Value) (ds cs : List Int) (w : World) (h1 : Ints w v1 ds) (h2 : Ints w v2 cs) : Calls Try.prog 87 #[v1, v2] w (RdPost w ds cs) := by
  obtain ⟨a1, c1, rfl, _, _, _⟩ := h1.parts
  obtain ⟨a2, c2, rfl, _, _, _⟩ := h2.parts
  have hb00 : Below w.heap.size w ((w.alloc (.cells #[.slice a1 ds.length c1] 35)).alloc (.cells #[.slice a2 cs.length c2] 35)) := by (repeat (first | exact Below.refl _ _ | exact (Below.refl _ _).drew | assumption | exact below_one _ | refine Below.chain ?_ (by assumption) | refine Below.drew ?_ | refine Below.alc ?_ _ | refine below_drewN ?_ | (refine Below.setCell ?_ ?_ _) | exact Nat.le_refl _ | (simp; done) | (simp; omega)))
  have r0 : ((w.alloc (.cells #[.slice a1 ds.length c1] 35)).alloc (.cells #[.slice a2 cs.length c2] 35)).cell? ⟨w.heap.size, 0, none⟩ = some (.slice a1 ds.length c1) := by
    rw [World.cell?_alloc_past _ _ _ (by simp), World.cell?_alloc_at _ _ _ _ rfl]; rfl
  have r1 : ((w.alloc (.cells #[.slice a1 ds.length c1] 35)).alloc (.cells #[.slice a2 cs.length c2] 35)).cell? ⟨w.heap.size + 1, 0, none⟩ = some (.slice a2 cs.length c2) := by
    rw [World.cell?_alloc_at _ _ _ _ (by simp)]; rfl
  have h10 := h1.below hb00
  have h20 := h2.below hb00
  rcases ht : testB ds with _ | _
  · have hno : readOk ds cs = false := by simp [readOk, ht]
    have HT := Lib.hid ht; have HN := Lib.hid hno; clear ht hno
    go_enter Try.func87, Try.ntmps87
    go_wp2_with fail
    refine (isTest_c _ ds _ h10).mono ?_
    rintro e w1 ⟨rfl, hb1⟩
    rw [HT.out]
    go_wp2
    go_ret2
    exact RdPost.no HN.out (World.ownsRow_nil _ _ _ _) (Below.chain hb00 hb1)
  · by_cases hl : cs.length = ds.length
    · have hlb : ((cs.length : Int) != (ds.length : Int)) = false := by simp [hl]
      have HL := Lib.hid hl; clear hl
      rcases hc : cs.all cellB with _ | _
      · have hno : readOk ds cs = false := by simp [readOk, hc]
        have HT := Lib.hid ht; have HN := Lib.hid hno; have HC := Lib.hid hc; clear ht hno hc
        go_enter Try.func87, Try.ntmps87
        go_wp2_with fail
        refine (isTest_c _ ds _ h10).mono ?_
        rintro e w1 ⟨rfl, hb1⟩
        rw [HT.out]
        have r01 := cell_later hb1 r0
        have r11 := cell_later hb1 r1
        have h21 := h20.below hb1
        clear r0 r1 h20
        go_wp2_with fail
        refine (areAllInt_c _ cs 157 cellB _ h21 (fun _ _ => by kernel_rfl) (fun x w' => IsCell_c x w')).mono ?_
        rintro e w2 ⟨rfl, hb2⟩
        rw [HC.out]
        go_wp2
        go_ret2
        exact RdPost.no HN.out (World.ownsRow_nil _ _ _ _) (Below.chain (Below.chain hb00 hb1) hb2)
      · have hyes : readOk ds cs = true := by simp [readOk, ht, hc, HL.out]
        have HT := Lib.hid ht; have HN := Lib.hid hyes; have HC := Lib.hid hc; clear ht hyes hc
        go_enter Try.func87, Try.ntmps87
        go_wp2_with fail
        refine (isTest_c _ ds _ h10).mono ?_
        rintro e w1 ⟨rfl, hb1⟩
        rw [HT.out]
        have r01 := cell_later hb1 r0
        have r11 := cell_later hb1 r1
        have h11 := h10.below hb1
        have h21 := h20.below hb1
        clear r0 r1 h20 h10
        go_wp2_with fail
        refine (areAllInt_c _ cs 157 cellB _ h21 (fun _ _ => by kernel_rfl) (fun x w' => IsCell_c x w')).mono ?_
        rintro e w2 ⟨rfl, hb2⟩
        rw [HC.out]
        have r02 := cell_later hb2 r01
        have r12 := cell_later hb2 r11
        have h12 := h11.below hb2
        have h22 := h21.below hb2
        have hb3 : Below w.heap.size w w2 := Below.chain (Below.chain hb00 hb1) hb2
        clear r01 r11 h11 h21 hb1 hb2 hb00
        go_wp2_with fail
        refine (states_c 171 #[.pointer (some ⟨w.heap.size, 0, none⟩), .pointer (some ⟨w.heap.size + 1, 0, none⟩)] (fun s => fitsB (stD s.1 s.2) (stL s.1 s.2) ds cs) _ (fun _ _ => by kernel_rfl) ?_).mono ?_
        · intro bar kind w3 hst hb
          exact ReadStatesF_c bar kind _ _ _ _ ds cs w3 hst (cell_later hb r02) (cell_later hb r12) rfl rfl (h12.below hb) (h22.below hb) HL.out.symm (testB_digits HT.out)
        · rintro e w3 ⟨u, rfl, ho, hb⟩
          have ho' : w3.ownsRow w.heap.size 41 2 u (readSt ds cs).length (flat2 (readSt ds cs)) := own_lo ho hb3.size
          go_wp2
          go_ret2
          exact RdPost.yes HN.out ho' (Below.chain hb3 hb)
    · have hno : readOk ds cs = false := by simp [readOk, hl]
      have hlb : ((cs.length : Int) != (ds.length : Int)) = true := by simp; omega
      have HT := Lib.hid ht; have HN := Lib.hid hno; clear ht hno
      go_enter Try.func87, Try.ntmps87
      go_wp2_with fail
      refine (isTest_c _ ds _ h10).mono ?_
      rintro e w1 ⟨rfl, hb1⟩
      rw [HT.out]
      have r01 := cell_later hb1 r0
      have r11 := cell_later hb1 r1
      clear r0 r1
      go_wp2
      go_ret2
      exact RdPost.no HN.out (World.ownsRow_nil _ _ _ _) (Below.chain hb00 hb1)
end Go.Proofs.Ytahpknjligaliaa
