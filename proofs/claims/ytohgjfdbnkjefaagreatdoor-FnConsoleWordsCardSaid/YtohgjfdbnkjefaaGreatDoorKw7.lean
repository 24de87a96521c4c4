/- Texts of this claim, gathered: Job2. -/
import Derived.Test.YtohgjfdbnkjefaaGreatDoorKw6
import Derived.Deep.RegionHeld3
import Derived.Deep.DrawnRows
namespace Go.Proofs.YtohgjfdbnkjefaaGreatDoor
open Go.RowKit
set_option linter.unusedVariables false
set_option maxRecDepth 100000
attribute [local go_sem ↓] Go.wp_at_zero Go.wp_at_succ
def seenP (t : Bool) (b cur : List Int) (i o : Nat) : List Int := ((cur.set o (mvC t (bg b i))).set (6 + o) (mvC t (bg b (6 + i)))).set (12 + o) (mvC t (bg b (12 + i)))
def seenI (t : Bool) (b : List Int) (n : Nat) : List Int := (List.range n).foldl (fun cur k => seenP t b cur k (5 - k)) b
def seenS (t : Bool) (b : List Int) (n : Nat) : List Int := (List.range n).foldl (fun cur k => seenP t b cur (5 - k) k) b
theorem seenI_succ (t : Bool) (b : List Int) (n : Nat) : seenI t b (n + 1) = seenP t b (seenI t b n) n (5 - n) := by unfold seenI; rw [List.range_succ, List.foldl_append]; rfl
theorem seenS_succ (t : Bool) (b : List Int) (n : Nat) : seenS t b (n + 1) = seenP t b (seenS t b n) (5 - n) n := by unfold seenS; rw [List.range_succ, List.foldl_append]; rfl
def zBA : Array Value := #[.int .i64 0, .int .i64 0, .int .i64 0, .int .i64 0, .int .i64 0, .int .i64 0, .int .i64 0, .int .i64 0, .int .i64 0, .int .i64 0, .int .i64 0, .int .i64 0, .int .i64 0, .int .i64 0, .int .i64 0, .int .i64 0, .int .i64 0, .int .i64 0, .int .i64 0]
theorem seenP_len (t : Bool) (b cur : List Int) (i o : Nat) : (seenP t b cur i o).length = cur.length := by simp [seenP]
theorem seenI_len (t : Bool) (b : List Int) : ∀ n, (seenI t b n).length = b.length
 | 0 => rfl
 | n + 1 => by rw [seenI_succ, seenP_len, seenI_len t b n]
theorem seenS_len (t : Bool) (b : List Int) : ∀ n, (seenS t b n).length = b.length
 | 0 => rfl
 | n + 1 => by rw [seenS_succ, seenP_len, seenS_len t b n]
theorem seen_sameF (x0 x1 x2 x3 x4 x5 x6 x7 x8 x9 x10 x11 x12 x13 x14 x15 x16 x17 x18 : Int) : seenI false [x0, x1, x2, x3, x4, x5, x6, x7, x8, x9, x10, x11, x12, x13, x14, x15, x16, x17, x18] 6 = seenS false [x0, x1, x2, x3, x4, x5, x6, x7, x8, x9, x10, x11, x12, x13, x14, x15, x16, x17, x18] 6 := by kernel_rfl
theorem seen_sameT (x0 x1 x2 x3 x4 x5 x6 x7 x8 x9 x10 x11 x12 x13 x14 x15 x16 x17 x18 : Int) : seenI true [x0, x1, x2, x3, x4, x5, x6, x7, x8, x9, x10, x11, x12, x13, x14, x15, x16, x17, x18] 6 = seenS true [x0, x1, x2, x3, x4, x5, x6, x7, x8, x9, x10, x11, x12, x13, x14, x15, x16, x17, x18] 6 := by kernel_rfl
theorem seen_same (t : Bool) {b : List Int} (hb : b.length = 19) : seenI t b 6 = seenS t b 6 := by
 match b, hb with
 | [x0, x1, x2, x3, x4, x5, x6, x7, x8, x9, x10, x11, x12, x13, x14, x15, x16, x17, x18], _ =>
  cases t
  · exact seen_sameF x0 x1 x2 x3 x4 x5 x6 x7 x8 x9 x10 x11 x12 x13 x14 x15 x16 x17 x18
  · exact seen_sameT x0 x1 x2 x3 x4 x5 x6 x7 x8 x9 x10 x11 x12 x13 x14 x15 x16 x17 x18
theorem ints_set (b : List Int) (j : Nat) (x : Int) : ints (b.set j x) = (ints b).set j (.int .i64 x) := by simp [ints, List.map_set]
theorem range_set {w : World} {g : Nat} {b : List Int} (h : w.rangeAt g 0 (ints b)) {j : Nat} (x : Int) (hj : j < b.length) : (w.setCell ⟨g, j, none⟩ (.int .i64 x)).rangeAt g 0 (ints (b.set j x)) := fun i v hv => by
 rw [Nat.zero_add]
 rw [ints_set, List.getElem?_set] at hv
 have h0 := cell18 h hj
 split at hv
 · rename_i e
   subst e
   split at hv
   · injection hv with hv; subst hv
     exact World.cell?_setCell_same _ _ _ h0
   · cases hv
 · rename_i e
   rw [World.cell?_setCell_other _ _ _ _ (by intro e2; injection e2 with _ e3; exact e e3)]
   have := h i v hv
   rwa [Nat.zero_add] at this
theorem there_set {w : World} {g n : Nat} (h : w.there g 0 n) (b o : Nat) (x : Value) : (w.setCell ⟨b, o, none⟩ x).there g 0 n := by
 have := World.there_setCells h b o [x]
 exact this
theorem there_froz {w : World} {g n : Nat} (h : w.there g 0 n) {j : Nat} (hj : j < n) : w.frozen? ⟨g, j, none⟩ = false := by
 have := (h j hj).2
 rwa [Nat.zero_add] at this
set_option maxHeartbeats 2000000 in
theorem seenFromT_c (b : List Int) (w : World) (hb : b.length = 19) (hg : goodB b = true) :
 Calls Tryz.prog 154 #[aggI b, .func (.func 155) #[] #[]] w fun e w' => e = .returned (aggI (seenI true b 6)) ∧ Below w.heap.size w w' := by
 have r0 := World.rangeAt_alloc (range_new w (ints b) 26) zB
 have r1 := World.rangeAt_alloc r0 zB
 have t1 := World.there_alloc (there_new (w.alloc (.cells (ints b).toArray 26)) _ 26 (n := 19) (show 19 ≤ (zBA : Array Value).size by decide)) zB
 have t2 := there_new ((w.alloc (.cells (ints b).toArray 26)).alloc zB) _ 26 (n := 19) (show 19 ≤ (zBA : Array Value).size by decide)
 have hb0 : Below w.heap.size w (((w.alloc (.cells (ints b).toArray 26)).alloc zB).alloc zB) := by (repeat (first | exact Below.refl _ _ | exact (Below.refl _ _).drew | assumption | exact below_one _ | refine Below.chain ?_ (by assumption) | refine Below.drew ?_ | refine Below.alc ?_ _ | refine below_drewN ?_ | (refine Below.setCell ?_ ?_ _) | exact Nat.le_refl _ | (simp; done) | (simp; omega)))
 simp only [World.size_alloc] at t1 t2
 unfold aggI
 unfold zBA zB at *
 go_enter Tryz.func154, Tryz.ntmps154
 go_wp2_with (first | (refine wpList_loadB rfl _ rfl _ rfl b r0 hb ?_) | (refine wpList_storeB rfl _ _ rfl _ b rfl rfl t2 hb ?_))
 have c1 := World.rangeAt_setCells_same _ (w.heap.size + 1 + 1) 0 (ints b) (by simpa [hb] using t2)
 have u1 := World.there_setCells t1 (w.heap.size + 1 + 1) 0 (ints b)
 have u2 := World.there_setCells t2 (w.heap.size + 1 + 1) 0 (ints b)
 have q1 := World.rangeAt_setCells_apart r1 (w.heap.size + 1 + 1) 0 (ints b) (.inl (by omega))
 have hb1 := below_cells (ints b) _ (w.heap.size + 1 + 1) 0 hb0 (by omega)
 clear r0 r1 t1 t2 hb0
 generalize World.setCells _ (w.heap.size + 1 + 1) 0 (ints b) = wb at *
 have HL := Lib.hid (seenI_len true b)
 go_loopw [9] (fun j wr => ∃ k : Nat, k ≤ 6 ∧ j = .int .i64 (k : Int) ∧ wr.rangeAt w.heap.size 0 (ints b) ∧ wr.rangeAt (w.heap.size + 1 + 1) 0 (ints (seenI true b k)) ∧ wr.there (w.heap.size + 1) 0 19 ∧ wr.there (w.heap.size + 1 + 1) 0 19 ∧ Below w.heap.size w wr) (fun j _ => 7 - (intOf j).toNat)
 case atStart => exact ⟨0, by omega, rfl, q1, c1, u1, u2, hb1⟩
 case round =>
  obtain ⟨k, hk, rfl, hr, ho, h1, h2, hbw⟩ := hrel
  clear q1 c1 u1 u2 hb1
  by_cases hlt : k < 6
  · obtain ⟨k', hk'⟩ : ∃ k', k + k' = 5 := ⟨5 - k, by omega⟩
    have hd : decide ((k : Int) < 6) = true := by simp; omega
    have h5 : (5 : Int) - (k : Int) = (k' : Int) := by omega
    have n0 : (0 : Int) ≤ (k : Int) := by omega
    have n1 : (k : Int) < 6 := by omega
    have n2 : (0 : Int) ≤ (k' : Int) := by omega
    have n3 : (k' : Int) < 6 := by omega
    have HS := Lib.hid (seenI_succ true b k)
    have hl := HL.out k
    have HK := Lib.hid hk'
    clear hk'
    have g0 := cell18 hr (j := k) (by omega)
    have g1 := cell18 hr (j := 6 + k) (by omega)
    have g2 := cell18 hr (j := 12 + k) (by omega)
    have HO := Lib.hid ho; have H1 := Lib.hid h1; have H2 := Lib.hid h2; have HR := Lib.hid hr; have HBW := Lib.hid hbw
    clear ho h1 h2 hr hbw
    have bd := goodB_at hg hlt
    unfold bF at bd
    simp only at bd
    obtain ⟨⟨d0, d1, d2, d3⟩, d4, d5⟩ := bd
    go_wp2_with fail
    go_region_held3 (fun w' => w'.cell? ⟨w.heap.size, k, none⟩ = some (.int .i64 (bg b k)) ∧ w'.cell? ⟨w.heap.size, 6 + k, none⟩ = some (.int .i64 (bg b (6 + k))) ∧ w'.cell? ⟨w.heap.size, 12 + k, none⟩ = some (.int .i64 (bg b (12 + k))))
     (first | (go_split_ands; exact ⟨cell_later ‹_› ‹_›, cell_later ‹_› ‹_›, cell_later ‹_› ‹_›⟩) | (go_split_ands; refine ⟨?_, ?_, ?_⟩ <;> (rw [World.cell?_setCell_other _ _ _ _ (by simp)]; assumption)) | go_keep)
     (first | (go_at_call 155; refine (turned_c (bg b k) _ d4 d5).mono ?_; rintro e w' ⟨rfl, hb3⟩) | (go_at_call 155; refine (turned_c (bg b (6 + k)) _ d0 d1).mono ?_; rintro e w' ⟨rfl, hb4⟩) | (go_at_call 155; refine (turned_c (bg b (12 + k)) _ d2 d3).mono ?_; rintro e w' ⟨rfl, hb5⟩; have hB : Below wr.heap.size wr w' := Below.chain (Below.chain (Below.chain (Below.refl _ _).drew hb3) hb4) hb5; have p0 := cell18 (range_below HO.out hB) (j := k') (by omega); have p1 := cell18 (range_below HO.out hB) (j := 6 + k') (by omega); have p2 := cell18 (range_below HO.out hB) (j := 12 + k') (by omega); have f0 := there_froz (there_below H2.out hB) (j := k') (by omega); have f1 := there_froz (there_below H2.out hB) (j := 6 + k') (by omega); have f2 := there_froz (there_below H2.out hB) (j := 12 + k') (by omega)))
    go_split_ands
    have ht2 := there_below H2.out hB
    have ht1 := there_below H1.out hB
    have hr3 := range_below HR.out hB
    have ho3 := range_below HO.out hB
    have hbw3 := Below.chain HBW.out hB
    clear p0 p1 p2 f0 f1 f2 hb3 hb4 hb5 g0 g1 g2
    have R : Hid ((((w'.setCell ⟨w.heap.size + 1 + 1, k', none⟩ (.int .i64 (mvC true (bg b k)))).setCell ⟨w.heap.size + 1 + 1, 6 + k', none⟩ (.int .i64 (mvC true (bg b (6 + k))))).setCell ⟨w.heap.size + 1 + 1, 12 + k', none⟩ (.int .i64 (mvC true (bg b (12 + k))))).rangeAt (w.heap.size + 1 + 1) 0 (ints (seenI true b (k + 1)))) := by
     have e5 : 5 - k = k' := by have := HK.out; omega
     show World.rangeAt _ _ _ _
     rw [HS.out, e5]
     unfold seenP
     exact range_set (range_set (range_set ho3 _ (by omega)) _ (by simp; omega)) _ (by simp; omega)
    have RB : Hid ((((w'.setCell ⟨w.heap.size + 1 + 1, k', none⟩ (.int .i64 (mvC true (bg b k)))).setCell ⟨w.heap.size + 1 + 1, 6 + k', none⟩ (.int .i64 (mvC true (bg b (6 + k))))).setCell ⟨w.heap.size + 1 + 1, 12 + k', none⟩ (.int .i64 (mvC true (bg b (12 + k))))).rangeAt w.heap.size 0 (ints b)) := by
     show World.rangeAt _ _ _ _
     exact World.rangeAt_setCells_apart (World.rangeAt_setCells_apart (World.rangeAt_setCells_apart hr3 (w.heap.size + 1 + 1) k' [_] (.inl (by omega))) (w.heap.size + 1 + 1) (6 + k') [_] (.inl (by omega))) (w.heap.size + 1 + 1) (12 + k') [_] (.inl (by omega))
    have T1 := Lib.hid (there_set (there_set (there_set ht1 (w.heap.size + 1 + 1) k' (.int .i64 (mvC true (bg b k)))) (w.heap.size + 1 + 1) (6 + k') (.int .i64 (mvC true (bg b (6 + k))))) (w.heap.size + 1 + 1) (12 + k') (.int .i64 (mvC true (bg b (12 + k)))))
    have T2 := Lib.hid (there_set (there_set (there_set ht2 (w.heap.size + 1 + 1) k' (.int .i64 (mvC true (bg b k)))) (w.heap.size + 1 + 1) (6 + k') (.int .i64 (mvC true (bg b (6 + k))))) (w.heap.size + 1 + 1) (12 + k') (.int .i64 (mvC true (bg b (12 + k)))))
    have BW := Lib.hid (((hbw3.setCell (p := ⟨w.heap.size + 1 + 1, k', none⟩) (by simp; omega) (.int .i64 (mvC true (bg b k)))).setCell (p := ⟨w.heap.size + 1 + 1, 6 + k', none⟩) (by simp; omega) (.int .i64 (mvC true (bg b (6 + k))))).setCell (p := ⟨w.heap.size + 1 + 1, 12 + k', none⟩) (by simp; omega) (.int .i64 (mvC true (bg b (12 + k)))))
    clear ht1 ht2 hr3 ho3 hbw3
    go_wp2
    go_roundw
    case rel => exact ⟨k + 1, by omega, by go_num, RB.out, R.out, T1.out, T2.out, BW.out⟩
    case measure => simp [intOf]; omega
  · obtain rfl : k = 6 := by omega
    have hl := HL.out 6
    rw [hb] at hl
    have hk2 := World.rangeAt_setCells_same wr (w.heap.size + 1) 0 (ints (seenI true b 6)) (by simpa [hl] using h1)
    have hbe := below_cells (ints (seenI true b 6)) wr (w.heap.size + 1) 0 hbw (by omega)
    have hld := loadVarB hk2 hl
    go_wp2_with (first | (refine wpList_loadB rfl _ rfl _ rfl _ ho hl ?_) | (refine wpList_storeB rfl _ _ rfl _ _ rfl rfl h1 hl ?_))
    exact bodyPost_ret (v := aggI (seenI true b 6)) (res_cell Tryz.results154 rfl hld) rfl ⟨rfl, hbe⟩
set_option maxHeartbeats 2000000 in
theorem seenFromM_c (b : List Int) (w : World) (hb : b.length = 19) (hg : goodB b = true) :
 Calls Tryz.prog 154 #[aggI b, .func (.func 156) #[] #[]] w fun e w' => e = .returned (aggI (seenI false b 6)) ∧ Below w.heap.size w w' := by
 have r0 := World.rangeAt_alloc (range_new w (ints b) 26) zB
 have r1 := World.rangeAt_alloc r0 zB
 have t1 := World.there_alloc (there_new (w.alloc (.cells (ints b).toArray 26)) _ 26 (n := 19) (show 19 ≤ (zBA : Array Value).size by decide)) zB
 have t2 := there_new ((w.alloc (.cells (ints b).toArray 26)).alloc zB) _ 26 (n := 19) (show 19 ≤ (zBA : Array Value).size by decide)
 have hb0 : Below w.heap.size w (((w.alloc (.cells (ints b).toArray 26)).alloc zB).alloc zB) := by (repeat (first | exact Below.refl _ _ | exact (Below.refl _ _).drew | assumption | exact below_one _ | refine Below.chain ?_ (by assumption) | refine Below.drew ?_ | refine Below.alc ?_ _ | refine below_drewN ?_ | (refine Below.setCell ?_ ?_ _) | exact Nat.le_refl _ | (simp; done) | (simp; omega)))
 simp only [World.size_alloc] at t1 t2
 unfold aggI
 unfold zBA zB at *
 go_enter Tryz.func154, Tryz.ntmps154
 go_wp2_with (first | (refine wpList_loadB rfl _ rfl _ rfl b r0 hb ?_) | (refine wpList_storeB rfl _ _ rfl _ b rfl rfl t2 hb ?_))
 have c1 := World.rangeAt_setCells_same _ (w.heap.size + 1 + 1) 0 (ints b) (by simpa [hb] using t2)
 have u1 := World.there_setCells t1 (w.heap.size + 1 + 1) 0 (ints b)
 have u2 := World.there_setCells t2 (w.heap.size + 1 + 1) 0 (ints b)
 have q1 := World.rangeAt_setCells_apart r1 (w.heap.size + 1 + 1) 0 (ints b) (.inl (by omega))
 have hb1 := below_cells (ints b) _ (w.heap.size + 1 + 1) 0 hb0 (by omega)
 clear r0 r1 t1 t2 hb0
 generalize World.setCells _ (w.heap.size + 1 + 1) 0 (ints b) = wb at *
 have HL := Lib.hid (seenI_len false b)
 go_loopw [9] (fun j wr => ∃ k : Nat, k ≤ 6 ∧ j = .int .i64 (k : Int) ∧ wr.rangeAt w.heap.size 0 (ints b) ∧ wr.rangeAt (w.heap.size + 1 + 1) 0 (ints (seenI false b k)) ∧ wr.there (w.heap.size + 1) 0 19 ∧ wr.there (w.heap.size + 1 + 1) 0 19 ∧ Below w.heap.size w wr) (fun j _ => 7 - (intOf j).toNat)
 case atStart => exact ⟨0, by omega, rfl, q1, c1, u1, u2, hb1⟩
 case round =>
  obtain ⟨k, hk, rfl, hr, ho, h1, h2, hbw⟩ := hrel
  clear q1 c1 u1 u2 hb1
  by_cases hlt : k < 6
  · obtain ⟨k', hk'⟩ : ∃ k', k + k' = 5 := ⟨5 - k, by omega⟩
    have hd : decide ((k : Int) < 6) = true := by simp; omega
    have h5 : (5 : Int) - (k : Int) = (k' : Int) := by omega
    have n0 : (0 : Int) ≤ (k : Int) := by omega
    have n1 : (k : Int) < 6 := by omega
    have n2 : (0 : Int) ≤ (k' : Int) := by omega
    have n3 : (k' : Int) < 6 := by omega
    have HS := Lib.hid (seenI_succ false b k)
    have hl := HL.out k
    have HK := Lib.hid hk'
    clear hk'
    have g0 := cell18 hr (j := k) (by omega)
    have g1 := cell18 hr (j := 6 + k) (by omega)
    have g2 := cell18 hr (j := 12 + k) (by omega)
    have HO := Lib.hid ho; have H1 := Lib.hid h1; have H2 := Lib.hid h2; have HR := Lib.hid hr; have HBW := Lib.hid hbw
    clear ho h1 h2 hr hbw
    have bd := goodB_at hg hlt
    unfold bF at bd
    simp only at bd
    obtain ⟨⟨d0, d1, d2, d3⟩, d4, d5⟩ := bd
    go_wp2_with fail
    go_region_held3 (fun w' => w'.cell? ⟨w.heap.size, k, none⟩ = some (.int .i64 (bg b k)) ∧ w'.cell? ⟨w.heap.size, 6 + k, none⟩ = some (.int .i64 (bg b (6 + k))) ∧ w'.cell? ⟨w.heap.size, 12 + k, none⟩ = some (.int .i64 (bg b (12 + k))))
     (first | (go_split_ands; exact ⟨cell_later ‹_› ‹_›, cell_later ‹_› ‹_›, cell_later ‹_› ‹_›⟩) | (go_split_ands; refine ⟨?_, ?_, ?_⟩ <;> (rw [World.cell?_setCell_other _ _ _ _ (by simp)]; assumption)) | go_keep)
     (first | (go_at_call 156; refine (mirrored_c (bg b k) _ d4 d5).mono ?_; rintro e w' ⟨rfl, hb3⟩) | (go_at_call 156; refine (mirrored_c (bg b (6 + k)) _ d0 d1).mono ?_; rintro e w' ⟨rfl, hb4⟩) | (go_at_call 156; refine (mirrored_c (bg b (12 + k)) _ d2 d3).mono ?_; rintro e w' ⟨rfl, hb5⟩; have hB : Below wr.heap.size wr w' := Below.chain (Below.chain (Below.chain (Below.refl _ _).drew hb3) hb4) hb5; have p0 := cell18 (range_below HO.out hB) (j := k') (by omega); have p1 := cell18 (range_below HO.out hB) (j := 6 + k') (by omega); have p2 := cell18 (range_below HO.out hB) (j := 12 + k') (by omega); have f0 := there_froz (there_below H2.out hB) (j := k') (by omega); have f1 := there_froz (there_below H2.out hB) (j := 6 + k') (by omega); have f2 := there_froz (there_below H2.out hB) (j := 12 + k') (by omega)))
    go_split_ands
    have ht2 := there_below H2.out hB
    have ht1 := there_below H1.out hB
    have hr3 := range_below HR.out hB
    have ho3 := range_below HO.out hB
    have hbw3 := Below.chain HBW.out hB
    clear p0 p1 p2 f0 f1 f2 hb3 hb4 hb5 g0 g1 g2
    have R : Hid ((((w'.setCell ⟨w.heap.size + 1 + 1, k', none⟩ (.int .i64 (mvC false (bg b k)))).setCell ⟨w.heap.size + 1 + 1, 6 + k', none⟩ (.int .i64 (mvC false (bg b (6 + k))))).setCell ⟨w.heap.size + 1 + 1, 12 + k', none⟩ (.int .i64 (mvC false (bg b (12 + k))))).rangeAt (w.heap.size + 1 + 1) 0 (ints (seenI false b (k + 1)))) := by
     have e5 : 5 - k = k' := by have := HK.out; omega
     show World.rangeAt _ _ _ _
     rw [HS.out, e5]
     unfold seenP
     exact range_set (range_set (range_set ho3 _ (by omega)) _ (by simp; omega)) _ (by simp; omega)
    have RB : Hid ((((w'.setCell ⟨w.heap.size + 1 + 1, k', none⟩ (.int .i64 (mvC false (bg b k)))).setCell ⟨w.heap.size + 1 + 1, 6 + k', none⟩ (.int .i64 (mvC false (bg b (6 + k))))).setCell ⟨w.heap.size + 1 + 1, 12 + k', none⟩ (.int .i64 (mvC false (bg b (12 + k))))).rangeAt w.heap.size 0 (ints b)) := by
     show World.rangeAt _ _ _ _
     exact World.rangeAt_setCells_apart (World.rangeAt_setCells_apart (World.rangeAt_setCells_apart hr3 (w.heap.size + 1 + 1) k' [_] (.inl (by omega))) (w.heap.size + 1 + 1) (6 + k') [_] (.inl (by omega))) (w.heap.size + 1 + 1) (12 + k') [_] (.inl (by omega))
    have T1 := Lib.hid (there_set (there_set (there_set ht1 (w.heap.size + 1 + 1) k' (.int .i64 (mvC false (bg b k)))) (w.heap.size + 1 + 1) (6 + k') (.int .i64 (mvC false (bg b (6 + k))))) (w.heap.size + 1 + 1) (12 + k') (.int .i64 (mvC false (bg b (12 + k)))))
    have T2 := Lib.hid (there_set (there_set (there_set ht2 (w.heap.size + 1 + 1) k' (.int .i64 (mvC false (bg b k)))) (w.heap.size + 1 + 1) (6 + k') (.int .i64 (mvC false (bg b (6 + k))))) (w.heap.size + 1 + 1) (12 + k') (.int .i64 (mvC false (bg b (12 + k)))))
    have BW := Lib.hid (((hbw3.setCell (p := ⟨w.heap.size + 1 + 1, k', none⟩) (by simp; omega) (.int .i64 (mvC false (bg b k)))).setCell (p := ⟨w.heap.size + 1 + 1, 6 + k', none⟩) (by simp; omega) (.int .i64 (mvC false (bg b (6 + k))))).setCell (p := ⟨w.heap.size + 1 + 1, 12 + k', none⟩) (by simp; omega) (.int .i64 (mvC false (bg b (12 + k)))))
    clear ht1 ht2 hr3 ho3 hbw3
    go_wp2
    go_roundw
    case rel => exact ⟨k + 1, by omega, by go_num, RB.out, R.out, T1.out, T2.out, BW.out⟩
    case measure => simp [intOf]; omega
  · obtain rfl : k = 6 := by omega
    have hl := HL.out 6
    rw [hb] at hl
    have hk2 := World.rangeAt_setCells_same wr (w.heap.size + 1) 0 (ints (seenI false b 6)) (by simpa [hl] using h1)
    have hbe := below_cells (ints (seenI false b 6)) wr (w.heap.size + 1) 0 hbw (by omega)
    have hld := loadVarB hk2 hl
    go_wp2_with (first | (refine wpList_loadB rfl _ rfl _ rfl _ ho hl ?_) | (refine wpList_storeB rfl _ _ rfl _ _ rfl rfl h1 hl ?_))
    exact bodyPost_ret (v := aggI (seenI false b 6)) (res_cell Tryz.results154 rfl hld) rfl ⟨rfl, hbe⟩
set_option maxHeartbeats 2000000 in
theorem l12Seen_c (t : Bool) (b : List Int) (w : World) (hb : b.length = 19) (hg : goodB b = true) :
 Calls Tryz.prog 189 #[aggI b, .bool t] w fun e w' => e = .returned (aggI (seenS t b 6)) ∧ Below w.heap.size w w' := by
 have r0 := World.rangeAt_alloc (range_new w (ints b) 26) zB
 have r1 := World.rangeAt_alloc r0 zB
 have t1 := World.there_alloc (there_new (w.alloc (.cells (ints b).toArray 26)) _ 26 (n := 19) (show 19 ≤ (zBA : Array Value).size by decide)) zB
 have t2 := there_new ((w.alloc (.cells (ints b).toArray 26)).alloc zB) _ 26 (n := 19) (show 19 ≤ (zBA : Array Value).size by decide)
 have hb0 : Below w.heap.size w (((w.alloc (.cells (ints b).toArray 26)).alloc zB).alloc zB) := by (repeat (first | exact Below.refl _ _ | exact (Below.refl _ _).drew | assumption | exact below_one _ | refine Below.chain ?_ (by assumption) | refine Below.drew ?_ | refine Below.alc ?_ _ | refine below_drewN ?_ | (refine Below.setCell ?_ ?_ _) | exact Nat.le_refl _ | (simp; done) | (simp; omega)))
 simp only [World.size_alloc] at t1 t2
 unfold aggI
 unfold zBA zB at *
 go_enter Tryz.func189, Tryz.ntmps189
 go_wp2_with (first | (refine wpList_loadB rfl _ rfl _ rfl b r0 hb ?_) | (refine wpList_storeB rfl _ _ rfl _ b rfl rfl t2 hb ?_))
 have c1 := World.rangeAt_setCells_same _ (w.heap.size + 1 + 1) 0 (ints b) (by simpa [hb] using t2)
 have u1 := World.there_setCells t1 (w.heap.size + 1 + 1) 0 (ints b)
 have u2 := World.there_setCells t2 (w.heap.size + 1 + 1) 0 (ints b)
 have q1 := World.rangeAt_setCells_apart r1 (w.heap.size + 1 + 1) 0 (ints b) (.inl (by omega))
 have hb1 := below_cells (ints b) _ (w.heap.size + 1 + 1) 0 hb0 (by omega)
 clear r0 r1 t1 t2 hb0
 generalize World.setCells _ (w.heap.size + 1 + 1) 0 (ints b) = wb at *
 have HL := Lib.hid (seenS_len t b)
 go_loopw [6] (fun j wr => ∃ k : Nat, k ≤ 6 ∧ j = .int .i64 (k : Int) ∧ wr.rangeAt w.heap.size 0 (ints b) ∧ wr.rangeAt (w.heap.size + 1 + 1) 0 (ints (seenS t b k)) ∧ wr.there (w.heap.size + 1) 0 19 ∧ wr.there (w.heap.size + 1 + 1) 0 19 ∧ Below w.heap.size w wr) (fun j _ => 7 - (intOf j).toNat)
 case atStart => exact ⟨0, by omega, rfl, q1, c1, u1, u2, hb1⟩
 case round =>
  obtain ⟨k, hk, rfl, hr, ho, h1, h2, hbw⟩ := hrel
  clear q1 c1 u1 u2 hb1
  by_cases hlt : k < 6
  · obtain ⟨k', hk'⟩ : ∃ k', k' + k = 5 := ⟨5 - k, by omega⟩
    have hd : decide ((k : Int) < 6) = true := by simp; omega
    have h5 : (5 : Int) - (k : Int) = (k' : Int) := by omega
    have n0 : (0 : Int) ≤ (k : Int) := by omega
    have n1 : (k : Int) < 6 := by omega
    have n2 : (0 : Int) ≤ (k' : Int) := by omega
    have n3 : (k' : Int) < 6 := by omega
    have HS := Lib.hid (seenS_succ t b k)
    have hl := HL.out k
    have hk6 : k' < 6 := by omega
    have HK := Lib.hid hk'
    clear hk'
    have bd := goodB_at hg hk6
    unfold bF at bd
    simp only at bd
    obtain ⟨⟨d0, d1, d2, d3⟩, d4, d5⟩ := bd
    have g0 := cell18 hr (j := k') (by omega)
    have HO := Lib.hid ho; have H1 := Lib.hid h1; have H2 := Lib.hid h2; have HR := Lib.hid hr; have HBW := Lib.hid hbw
    clear ho h1 h2 hr hbw
    cases t
    · go_wp2_with fail
      refine (l2Mirror_c (bg b k') _ d4 d5).mono ?_
      rintro e w1 ⟨rfl, hb3⟩
      have hO1 := range_below HO.out hb3
      have hR1 := range_below HR.out hb3
      have hT1 := there_below H1.out hb3
      have hT2 := there_below H2.out hb3
      have hB1 := Below.chain HBW.out hb3
      have p0 := cell18 hO1 (j := k) (by omega)
      have f0 := there_froz hT2 (j := k) (by omega)
      have O1 := range_set hO1 (j := k) (mvC false (bg b k')) (by omega)
      have R1 := World.rangeAt_setCells_apart hR1 (w.heap.size + 1 + 1) k [.int .i64 (mvC false (bg b k'))] (.inl (by omega))
      have T1 := there_set hT1 (w.heap.size + 1 + 1) k (.int .i64 (mvC false (bg b k')))
      have T2 := there_set hT2 (w.heap.size + 1 + 1) k (.int .i64 (mvC false (bg b k')))
      have B1 := hB1.setCell (p := ⟨w.heap.size + 1 + 1, k, none⟩) (by simp; omega) (.int .i64 (mvC false (bg b k')))
      have R1' : World.rangeAt _ w.heap.size 0 (ints b) := R1
      have g1 := cell18 R1' (j := 6 + k') (by omega)
      simp only [World.setCells] at g1
      have HO := Lib.hid O1; have HR := Lib.hid R1'; have H1 := Lib.hid T1; have H2 := Lib.hid T2; have HBW := Lib.hid B1
      clear g0 hb3 hO1 hR1 hT1 hT2 hB1 O1 R1 R1' T1 T2 B1
      go_wp2_with fail
      refine (l2Mirror_c (bg b (6 + k')) _ d0 d1).mono ?_
      rintro e w2 ⟨rfl, hb3⟩
      have hO1 := range_below HO.out hb3
      have hR1 := range_below HR.out hb3
      have hT1 := there_below H1.out hb3
      have hT2 := there_below H2.out hb3
      have hB1 := Below.chain HBW.out hb3
      have hl2 : ((seenS false b k).set k (mvC false (bg b k'))).length = 19 := by rw [List.length_set, HL.out, hb]
      have p1 := cell18 hO1 (j := 6 + k) (by omega)
      have f1 := there_froz hT2 (j := 6 + k) (by omega)
      have O1 := range_set hO1 (j := 6 + k) (mvC false (bg b (6 + k'))) (by omega)
      have R1 := World.rangeAt_setCells_apart hR1 (w.heap.size + 1 + 1) (6 + k) [.int .i64 (mvC false (bg b (6 + k')))] (.inl (by omega))
      have T1 := there_set hT1 (w.heap.size + 1 + 1) (6 + k) (.int .i64 (mvC false (bg b (6 + k'))))
      have T2 := there_set hT2 (w.heap.size + 1 + 1) (6 + k) (.int .i64 (mvC false (bg b (6 + k'))))
      have B1 := hB1.setCell (p := ⟨w.heap.size + 1 + 1, 6 + k, none⟩) (by simp; omega) (.int .i64 (mvC false (bg b (6 + k'))))
      have R1' : World.rangeAt _ w.heap.size 0 (ints b) := R1
      have g2 := cell18 R1' (j := 12 + k') (by omega)
      simp only [World.setCells] at g2
      have HO := Lib.hid O1; have HR := Lib.hid R1'; have H1 := Lib.hid T1; have H2 := Lib.hid T2; have HBW := Lib.hid B1
      clear g1 p0 f0 hb3 hO1 hR1 hT1 hT2 hB1 O1 R1 R1' T1 T2 B1 hl2
      go_wp2_with fail
      refine (l2Mirror_c (bg b (12 + k')) _ d2 d3).mono ?_
      rintro e w3 ⟨rfl, hb3⟩
      have hO1 := range_below HO.out hb3
      have hR1 := range_below HR.out hb3
      have hT1 := there_below H1.out hb3
      have hT2 := there_below H2.out hb3
      have hB1 := Below.chain HBW.out hb3
      have hl2 : (((seenS false b k).set k (mvC false (bg b k'))).set (6 + k) (mvC false (bg b (6 + k')))).length = 19 := by rw [List.length_set, List.length_set, HL.out, hb]
      have p2 := cell18 hO1 (j := 12 + k) (by omega)
      have f2 := there_froz hT2 (j := 12 + k) (by omega)
      have O1 := range_set hO1 (j := 12 + k) (mvC false (bg b (12 + k'))) (by omega)
      have R1 := World.rangeAt_setCells_apart hR1 (w.heap.size + 1 + 1) (12 + k) [.int .i64 (mvC false (bg b (12 + k')))] (.inl (by omega))
      have T1 := there_set hT1 (w.heap.size + 1 + 1) (12 + k) (.int .i64 (mvC false (bg b (12 + k'))))
      have T2 := there_set hT2 (w.heap.size + 1 + 1) (12 + k) (.int .i64 (mvC false (bg b (12 + k'))))
      have B1 := hB1.setCell (p := ⟨w.heap.size + 1 + 1, 12 + k, none⟩) (by simp; omega) (.int .i64 (mvC false (bg b (12 + k'))))
      have R1' : World.rangeAt _ w.heap.size 0 (ints b) := R1
      have e5 : 5 - k = k' := by have := HK.out; omega
      have hS2 : seenS false b (k + 1) = (((seenS false b k).set k (mvC false (bg b k'))).set (6 + k) (mvC false (bg b (6 + k')))).set (12 + k) (mvC false (bg b (12 + k'))) := by rw [HS.out, e5]; rfl
      rw [← hS2] at O1
      clear hS2 e5
      have HO := Lib.hid O1; have HR := Lib.hid R1'; have H1 := Lib.hid T1; have H2 := Lib.hid T2; have HBW := Lib.hid B1
      clear g2 p1 f1 hb3 hO1 hR1 hT1 hT2 hB1 O1 R1 R1' T1 T2 B1 hl2
      go_wp2
      go_roundw
      case rel => exact ⟨k + 1, by omega, by go_num, HR.out, HO.out, H1.out, H2.out, HBW.out⟩
      case measure => simp [intOf]; omega
    · go_wp2_with fail
      refine (l2Turn_c (bg b k') _ d4 d5).mono ?_
      rintro e w1 ⟨rfl, hb3⟩
      have hO1 := range_below HO.out hb3
      have hR1 := range_below HR.out hb3
      have hT1 := there_below H1.out hb3
      have hT2 := there_below H2.out hb3
      have hB1 := Below.chain HBW.out hb3
      have p0 := cell18 hO1 (j := k) (by omega)
      have f0 := there_froz hT2 (j := k) (by omega)
      have O1 := range_set hO1 (j := k) (mvC true (bg b k')) (by omega)
      have R1 := World.rangeAt_setCells_apart hR1 (w.heap.size + 1 + 1) k [.int .i64 (mvC true (bg b k'))] (.inl (by omega))
      have T1 := there_set hT1 (w.heap.size + 1 + 1) k (.int .i64 (mvC true (bg b k')))
      have T2 := there_set hT2 (w.heap.size + 1 + 1) k (.int .i64 (mvC true (bg b k')))
      have B1 := hB1.setCell (p := ⟨w.heap.size + 1 + 1, k, none⟩) (by simp; omega) (.int .i64 (mvC true (bg b k')))
      have R1' : World.rangeAt _ w.heap.size 0 (ints b) := R1
      have g1 := cell18 R1' (j := 6 + k') (by omega)
      simp only [World.setCells] at g1
      have HO := Lib.hid O1; have HR := Lib.hid R1'; have H1 := Lib.hid T1; have H2 := Lib.hid T2; have HBW := Lib.hid B1
      clear g0 hb3 hO1 hR1 hT1 hT2 hB1 O1 R1 R1' T1 T2 B1
      go_wp2_with fail
      refine (l2Turn_c (bg b (6 + k')) _ d0 d1).mono ?_
      rintro e w2 ⟨rfl, hb3⟩
      have hO1 := range_below HO.out hb3
      have hR1 := range_below HR.out hb3
      have hT1 := there_below H1.out hb3
      have hT2 := there_below H2.out hb3
      have hB1 := Below.chain HBW.out hb3
      have hl2 : ((seenS true b k).set k (mvC true (bg b k'))).length = 19 := by rw [List.length_set, HL.out, hb]
      have p1 := cell18 hO1 (j := 6 + k) (by omega)
      have f1 := there_froz hT2 (j := 6 + k) (by omega)
      have O1 := range_set hO1 (j := 6 + k) (mvC true (bg b (6 + k'))) (by omega)
      have R1 := World.rangeAt_setCells_apart hR1 (w.heap.size + 1 + 1) (6 + k) [.int .i64 (mvC true (bg b (6 + k')))] (.inl (by omega))
      have T1 := there_set hT1 (w.heap.size + 1 + 1) (6 + k) (.int .i64 (mvC true (bg b (6 + k'))))
      have T2 := there_set hT2 (w.heap.size + 1 + 1) (6 + k) (.int .i64 (mvC true (bg b (6 + k'))))
      have B1 := hB1.setCell (p := ⟨w.heap.size + 1 + 1, 6 + k, none⟩) (by simp; omega) (.int .i64 (mvC true (bg b (6 + k'))))
      have R1' : World.rangeAt _ w.heap.size 0 (ints b) := R1
      have g2 := cell18 R1' (j := 12 + k') (by omega)
      simp only [World.setCells] at g2
      have HO := Lib.hid O1; have HR := Lib.hid R1'; have H1 := Lib.hid T1; have H2 := Lib.hid T2; have HBW := Lib.hid B1
      clear g1 p0 f0 hb3 hO1 hR1 hT1 hT2 hB1 O1 R1 R1' T1 T2 B1 hl2
      go_wp2_with fail
      refine (l2Turn_c (bg b (12 + k')) _ d2 d3).mono ?_
      rintro e w3 ⟨rfl, hb3⟩
      have hO1 := range_below HO.out hb3
      have hR1 := range_below HR.out hb3
      have hT1 := there_below H1.out hb3
      have hT2 := there_below H2.out hb3
      have hB1 := Below.chain HBW.out hb3
      have hl2 : (((seenS true b k).set k (mvC true (bg b k'))).set (6 + k) (mvC true (bg b (6 + k')))).length = 19 := by rw [List.length_set, List.length_set, HL.out, hb]
      have p2 := cell18 hO1 (j := 12 + k) (by omega)
      have f2 := there_froz hT2 (j := 12 + k) (by omega)
      have O1 := range_set hO1 (j := 12 + k) (mvC true (bg b (12 + k'))) (by omega)
      have R1 := World.rangeAt_setCells_apart hR1 (w.heap.size + 1 + 1) (12 + k) [.int .i64 (mvC true (bg b (12 + k')))] (.inl (by omega))
      have T1 := there_set hT1 (w.heap.size + 1 + 1) (12 + k) (.int .i64 (mvC true (bg b (12 + k'))))
      have T2 := there_set hT2 (w.heap.size + 1 + 1) (12 + k) (.int .i64 (mvC true (bg b (12 + k'))))
      have B1 := hB1.setCell (p := ⟨w.heap.size + 1 + 1, 12 + k, none⟩) (by simp; omega) (.int .i64 (mvC true (bg b (12 + k'))))
      have R1' : World.rangeAt _ w.heap.size 0 (ints b) := R1
      have e5 : 5 - k = k' := by have := HK.out; omega
      have hS2 : seenS true b (k + 1) = (((seenS true b k).set k (mvC true (bg b k'))).set (6 + k) (mvC true (bg b (6 + k')))).set (12 + k) (mvC true (bg b (12 + k'))) := by rw [HS.out, e5]; rfl
      rw [← hS2] at O1
      clear hS2 e5
      have HO := Lib.hid O1; have HR := Lib.hid R1'; have H1 := Lib.hid T1; have H2 := Lib.hid T2; have HBW := Lib.hid B1
      clear g2 p1 f1 hb3 hO1 hR1 hT1 hT2 hB1 O1 R1 R1' T1 T2 B1 hl2
      go_wp2
      go_roundw
      case rel => exact ⟨k + 1, by omega, by go_num, HR.out, HO.out, H1.out, H2.out, HBW.out⟩
      case measure => simp [intOf]; omega
  · obtain rfl : k = 6 := by omega
    have hl := HL.out 6
    rw [hb] at hl
    have hk2 := World.rangeAt_setCells_same wr (w.heap.size + 1) 0 (ints (seenS t b 6)) (by simpa [hl] using h1)
    have hbe := below_cells (ints (seenS t b 6)) wr (w.heap.size + 1) 0 hbw (by omega)
    have hld := loadVarB hk2 hl
    go_wp2_with (first | (refine wpList_loadB rfl _ rfl _ rfl _ ho hl ?_) | (refine wpList_storeB rfl _ _ rfl _ _ rfl rfl h1 hl ?_))
    exact bodyPost_ret (v := aggI (seenS t b 6)) (res_cell Tryz.results189 rfl hld) rfl ⟨rfl, hbe⟩
end Go.Proofs.YtohgjfdbnkjefaaGreatDoor
namespace Go.Proofs.YtohgjfdbnkjefaaGreatDoor
end Go.Proofs.YtohgjfdbnkjefaaGreatDoor
