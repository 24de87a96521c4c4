import Derived.Test.YtohgjfdbnkjefaaGreatDoorKc10
import Derived.Deep.DeepCutAuto
import Derived.Laws.IdiomCopy
import Derived.Lib.SlBuf
import Derived.Deep.CutBlock
import Derived.Deep.RegionHeld3
open Go.World (rangeAt_setCells_same)
open Go.Lib (hid)
namespace Go.Proofs.YtohgjfdbnkjefaaGreatDoor
open Go.RowKit
set_option linter.unusedVariables false
set_option maxRecDepth 100000
theorem l12Make_c (b : List Int) (k a v : Int) (w : World) (hb : b.length = 19) (hg : goodB b = true) :
 Calls Tryz.prog 142 #[aggI b, jobV k a v] w (MkPost w b k a v) := by
 rcases ha : inB a 0 5 with _ | _
 · exact make_a b k a v w hb hg ha
 have h2 := inB_true ha
 obtain ⟨an, rfl⟩ := Int.eq_ofNat_of_zero_le h2.1
 have han : an < 6 := by omega
 by_cases k1 : k = 1
 · subst k1
   rcases hv : inB v 0 9 with _ | _
   · exact make_1n b an v w hb hg han hv
   · have h3 := inB_true hv
     obtain ⟨vn, rfl⟩ := Int.eq_ofNat_of_zero_le h3.1
     exact make_1y b an vn w hb hg han (by omega)
 by_cases k2 : k = 2
 · subst k2; exact make_2 b an v w hb hg han
 by_cases k3 : k = 3
 · subst k3
   rcases hv : inB v 0 6 with _ | _
   · exact make_3n b an v w hb hg han hv
   · have h3 := inB_true hv
     obtain ⟨vn, rfl⟩ := Int.eq_ofNat_of_zero_le h3.1
     exact make_3y b an vn w hb hg han (by omega)
 by_cases k4 : k = 4
 · subst k4
   rcases hv : inB v 0 6 with _ | _
   · exact make_4n b an v w hb hg han hv
   · have h3 := inB_true hv
     obtain ⟨vn, rfl⟩ := Int.eq_ofNat_of_zero_le h3.1
     exact make_4y b an vn w hb hg han (by omega)
 by_cases k5 : k = 5
 · subst k5; exact make_5 b an v w hb hg han
 by_cases k6 : k = 6
 · exact make_67 b k true _ v w hb hg ha (.inl ⟨k6, rfl⟩)
 by_cases k7 : k = 7
 · exact make_67 b k false _ v w hb hg ha (.inr ⟨k7, rfl⟩)
 exact make_o b k an v w hb hg han k1 k2 k3 k4 k5 k6 k7
def jobB (b : List Int) (k a v : Int) : List Int := if possB b k a v then doB b k a v else zeroI
theorem jobB_len {b : List Int} (hb : b.length = 19) (hg : goodB b = true) (k a v : Int) : (jobB b k a v).length = 19 := by
 unfold jobB
 split
 · rename_i h
   unfold possB at h
   simp only [Bool.and_eq_true] at h
   exact (cnt_good hb hg h.2).2.1
 · simp [zeroI]
def jobsV (b : List Int) (k a v : Int) : Value := mkV (jobB b k a v) (possB b k a v)
set_option maxHeartbeats 2000000 in
theorem l12Do_c (b : List Int) (k a v : Int) (w : World) (hb : b.length = 19) (hg : goodB b = true) :
 Calls Tryz.prog 89 #[aggI b, jobV k a v] w fun e w' => e = .returned (jobsV b k a v) ∧ Below w.heap.size w w' := by
 obtain ⟨r0, -, t1, -, -, -, hb0⟩ := set3 b k a v w hb
 have hsz : w.heap.size + 1 + 1 < (((w.alloc (.cells (ints b).toArray 26)).alloc (.cells #[.int .i64 k, .int .i64 a, .int .i64 v] 123)).alloc zB).heap.size := by simp
 have gc := inB_true (goodB_all.1 hg).2
 have HM := hid (fun w => l12Make_c b k a v w hb hg)
 unfold aggI jobV at *
 unfold zBA zB at *
 go_enter Tryz.func89, Tryz.ntmps89
 go_wp2_with (refine wpList_loadB rfl _ rfl _ rfl b r0 hb ?_)
 refine (HM.out _).mono ?_
 rintro e w1 ⟨X, rfl, hX, hXm, hb1⟩
 have r1 := range_below r0 hb1
 have u1 := there_below t1 hb1
 have b1 := Below.chain hb0 hb1
 have z1 := Nat.lt_of_lt_of_le hsz hb1.size
 have r2 := World.rangeAt_alloc r1 zB
 have u2 := World.there_alloc u1 zB
 have b2 := Below.alc b1 zB
 have t2 := there_new w1 zBA 26 (n := 19) (by decide)
 have r3 := World.rangeAt_setCells_apart r2 w1.heap.size 0 (ints X) (.inl (by omega))
 have u3 := World.there_setCells u2 w1.heap.size 0 (ints X)
 have t3 := World.there_setCells t2 w1.heap.size 0 (ints X)
 have c3 := rangeAt_setCells_same (w1.alloc zB) w1.heap.size 0 (ints X) (by rw [show (ints X).length = 19 by simp [ints, hX]]; exact t2)
 have b3 := below_cells (ints X) (w1.alloc zB) w1.heap.size 0 b2 (by omega)
 have g18 := cell18 r3 (j := 18) (by omega)
 have g18o := cell18 c3 (j := 18) (by omega)
 have f18o := there_froz t3 (j := 18) (by omega)
 have c4 := range_set c3 (j := 18) (bg b 18 + 1) (by omega)
 have u4 := there_set u3 w1.heap.size 18 (.int .i64 (bg b 18 + 1))
 have b4 := b3.setCell (p := ⟨w1.heap.size, 18, none⟩) (by simp; omega) (.int .i64 (bg b 18 + 1))
 have hY : (X.set 18 (bg b 18 + 1)).length = 19 := by rw [List.length_set, hX]
 clear r0 t1 hb0 hb1 r1 u1 b1 hsz r2 u2 b2 r3 u3 t3 c3 b3
 rcases hm : makeB b k a v with _ | _
 · have hF : Hid (jobsV b k a v = mkV zeroI false) := by
    have hp : possB b k a v = false := by unfold possB; rw [hm]; simp
    show _ = _
    unfold jobsV jobB; rw [hp]; rfl
   have hz : zeroI.length = 19 := by simp [zeroI]
   have K5 := loadVarB (rangeAt_setCells_same _ (w.heap.size + 1 + 1) 0 (ints zeroI) (by simpa [hz] using u4)) hz
   have K6 := below_cells (ints zeroI) _ (w.heap.size + 1 + 1) 0 b4 (by omega)
   have HM2 := hid hm
   unfold mkV aggI zB zBA at *
   clear c4 hm
   go_wp2_with (first | (refine wpList_storeB rfl _ _ rfl _ X rfl rfl t2 hX ?_) | (refine wpList_storeB rfl _ _ rfl _ zeroI rfl rfl u4 hz ?_))
   exact bodyPost_ret (v := mkV zeroI false) (res_cell2 Tryz.results89 rfl K5) rfl ⟨by rw [hF.out]; rfl, K6⟩
 · obtain ⟨hG, hL, hE⟩ := cnt_good hb hg hm
   have hXe := hXm hm
   subst hXe
   rw [← hE] at c4 hY
   have HE := hid hE
   rcases hq : goodB (doB b k a v) with _ | _
   · have hF : Hid (jobsV b k a v = mkV zeroI false) := by
      have hp : possB b k a v = false := by unfold possB; rw [← hG, hq]; rfl
      show _ = _
      unfold jobsV jobB; rw [hp]; rfl
     have HG := hid hq
     have hz : zeroI.length = 19 := by simp [zeroI]
     have HGC := hid (fun w => l12Good_c (doB b k a v) w hL)
     clear hE hG hq hXm
     generalize doB b k a v = Y at *
     generalize madeB b k a.toNat v = X at *
     unfold mkV aggI zB zBA at *
     clear hm
     go_wp2_with (first | (refine wpList_storeB rfl _ _ rfl _ X rfl rfl t2 hX ?_) | (refine wpList_loadB rfl _ rfl _ rfl _ c4 hL ?_))
     refine (HGC.out _).mono ?_
     rintro e w5 ⟨rfl, hb5⟩
     rw [HG.out]
     have u5 := there_below u4 hb5
     have b5 := Below.chain b4 hb5
     have K5 := loadVarB (rangeAt_setCells_same _ (w.heap.size + 1 + 1) 0 (ints zeroI) (by simpa [hz] using u5)) hz
     have K6 := below_cells (ints zeroI) _ (w.heap.size + 1 + 1) 0 b5 (by omega)
     clear u4 b4 c4
     go_wp2_with (refine wpList_storeB rfl _ _ rfl _ zeroI rfl rfl u5 hz ?_)
     exact bodyPost_ret (v := mkV zeroI false) (res_cell2 Tryz.results89 rfl K5) rfl ⟨by rw [hF.out]; rfl, K6⟩
   · have hF : Hid (jobsV b k a v = mkV (doB b k a v) true) := by
      have hp : possB b k a v = true := by unfold possB; rw [← hG, hq, hm]; rfl
      show _ = _
      unfold jobsV jobB; rw [hp]; rfl
     have HG := hid hq
     have HGC := hid (fun w => l12Good_c (doB b k a v) w hL)
     clear hE hG hq hXm
     generalize doB b k a v = Y at *
     generalize madeB b k a.toNat v = X at *
     unfold mkV aggI zB zBA at *
     clear hm
     go_wp2_with (first | (refine wpList_storeB rfl _ _ rfl _ X rfl rfl t2 hX ?_) | (refine wpList_loadB rfl _ rfl _ rfl _ c4 hL ?_))
     refine (HGC.out _).mono ?_
     rintro e w5 ⟨rfl, hb5⟩
     rw [HG.out]
     have u5 := there_below u4 hb5
     have b5 := Below.chain b4 hb5
     have c5 := range_below c4 hb5
     have K5 := loadVarB (rangeAt_setCells_same _ (w.heap.size + 1 + 1) 0 (ints Y) (by simpa [hL] using u5)) hL
     have K6 := below_cells (ints Y) _ (w.heap.size + 1 + 1) 0 b5 (by omega)
     clear u4 b4 c4
     go_wp2_with (first | (refine wpList_loadB rfl _ rfl _ rfl _ c5 hL ?_) | (refine wpList_storeB rfl _ _ rfl _ Y rfl rfl u5 hL ?_))
     exact bodyPost_ret (v := mkV Y true) (res_cell2 Tryz.results89 rfl K5) rfl ⟨by rw [hF.out]; rfl, K6⟩
end Go.Proofs.YtohgjfdbnkjefaaGreatDoor
namespace Go.Proofs.YtohgjfdbnkjefaaGreatDoor
open Go.RowKit
set_option linter.unusedVariables false
set_option linter.unusedSimpArgs false
set_option maxRecDepth 100000
attribute [local go_sem ↓] Go.wp_at_zero Go.wp_at_succ
end Go.Proofs.YtohgjfdbnkjefaaGreatDoor
namespace Go.Proofs.YtohgjfdbnkjefaaGreatDoor
open Go.RowKit
set_option linter.unusedVariables false
set_option maxRecDepth 100000
abbrev J3 : Type := Int × Int × Int
def flat3 (ps : List J3) : List Value := ps.flatMap fun p => [.int .i64 p.1, .int .i64 p.2.1, .int .i64 p.2.2]
theorem flat3_cons (p : J3) (ps : List J3) : flat3 (p :: ps) = .int .i64 p.1 :: .int .i64 p.2.1 :: .int .i64 p.2.2 :: flat3 ps := by simp [flat3]
theorem flat3_at {ps : List J3} {k : Nat} {p : J3} (h : ps[k]? = some p) : (flat3 ps)[k * 3]? = some (.int .i64 p.1) ∧ (flat3 ps)[k * 3 + 1]? = some (.int .i64 p.2.1) ∧ (flat3 ps)[k * 3 + 2]? = some (.int .i64 p.2.2) := by
 induction ps generalizing k with
 | nil => simp at h
 | cons q ps ih =>
  rw [flat3_cons]
  cases k with
  | zero => simp at h; subst h; simp
  | succ k =>
   simp at h
   have := ih h
   refine ⟨?_, ?_, ?_⟩
   · rw [show (k + 1) * 3 = k * 3 + 3 by omega]; simpa using this.1
   · rw [show (k + 1) * 3 + 1 = k * 3 + 1 + 3 by omega]; simpa using this.2.1
   · rw [show (k + 1) * 3 + 2 = k * 3 + 2 + 3 by omega]; simpa using this.2.2
def Trips (w : World) (v : Value) (ps : List J3) : Prop := Sl w 3 v ps.length (flat3 ps)
theorem Trips.below {w w' : World} {v : Value} {ps : List J3} (h : Trips w v ps) (hb : Below w.heap.size w w') : Trips w' v ps := Sl.below h hb
theorem Trips.le {w : World} {v : Value} {ps : List J3} (h : Trips w v ps) : ps.length ≤ 9223372036854775807 := Sl.le h
theorem Trips.of_own {w : World} {lo : Nat} {e : TypeId} {v : Value} {ps : List J3} (h : w.ownsRow lo e 3 v ps.length (flat3 ps)) : Trips w v ps := Sl.of_own h
theorem Trips.parts {w : World} {v : Value} {ps : List J3} (h : Trips w v ps) : ∃ a c, v = .slice a ps.length c ∧ ps.length ≤ c ∧ c ≤ 9223372036854775807 ∧
 Hid (∀ k p, ps[k]? = some p → ∃ b off, a = some ⟨b, off, none⟩ ∧ w.cell? ⟨b, off + k * 3, none⟩ = some (.int .i64 p.1) ∧ w.cell? ⟨b, off + k * 3 + 1, none⟩ = some (.int .i64 p.2.1) ∧ w.cell? ⟨b, off + k * 3 + 2, none⟩ = some (.int .i64 p.2.2)) := by
 obtain ⟨a, c, rfl, h1, h2, h3, h4⟩ := h
 refine ⟨a, c, rfl, h1, by unfold maxLen at h2; omega, fun k p hk => ?_⟩
 have hlt : k < ps.length := (List.getElem?_eq_some_iff.1 hk).1
 obtain ⟨b, off, rfl, hc⟩ := h4 (by omega)
 have := flat3_at hk
 refine ⟨b, off, rfl, ?_, ?_, ?_⟩
 · rw [hc _ (by omega)]; exact this.1
 · rw [Nat.add_assoc, hc _ (by omega)]; exact this.2.1
 · rw [Nat.add_assoc, hc _ (by omega)]; exact this.2.2
def z3 : J3 := (0, 0, 0)
end Go.Proofs.YtohgjfdbnkjefaaGreatDoor
namespace Go.Proofs.YtohgjfdbnkjefaaGreatDoor
open Go.RowKit
set_option linter.unusedVariables false
set_option linter.unusedSimpArgs false
set_option maxRecDepth 100000
attribute [local go_sem ↓] Go.wp_at_zero Go.wp_at_succ
def runJ : List J3 → List Int → List Int × Nat
 | [], b => (b, 0)
 | j :: t, b => if possB b j.1 j.2.1 j.2.2 then ((runJ t (doB b j.1 j.2.1 j.2.2)).1, (runJ t (doB b j.1 j.2.1 j.2.2)).2 + 1) else (b, 0)
theorem poss_make {b : List Int} {k a v : Int} (h : possB b k a v = true) : makeB b k a v = true := by
 unfold possB at h; simp only [Bool.and_eq_true] at h; exact h.2
theorem poss_good {b : List Int} {k a v : Int} (hb : b.length = 19) (hg : goodB b = true) (h : possB b k a v = true) : goodB (doB b k a v) = true ∧ (doB b k a v).length = 19 := by
 have hc := cnt_good hb hg (poss_make h)
 unfold possB at h; simp only [Bool.and_eq_true] at h
 exact ⟨by rw [hc.1]; exact h.1, hc.2.1⟩
def RunAt (js : List J3) (b0 : List Int) (k : Nat) (cur : List Int) : Prop := runJ js b0 = ((runJ (js.drop k) cur).1, k + (runJ (js.drop k) cur).2)
theorem RunAt.zero (js : List J3) (b0 : List Int) : RunAt js b0 0 b0 := by unfold RunAt; simp
theorem drop_at {α : Type} {js : List α} {k : Nat} {x : α} (hx : js[k]? = some x) : js.drop k = x :: js.drop (k + 1) := by
 have hlt := (List.getElem?_eq_some_iff.1 hx).1
 rw [List.drop_eq_getElem_cons hlt]
 rw [List.getElem?_eq_getElem hlt] at hx
 rw [Option.some.inj hx]
theorem RunAt.next {js : List J3} {b0 cur : List Int} {k : Nat} {x : J3} (h : RunAt js b0 k cur) (hx : js[k]? = some x) (hp : possB cur x.1 x.2.1 x.2.2 = true) : RunAt js b0 (k + 1) (doB cur x.1 x.2.1 x.2.2) := by
 unfold RunAt at *
 rw [h, drop_at hx]
 conv => lhs; unfold runJ
 rw [if_pos hp]
 simp; omega
theorem RunAt.stop {js : List J3} {b0 cur : List Int} {k : Nat} {x : J3} (h : RunAt js b0 k cur) (hx : js[k]? = some x) (hp : possB cur x.1 x.2.1 x.2.2 = false) : runJ js b0 = (cur, k) := by
 unfold RunAt at *
 rw [h, drop_at hx]
 unfold runJ
 rw [if_neg (by rw [hp]; simp)]; rfl
theorem RunAt.done {js : List J3} {b0 cur : List Int} (h : RunAt js b0 js.length cur) : runJ js b0 = (cur, js.length) := by
 unfold RunAt at *
 rw [h, List.drop_length]; rfl
theorem res_cell3 {P : Program} {fn : Func} {r k m : Nat} {t : TypeId} {tmps : Array Value} {w : World} {g : Nat} {v : Value} (h : fn.results = #[.cell r t, .tmp k, .tmp m]) (hr : tmps.getD r undef = .pointer (some ⟨g, 0, none⟩)) (hl : (loadVar t ⟨g, 0, none⟩).run P w = .ok v w) :
 (results fn tmps).run P w = .ok (.tuple #[v, tmps.getD k undef, tmps.getD m undef]) w := by
 unfold results
 rw [h]
 simp only [List.mapM_toArray, List.mapM_cons, List.mapM_nil, Sem.run_bind, Sem.run_pure, Sem.run_map, Result.andThen_ok, hr, asAddr, hl]
 rfl
end Go.Proofs.YtohgjfdbnkjefaaGreatDoor
namespace Go.Proofs.YtohgjfdbnkjefaaGreatDoor
set_option linter.unusedVariables false
set_option linter.unusedSimpArgs false
def padB (r : List Int) : List Int := r ++ List.replicate (19 - r.length) 0
def nbB (r : List Int) : List Int := if rowB r then padB r else zeroI
theorem rowB_len {r : List Int} (h : rowB r = true) : r.length ≤ 6 := by
 unfold rowB at h; simp only [Bool.and_eq_true, decide_eq_true_eq] at h; exact h.1
theorem padB_len {r : List Int} (h : r.length ≤ 6) : (padB r).length = 19 := by simp [padB]; omega
theorem nbB_len (r : List Int) : (nbB r).length = 19 := by
 unfold nbB
 split
 · exact padB_len (rowB_len ‹_›)
 · simp [zeroI]
theorem bg_pad_hi {r : List Int} (h : r.length ≤ 6) {j : Nat} (hj : r.length ≤ j) (hj2 : j < 19) : bg (padB r) j = 0 := by
 unfold bg padB
 rw [List.getD_eq_getElem?_getD, List.getElem?_append_right hj, List.getElem?_replicate]
 split <;> rfl
theorem bg_pad_lo {r : List Int} {j : Nat} (hj : j < r.length) : bg (padB r) j = bg r j := by
 unfold bg padB
 rw [List.getD_eq_getElem?_getD, List.getElem?_append_left hj, List.getD_eq_getElem?_getD]
theorem nbB_good {r : List Int} (h : rowB r = true) : goodB (nbB r) = true := by
 have hl := rowB_len h
 unfold nbB
 rw [if_pos h, goodB_all]
 refine ⟨fun j hj => ?_, by rw [bg_pad_hi hl (by omega) (by omega)]; rfl⟩
 have hf : faultB (bg (padB r) (6 + j)) (bg (padB r) (12 + j)) = true := by rw [bg_pad_hi hl (by omega) (by omega), bg_pad_hi hl (by omega) (by omega)]; rfl
 by_cases hj2 : j < r.length
 · have hc := rowB_cell h (List.getElem?_eq_getElem hj2)
   have e : bg (padB r) j = r[j] := by rw [bg_pad_lo hj2]; simp [bg, hj2]
   exact goodAt_mk (by rw [e]; exact hc.1) (by rw [e]; exact hc.2) hf
 · exact goodAt_mk (by rw [bg_pad_hi hl (by omega) (by omega)]; decide) (by rw [bg_pad_hi hl (by omega) (by omega)]; decide) hf
open Go.RowKit
set_option maxRecDepth 100000
theorem size_setCells : ∀ (vs : List Value) (w : World) (b o : Nat), (w.setCells b o vs).heap.size = w.heap.size
 | [], _, _, _ => rfl
 | v :: r, w, b, o => (size_setCells r _ b (o + 1)).trans (by simp [World.setCell])
theorem zero_len : zeroI.length = 19 := by simp [zeroI]
def padTo (r : List Int) (k : Nat) : List Int := r.take k ++ List.replicate (19 - k) 0
theorem padTo_zero (r : List Int) : padTo r 0 = zeroI := by simp [padTo, zeroI]
theorem padTo_all (r : List Int) : padTo r r.length = padB r := by simp [padTo, padB]
theorem padTo_len {r : List Int} {k : Nat} (h : k ≤ r.length) (h6 : r.length ≤ 6) : (padTo r k).length = 19 := by simp [padTo]; omega
theorem padTo_succ {r : List Int} {k : Nat} {x : Int} (hx : r[k]? = some x) (h6 : r.length ≤ 6) : (padTo r k).set k x = padTo r (k + 1) := by
 have hk := (List.getElem?_eq_some_iff.1 hx).1
 unfold padTo
 rw [take_snoc hx, List.set_append, if_neg (by rw [List.length_take]; omega), show 19 - k = (19 - (k + 1)) + 1 by omega, List.replicate_succ]
 have e : k - (r.take k).length = 0 := by rw [List.length_take]; omega
 rw [e]
 simp
set_option maxHeartbeats 1600000 in
theorem sNewBench_c (v : Value) (xs : List Int) (w : World) (hv : Ints w v xs) :
 Calls Tryz.prog 87 #[v] w fun e w' => e = .returned (mkV (nbB xs) (rowB xs)) ∧ Below w.heap.size w w' := by
 have HV := hid hv
 obtain ⟨a, c, rfl, _, _, _⟩ := hv.parts
 have HR := hid (fun w h => l2Row_c (.slice a xs.length c) xs w h)
 have t0 : ((w.alloc zB).alloc zB).there w.heap.size 0 19 := World.there_alloc (there_new w zBA 26 (n := 19) (by decide)) zB
 have u0 : ((w.alloc zB).alloc zB).there (w.heap.size + 1) 0 19 := by
  have := there_new (w.alloc zB) zBA 26 (n := 19) (by decide)
  rw [World.size_alloc] at this
  exact this
 have hzl : (ints zeroI).length = 19 := by simp [ints, zero_len]
 have hb0 : Below w.heap.size w ((w.alloc zB).alloc zB) := qBl
 have hz := zero_len
 have HV0 := hid (HV.out.below hb0)
 have r0 := rangeAt_setCells_same ((w.alloc zB).alloc zB) (w.heap.size + 1) 0 (ints zeroI) (by rw [hzl]; exact u0)
 have t1 := World.there_setCells t0 (w.heap.size + 1) 0 (ints zeroI)
 have u1 := World.there_setCells u0 (w.heap.size + 1) 0 (ints zeroI)
 have hb1 := below_cells (ints zeroI) ((w.alloc zB).alloc zB) (w.heap.size + 1) 0 hb0 (by omega)
 have HV1 : Hid (Ints (((w.alloc zB).alloc zB).setCells (w.heap.size + 1) 0 (ints zeroI)) (.slice a xs.length c) xs) := HV.out.below hb1
 clear hv HV0
 have hs1 : w.heap.size + 1 < (((w.alloc zB).alloc zB).setCells (w.heap.size + 1) 0 (ints zeroI)).heap.size := by rw [size_setCells]; simp
 unfold mkV aggI
 unfold zB at *
 try unfold zBA at *
 rcases hq : rowB xs with _ | _
 · have HF := hid (show nbB xs = zeroI by simp [nbB, hq])
   have HQ := hid hq; clear hq
   go_enter Tryz.func87, Tryz.ntmps87
   go_wp2_with (refine wpList_storeB rfl _ _ rfl _ zeroI rfl rfl ?_ hz ?_; exact u0)
   refine (HR.out _ HV1.out).mono ?_
   rintro e w1 ⟨rfl, hb2⟩
   rw [HQ.out]
   have r2 := range_below r0 hb2
   have t2 := there_below t1 hb2
   have hb3 := Below.chain hb1 hb2
   have K5 := loadVarB (rangeAt_setCells_same w1 w.heap.size 0 (ints zeroI) (by simpa [hz] using t2)) hz
   have K6 := below_cells (ints zeroI) w1 w.heap.size 0 hb3 (by omega)
   clear t0 u0 hb0 r0 t1 u1 hb1 hb2 hs1
   go_wp2_with (first | (refine wpList_loadB rfl _ rfl _ rfl _ r2 hz ?_) | (refine wpList_storeB rfl _ _ rfl _ zeroI rfl rfl t2 hz ?_))
   exact bodyPost_ret (v := mkV zeroI false) (res_cell2 Tryz.results87 rfl K5) rfl ⟨by rw [HF.out]; rfl, K6⟩
 · have HF := hid (show nbB xs = padB xs by simp [nbB, hq])
   have HQ := hid hq
   have h6 := rowB_len hq
   have hpl := padB_len h6
   clear hq
   go_enter Tryz.func87, Tryz.ntmps87
   go_wp2_with (refine wpList_storeB rfl _ _ rfl _ zeroI rfl rfl ?_ hz ?_; exact u0)
   refine (HR.out _ HV1.out).mono ?_
   rintro e w1 ⟨rfl, hb2⟩
   rw [HQ.out]
   have r2 := range_below r0 hb2
   have t2 := there_below t1 hb2
   have u2 := there_below u1 hb2
   have hb3 := Below.chain hb1 hb2
   have HV2 := hid (HV1.out.below hb2)
   have hs2 := Nat.lt_of_lt_of_le hs1 hb2.size
   clear t0 u0 hb0 r0 t1 u1 hb1 hb2 hs1 HV1
   go_wp2
   go_loopw [5] (fun j wr => ∃ k : Nat, k ≤ xs.length ∧ j = .int .i64 (k : Int) ∧ wr.rangeAt (w.heap.size + 1) 0 (ints (padTo xs k)) ∧ wr.there w.heap.size 0 19 ∧ wr.there (w.heap.size + 1) 0 19 ∧ Below w.heap.size w wr) (fun j _ => 7 - (intOf j).toNat)
   case atStart => exact ⟨0, by omega, rfl, by rw [padTo_zero]; exact r2, t2, u2, hb3⟩
   case round =>
    obtain ⟨k, hk, rfl, hr, ht, hu, hb⟩ := hrel
    by_cases hlt : k < xs.length
    · have hd : decide ((k : Int) < (xs.length : Int)) = true := by simp; omega
      obtain ⟨x, hxx⟩ := elem_at hlt
      obtain ⟨_, _, he, _, _, H2⟩ := (HV.out.below hb).parts
      simp only [Value.slice.injEq, true_and] at he
      obtain ⟨rfl, rfl⟩ := he
      obtain ⟨b, off, rfl, hc⟩ := H2.out k x hxx.out
      have n0 : (0 : Int) ≤ (k : Int) := by omega
      have n1 : (k : Int) < 6 := by omega
      have g0 := there_froz hu (j := k) (by omega)
      obtain ⟨z0, g1⟩ := there_some hu (j := k) (by omega)
      have R : Hid ((wr.setCell ⟨w.heap.size + 1, k, none⟩ (.int .i64 x)).rangeAt (w.heap.size + 1) 0 (ints (padTo xs (k + 1)))) := by
       show World.rangeAt _ _ _ _
       rw [← padTo_succ hxx.out h6]
       exact range_set hr x (by rw [padTo_len hk h6]; omega)
      have T1 := hid (there_set ht (w.heap.size + 1) k (.int .i64 x))
      have T2 := hid (there_set hu (w.heap.size + 1) k (.int .i64 x))
      have BW := hid (hb.setCell (p := ⟨w.heap.size + 1, k, none⟩) (by simp) (.int .i64 x))
      clear hr ht hu hb H2
      go_wp2
      go_roundw
      case rel => exact ⟨k + 1, by omega, by go_num, R.out, T1.out, T2.out, BW.out⟩
      case measure => simp [intOf]; omega
    · obtain rfl : k = xs.length := by omega
      rw [padTo_all] at hr
      have K5 := loadVarB (rangeAt_setCells_same wr w.heap.size 0 (ints (padB xs)) (by simpa [hpl] using ht)) hpl
      have K6 := below_cells (ints (padB xs)) wr w.heap.size 0 hb (by omega)
      go_wp2_with (first | (refine wpList_loadB rfl _ rfl _ rfl _ hr hpl ?_) | (refine wpList_storeB rfl _ _ rfl _ (padB xs) rfl rfl ht hpl ?_))
      exact bodyPost_ret (v := mkV (padB xs) true) (res_cell2 Tryz.results87 rfl K5) rfl ⟨by rw [HF.out]; rfl, K6⟩
end Go.Proofs.YtohgjfdbnkjefaaGreatDoor
namespace Go.Proofs.YtohgjfdbnkjefaaGreatDoor
open Go.RowKit
set_option linter.unusedVariables false
set_option linter.unusedSimpArgs false
set_option maxRecDepth 100000
theorem Bk.range {w : World} {g t : Nat} {b : List Value} (h : Bk w g t b.toArray) : w.rangeAt g 0 b := fun j v hv => by
 rw [Nat.zero_add, h.cell j]; simpa using hv
theorem Bk.there {w : World} {g t : Nat} {cs : Array Value} (h : Bk w g t cs) {n : Nat} (hn : n ≤ cs.size) : w.there g 0 n := fun j hj => by
 rw [Nat.zero_add]
 exact ⟨by rw [h.cell j, Array.getElem?_eq_getElem (by omega)]; rfl, h.frozen j⟩
def putA (cs : Array Value) : Nat → List Value → Array Value
 | _, [] => cs
 | o, v :: r => putA (cs.setIfInBounds o v) (o + 1) r
theorem Bk.puts : ∀ (vs : List Value) {w : World} {g t : Nat} {cs : Array Value} (o : Nat), Bk w g t cs → Bk (w.setCells g o vs) g t (putA cs o vs)
 | [], _, _, _, _, _, h => h
 | v :: r, _, _, _, _, o, h => Bk.puts r (o + 1) (h.set o v)
theorem putA_list : ∀ (vs m l : List Value), m.length = vs.length → putA (l ++ m).toArray l.length vs = (l ++ vs).toArray
 | [], m, l, h => by
  have : m = [] := List.eq_nil_of_length_eq_zero h
  subst this
  rfl
 | v :: r, [], l, h => by cases h
 | v :: r, x :: m, l, h => by
  have e : ((l ++ x :: m).toArray.setIfInBounds l.length v) = ((l ++ [v]) ++ m).toArray := by
   simp [List.set_append]
  have ih := putA_list r m (l ++ [v]) (by simpa using h)
  show putA ((l ++ x :: m).toArray.setIfInBounds l.length v) (l.length + 1) r = _
  rw [e, show l.length + 1 = (l ++ [v]).length by simp, ih]
  simp
theorem Bk.putB {w : World} {g t : Nat} {b Y : List Int} (h : Bk w g t (ints b).toArray) (hb : b.length = 19) (hY : Y.length = 19) : Bk (w.setCells g 0 (ints Y)) g t (ints Y).toArray := by
 have h2 := h.puts (ints Y) 0
 have e := putA_list (ints Y) (ints b) [] (by simp [ints, hb, hY])
 simp only [List.nil_append, List.length_nil] at e
 rw [e] at h2
 exact h2
theorem Bk.far : ∀ (vs : List Value) {w : World} {g t : Nat} {cs : Array Value} {g2 : Nat} (o : Nat), Bk w g t cs → g ≠ g2 → Bk (w.setCells g2 o vs) g t cs
 | [], _, _, _, _, _, _, h, _ => h
 | v :: r, _, _, _, _, _, o, h, hn => Bk.far r (o + 1) (h.other (p := ⟨_, o, none⟩) hn v) hn
theorem CStep.puts : ∀ (vs : List Value) {a b : World} {g m : Nat} {g2 : Nat} (o : Nat), CStep a b g m → g < a.heap.size → a.heap.size ≤ g2 → CStep a (b.setCells g2 o vs) g m
 | [], _, _, _, _, _, _, h, _, _ => h
 | v :: r, _, _, _, _, g2, o, h, hga, hp => CStep.puts r (o + 1) (h.store hga (p := ⟨g2, o, none⟩) hp v) hga hp
theorem Bk.setI {w : World} {g t : Nat} {b : List Int} (h : Bk w g t (ints b).toArray) (j : Nat) (x : Int) : Bk (w.setCell ⟨g, j, none⟩ (.int .i64 x)) g t (ints (b.set j x)).toArray := by
 have h2 := h.set j (.int .i64 x)
 rw [ints_set]
 simpa using h2
theorem ints_size {b : List Int} (h : b.length = 19) : (ints b).toArray.size = 19 := by simp [ints, h]
def DrawB (w : World) (g m : Nat) (e : Ending) (w' : World) : Prop := ∃ b : List Int, b.length = 19 ∧ e = .returned (aggI b) ∧ CStep w w' g m
structure BSt (w wx : World) (g m B O : Nat) (b : List Int) : Prop where
 cs : CStep w wx g m
 rb : Bk wx B 26 (ints zeroI).toArray
 bb : Bk wx O 26 (ints b).toArray
 hg : g < B
 hB : B < O
 h0 : w.heap.size = B
 hl : b.length = 19
section
variable {w wx wy : World} {g m m' B O : Nat} {b : List Int}
theorem BSt.gw (h : BSt w wx g m B O b) : g < w.heap.size := by have := h.hg; have := h.h0; omega
theorem BSt.step (h : BSt w wx g m B O b) (hs : CStep wx wy g m') : BSt w wy g m' B O b :=
 ⟨h.cs.trans hs, h.rb.step hs (by have := h.hg; omega), h.bb.step hs (by have := h.hg; have := h.hB; omega), h.hg, h.hB, h.h0, h.hl⟩
theorem BSt.below (h : BSt w wx g m B O b) (hb : Below wx.heap.size wx wy) : BSt w wy g m B O b := h.step ((CStep.refl h.cs.cur).below hb)
theorem BSt.alloc (h : BSt w wx g m B O b) (o : Obj) : BSt w (wx.alloc o) g m B O b := h.below (below_one o)
theorem BSt.drew (h : BSt w wx g m B O b) : BSt w wx.drew g m B O b := h.step (CStep.refl h.cs.cur).drew
theorem BSt.far (h : BSt w wx g m B O b) {q : Nat} (hq : O < q) (vs : List Value) : BSt w (wx.setCells q 0 vs) g m B O b :=
 ⟨h.cs.puts vs 0 h.gw (by have := h.hB; have := h.h0; omega), h.rb.far vs 0 (by have := h.hB; omega), h.bb.far vs 0 (by omega), h.hg, h.hB, h.h0, h.hl⟩
theorem BSt.put (h : BSt w wx g m B O b) {Y : List Int} (hY : Y.length = 19) : BSt w (wx.setCells O 0 (ints Y)) g m B O Y :=
 ⟨h.cs.puts (ints Y) 0 h.gw (by have := h.hB; have := h.h0; omega), h.rb.far _ 0 (by have := h.hB; omega), h.bb.putB h.hl hY, h.hg, h.hB, h.h0, hY⟩
theorem BSt.one (h : BSt w wx g m B O b) (i : Nat) (x : Int) : BSt w (wx.setCell ⟨O, i, none⟩ (.int .i64 x)) g m B O (b.set i x) :=
 ⟨h.cs.store h.gw (p := ⟨O, i, none⟩) (by show w.heap.size ≤ O; have := h.hB; have := h.h0; omega) _, h.rb.other (p := ⟨O, i, none⟩) (by show B ≠ O; have := h.hB; omega) _, h.bb.setI i x, h.hg, h.hB, h.h0, by rw [List.length_set]; exact h.hl⟩
theorem BSt.mono (h : BSt w wx g m B O b) (hm : m ≤ m') : BSt w wx g m' B O b := ⟨h.cs.mono hm, h.rb, h.bb, h.hg, h.hB, h.h0, h.hl⟩
theorem BSt.cell (h : BSt w wx g m B O b) {i : Nat} (hi : i < 19) : ∃ u, wx.cell? ⟨O, i, none⟩ = some u := there_some (h.bb.there (n := 19) (by rw [ints_size h.hl]; decide)) hi
end
set_option maxHeartbeats 8000000 in
theorem bench_c (g m : Nat) (w : World) (h : CurAt w g m) (hm : m + 420 < 4611686018427387904) :
 Calls Tryz.prog 50 #[.pointer (some ⟨g, 0, none⟩)] w (DrawB w g (m + 420)) := by
 have hga := h.lt
 have T0 := hid (Bk.new w 26 zBA)
 have HC := hid ((CStep.refl h).alloc (.cells zBA 26))
 clear h
 unfold DrawB
 go_enter Tryz.func50, Tryz.ntmps50
 go_wp2_with fail
 refine (digits_d g m _ HC.out.cur (by omega)).mono ?_
 rintro e w1 ⟨v, xs, rfl, hlx, ho, hs⟩
 have HS1 := hid (HC.out.trans hs)
 have T1 := hid (T0.out.step hs (by omega))
 have HI := hid (Ints.of_own ho)
 clear hs ho T0 HC hlx
 go_wp2_with fail
 refine (sNewBench_c v xs _ HI.out).mono ?_
 rintro e w2 ⟨rfl, hb⟩
 have hl := nbB_len xs
 have HG : Hid (rowB xs = true → goodB (nbB xs) = true) := nbB_good
 generalize nbB xs = b0 at *
 generalize rowB xs = okb at *
 have R2 := Bk.new w2 26 zBA
 have rt := R2.there (n := 19) (by decide)
 have HB0 : Hid (BSt w ((w2.alloc (.cells zBA 26)).setCells w2.heap.size 0 (ints b0)) g (m + 200) w.heap.size w2.heap.size b0) := by
  have h2 := (T1.out.below hb).lt
  have hgl := (HS1.out.below hb).cur.lt
  exact ⟨((HS1.out.below hb).alloc _).puts (ints b0) 0 hga (by omega), ((T1.out.below hb).alloc _).far (ints b0) 0 (by omega), R2.putB (b := zeroI) zero_len hl, hga, h2, rfl, hl⟩
 clear hb HS1 T1 HI R2
 unfold mkV aggI
 unfold zBA at *
 go_wp2_with (refine wpList_storeB rfl _ _ rfl _ b0 rfl rfl ?_ hl ?_; exact rt)
 generalize hO : w2.heap.size = O at *
 generalize World.setCells _ O 0 (ints b0) = w3 at *
 clear rt hO
 refine (pick_c 8 g _ _ HB0.out.cs.cur (by omega)).mono ?_
 rintro e w4 ⟨x, rfl, hx, hs⟩
 have HB := hid (HB0.out.step hs)
 obtain ⟨n, rfl⟩ := Int.eq_ofNat_of_zero_le hx.1
 have hn : n ≤ 7 := by have := hx.2 (by omega); omega
 clear hs hx HB0
 go_upto_block 0 with fail
 go_cut [5] (fun s5 wx => ∃ b, BSt w wx g (m + 380) w.heap.size O b)
 case first =>
  go_wp2
  go_loopw [5] (fun j wr => ∃ (k : Nat) (b : List Int), k ≤ 7 ∧ j = .int .i64 (k : Int) ∧ Hid (okb = true → goodB b = true) ∧ Hid (BSt w wr g (m + 240 + 20 * (7 - k)) w.heap.size O b)) (fun j _ => (intOf j).toNat)
  case atStart => exact ⟨n, b0, hn, rfl, HG, HB.out.mono (by omega)⟩
  case round =>
   obtain ⟨k, b, hk, rfl, HGb, HR⟩ := hrel
   clear HG HB
   rcases hgo : (decide (0 < k) && okb) with _ | _
   rotate_left
   · simp only [Bool.and_eq_true, decide_eq_true_eq] at hgo
     obtain ⟨hk0, rfl⟩ := hgo
     have hg := HGb.out rfl
     have hl := HR.out.hl
     have hd : decide (0 < (k : Int)) = true := by simp; omega
     have HJ : Hid (∀ (M : Nat) (W : World), CurAt W g M → M + 20 < 4611686018427387904 → Calls Tryz.prog 90 #[.pointer (some ⟨g, 0, none⟩)] W fun e w' => ∃ k a v : Int, e = .returned (.agg #[.int .i64 k, .int .i64 a, .int .i64 v]) ∧ CStep W w' g (M + 20)) := fun M W h1 h2 => job12_c g M W h1 h2
     have HD : Hid (∀ jk ja jb, ∃ (Y : List Int) (ok : Bool), Y.length = 19 ∧ (ok = true → goodB Y = true) ∧ ∀ W, Calls Tryz.prog 89 #[.agg (ints b).toArray, .agg #[.int .i64 jk, .int .i64 ja, .int .i64 jb]] W fun e w' => e = .returned (.tuple #[.agg (ints Y).toArray, .bool ok]) ∧ Below W.heap.size W w') := fun jk ja jb =>
      ⟨jobB b jk ja jb, possB b jk ja jb, jobB_len hl hg jk ja jb, fun hp => by unfold jobB; rw [if_pos hp]; exact (poss_good hl hg hp).1, fun W => l12Do_c b jk ja jb W hl hg⟩
     have HGb' := hid (fun _ : true = true => hg)
     clear hg HGb
     go_upto_region 5 with fail
     go_cut [6, 7] (fun s6 s7 wx => ∃ (q : Nat) (Y : List Int) (ok : Bool), s6 = .pointer (some ⟨q, 0, none⟩) ∧ s7 = .bool ok ∧ Y.length = 19 ∧ Hid (ok = true → goodB Y = true) ∧ Hid (Bk wx q 26 (ints Y).toArray) ∧ Hid (BSt w wx g (m + 240 + 20 * (7 - (k - 1))) w.heap.size O b))
     case first =>
      have F := HR.out.drew
      clear HR
      refine wp_region_held_drew (S := fun w' : World => Bk w' O 26 (ints b).toArray) (by kernel_rfl) F.bb (fun hHeld => ?_)
      generalize World.drew _ = wd at *
      refine' tkL 0 hHeld (cs := ints b) (fun w' (h : Bk w' O 26 (ints b).toArray) => h.range) Tryz.underlying26 (hi19 hl) ?_
      refine' tkZ 1 hHeld ?_
      repeat' first
       | refine' tkZ 4 hHeld ?_
       | refine' tkZ 5 hHeld ?_
       | refine' tkZ 6 hHeld ?_
       | refine' tkZ 9 hHeld ?_
       | (refine wpAnyH_done (by decide +kernel) ?_ _
          go_wp2_with fail
          go_meet
          exact ⟨_, _, _, rfl, rfl, hY, HYG, A, F.mono (by omega)⟩)
       | (refine rdyS [8] (rdy ?_ .nil)
          intro K hK
          rw [if_pos (by rfl)]
          refine wp_store_mid _ _ _ rfl _ _ (ints Y).toArray rfl rfl (A.there (by rw [ints_size hY]; decide)) (by simpa using hi19 hY) (all_oneCell_toArray ints_one) ?_
          rw [List.toList_toArray]
          replace A := A.putB zero_len hY
          replace F := F.far hq (ints Y)
          generalize World.setCells _ _ _ _ = wd at *
          refine hK.out _ _ F.bb fun hHeld => nrm ?_
          clear hK K)
       | ((first
            | refine rdyS [2, 7] (rdy ?_ (rdy ?_ .nil))
            | refine rdyS [3, 7] (rdy ?_ (rdy ?_ .nil))
            | refine rdyS [7] (rdy ?_ .nil)
            | refine rdyS [2] (rdy ?_ .nil)
            | refine rdyS [3] (rdy ?_ .nil)) <;>
          (intro K hK
           go_simp
           first
            | (with_reducible refine (HJ.out _ _ F.cs.cur ?_).mono ?_
               · omega
               rintro e wd ⟨jk, ja, jb, rfl, hs⟩
               replace F := F.step hs
               try replace A := A.step hs (by have := F.hg; have := F.hB; omega))
            | (obtain ⟨Y, ok, hY, HYG, HC⟩ := HD.out jk ja jb
               with_reducible refine (HC _).mono ?_
               clear HC
               rintro e wd ⟨rfl, hb2⟩
               replace F := F.below hb2
               try replace A := A.below hb2)
            | (have A := Bk.new wd 26 zBA
               have hq := F.bb.lt
               replace F := F.alloc (.cells zBA 26)
               unfold zBA at *
               generalize wd.heap.size = q at *
               generalize World.alloc _ _ = wd at *)
           refine hK.out _ _ F.bb fun hHeld => nrm ?_
           clear hK K))
     case rest =>
      obtain ⟨q, Y, ok, rfl, rfl, hY, HYG, AC, HF⟩ := hcut
      have hq := HF.out.bb.lt
      clear HR HJ HD
      cases ok with
      | false =>
       go_wp2
       go_roundw
       case rel => exact ⟨k - 1, b, by omega, by go_num, fun _ => HGb'.out rfl, HF.out⟩
       case measure => simp [intOf]; omega
      | true =>
       have ar := AC.out.range
       have rt := HF.out.bb.there (n := 19) (by rw [ints_size hl]; decide)
       have HF2 := hid (HF.out.put hY)
       go_wp2_with (first | (refine wpList_loadB rfl _ rfl _ rfl _ ar hY ?_) | (refine wpList_storeB rfl _ _ rfl _ Y rfl rfl rt hY ?_))
       go_roundw
       case rel => exact ⟨k - 1, Y, by omega, by go_num, fun _ => HYG.out rfl, HF2.out⟩
       case measure => simp [intOf]; omega
   · have HF : Hid (∃ b, BSt w wr g (m + 380) w.heap.size O b) := ⟨b, HR.out.mono (by omega)⟩
     clear HR HGb
     go_wp2_with fail
     all_goals first | (go_meet; exact HF.out) | (exfalso; simp_all; done)
 case rest =>
  obtain ⟨b, hb⟩ := hcut
  have HB := hid hb
  clear hb HG
  go_wp2_with fail
  refine (pick_c 48 g _ _ HB.out.cs.cur (by omega)).mono ?_
  rintro e w5 ⟨y, rfl, _, hs⟩
  replace HB := hid (HB.out.step hs)
  clear hs
  go_upto_block 2 with fail
  go_cut [] (fun wx => ∃ b, BSt w wx g (m + 420) w.heap.size O b)
  case first =>
   go_wp2_with fail
   all_goals first
    | (go_meet; exact ⟨_, HB.out.mono (by omega)⟩)
    | (have hq := ‹(y == 0) = true›
       refine (amongL_c [-1, 1000, 1001] g _ _ _ (by simp) HB.out.cs.cur (by omega) (by decide) (by decide)).mono ?_
       rintro e w6 ⟨z, rfl, _, hs⟩
       have H2 := HB.out.step hs
       have f := H2.bb.frozen 18
       obtain ⟨u, c⟩ := H2.cell (i := 18) (by omega)
       replace HB := hid (H2.one 18 z)
       clear hs H2
       go_wp2_with fail
       go_meet
       exact ⟨_, HB.out.mono (by omega)⟩)
    | (refine (pick_c 6 g _ _ HB.out.cs.cur (by omega)).mono ?_
       rintro e w6 ⟨z, rfl, hz, hs⟩
       replace HB := hid (HB.out.step hs)
       obtain ⟨zn, rfl⟩ := Int.eq_ofNat_of_zero_le hz.1
       have hzn : zn < 6 := by have := hz.2 (by omega); omega
       have n0 : (0 : Int) ≤ (zn : Int) := by omega
       have n1 : (zn : Int) < 6 := by omega
       clear hs hz
       go_wp2_with fail
       first
        | (have hq := ‹(y == 1) = true›
           refine (cell_c g _ _ HB.out.cs.cur (by omega)).mono ?_)
        | refine (amongL_c [-1, 127, 128, 3] g _ _ _ (by simp) HB.out.cs.cur (by omega) (by decide) (by decide)).mono ?_
       rintro e w7 ⟨z, rfl, _, hs⟩
       have H2 := HB.out.step hs
       have f := H2.bb.frozen zn
       have f2 := H2.bb.frozen (12 + zn)
       obtain ⟨u, c⟩ := H2.cell (i := zn) (by omega)
       obtain ⟨u2, c2⟩ := H2.cell (i := 12 + zn) (by omega)
       have P1 := hid (H2.one zn z)
       have P2 := hid (H2.one (12 + zn) z)
       clear hs H2 HB
       go_wp2_with fail
       go_meet
       first | exact ⟨_, P1.out.mono (by omega)⟩ | exact ⟨_, P2.out.mono (by omega)⟩)
  case rest =>
   obtain ⟨b, hb⟩ := hcut
   clear HB
   have ra := hb.bb.range
   have rt := hb.rb.there (n := 19) (by decide)
   have rc := loadVarB (hb.rb.putB (Y := b) zero_len hb.hl).range hb.hl
   have rd := hid (hb.cs.puts (ints b) (g2 := w.heap.size) 0 hga (by omega))
   have hl := hb.hl
   clear hb
   go_wp2_with (first | (refine wpList_loadB rfl _ rfl _ rfl b ?_ hl ?_; exact ra) | (refine wpList_storeB rfl _ _ rfl _ b rfl rfl ?_ hl ?_; exact rt))
   exact bodyPost_ret (v := aggI b) (res_cell Tryz.results50 rfl rc) rfl ⟨b, hl, rfl, rd.out⟩
end Go.Proofs.YtohgjfdbnkjefaaGreatDoor
namespace Go.Proofs.YtohgjfdbnkjefaaGreatDoor
set_option linter.unusedVariables false
set_option linter.unusedSimpArgs false
def digO (c : Int) : Option Nat := (List.range 10).find? fun (d : Nat) => dg (d : Int) == c
def numSt (o : Option Nat) (c : Int) : Option Nat := match o with
 | none => none
 | some n => (digO c).map fun d => 10 * n + d
def numTo (r : List Int) : Option Nat := r.foldl numSt (some 0)
def numO (r : List Int) : Option Nat := if r = [] then none else numTo r
theorem numTo_snoc (r : List Int) (c : Int) : numTo (r ++ [c]) = numSt (numTo r) c := by unfold numTo; rw [List.foldl_append]; rfl
theorem numSt_none (r : List Int) : r.foldl numSt none = none := by
 induction r with
 | nil => rfl
 | cons x t ih => simp only [List.foldl_cons]; exact ih
theorem numTo_stop {r t : List Int} (h : numTo r = none) : numTo (r ++ t) = none := by
 unfold numTo at *
 rw [List.foldl_append, h]; exact numSt_none t
theorem digO_lt {c : Int} {d : Nat} (h : digO c = some d) : d < 10 := by
 unfold digO at h
 have := List.mem_of_find?_eq_some h
 simpa using this
theorem numTo_lt (r : List Int) (n : Nat) (h : numTo r = some n) : n < 10 ^ r.length := by
 have key : ∀ (k : Nat) (r : List Int), r.length = k → ∀ n, numTo r = some n → n < 10 ^ r.length := by
  intro k
  induction k with
  | zero =>
   intro r hr n hn
   have : r = [] := List.eq_nil_of_length_eq_zero hr
   subst this
   obtain rfl : 0 = n := Option.some.inj hn
   decide
  | succ k ih =>
   intro r hr n hn
   rcases List.eq_nil_or_concat r with rfl | ⟨t, x, rfl⟩
   · simp at hr
   · rw [List.concat_eq_append] at hn hr ⊢
     rw [List.length_append] at hr
     rw [numTo_snoc] at hn
     cases ht : numTo t with
     | none => rw [ht] at hn; cases hn
     | some m =>
      rw [ht] at hn
      have h1 := ih t (by simpa using hr) m ht
      cases hx : digO x with
      | none => simp [numSt, hx] at hn
      | some d =>
       simp only [numSt, hx, Option.map_some, Option.some.injEq] at hn
       have := digO_lt hx
       rw [List.length_append, List.length_cons, List.length_nil, Nat.pow_succ]; omega
 exact key r.length r rfl n h
def dgI (c : Int) : Int := match digO c with
 | some d => (d : Int)
 | none => -1
theorem dgI_some {c : Int} {k : Nat} (hk : k < 10) (h : dg (k : Int) = c) (hb : ∀ j : Nat, j < k → dg (j : Int) ≠ c) : digO c = some k := by
 unfold digO
 rw [List.find?_eq_some_iff_getElem]
 refine ⟨by simp [h], k, by simpa using hk, by simp, fun j hj => ?_⟩
 simpa using hb j hj
theorem dgI_none {c : Int} (h : ∀ j : Nat, j < 10 → dg (j : Int) ≠ c) : digO c = none := by
 unfold digO
 rw [List.find?_eq_none]
 intro x hx
 simpa using h x (by simpa using hx)
def yesT (b : Bool) : Bs := if b then [121, 101, 115] else [110, 111]
def partT (a b : Nat) : Bs := Lib.decDigits a ++ 47 :: Lib.decDigits b
def farC (c : Int) (i : Nat) : Nat := (cnt (((dg (i : Int)).toNat ^^^ c.toNat : Nat) : Int)).toNat
def leastC (c : Int) : Nat → Nat
 | 0 => 8
 | k + 1 => min (leastC c k) (farC c k)
def nearTo (c : Int) (k : Nat) : List Int := ((List.range k).filter fun i => farC c i == leastC c 10).map fun (i : Nat) => (i : Int)
def nearL (c : Int) : List Int := nearTo c 10
open Go.RowKit
theorem IsState_c (bar kind : Int) (w : World) : Calls Tryz.prog 300 #[.agg #[.int .i64 bar, .int .i64 kind]] w fun e w' => e = .returned (.bool (stateB bar kind)) ∧ Below w.heap.size w w' := by
 by_cases h0 : kind = 0
 · subst h0
   go_enter Tryz.func300, Tryz.ntmps300
   go_wp2_with (go_at_call 94; refine (within_c _ _ _ _).mono ?_; rintro e w' ⟨rfl, rfl⟩)
   all_goals (go_ret; exact ⟨bool_ret (by simp_all [stateB, inB]; try omega), below_one _⟩)
 · have h1 : (kind != 0) = true := by simpa using h0
   go_enter Tryz.func300, Tryz.ntmps300
   go_wp2_with (go_at_call 94; refine (within_c _ _ _ _).mono ?_; rintro e w' ⟨rfl, rfl⟩)
   all_goals (go_ret; exact ⟨bool_ret (by simp_all [stateB, inB]; try omega), below_one _⟩)
def faultV (bar kind : Int) : Value := .agg #[.int .i64 (stD bar kind), .int .i64 (stL bar kind)]
theorem Sfault_c (bar kind : Int) (h : stateB bar kind = true) (w : World) : Calls Tryz.prog 301 #[.agg #[.int .i64 bar, .int .i64 kind]] w fun e w' => e = .returned (faultV bar kind) ∧ Below w.heap.size w w' := by
 rcases stateB_cases h with ⟨rfl, rfl⟩ | ⟨rfl, h0, h1⟩ | ⟨rfl, h0, h1⟩
 · go_enter Tryz.func301, Tryz.ntmps301
   go_wp2
   exact bodyPost_ret (v := faultV 0 0) (by simp [results, Tryz.results301, go_sem, faultV, stD, stL]) rfl ⟨rfl, (below_one _).alloc (by simp) _⟩
 · rcases bar_cases h0 h1 with rfl | rfl | rfl | rfl | rfl | rfl | rfl
   all_goals
    clear h0 h1 h
    go_enter Tryz.func301, Tryz.ntmps301
    go_wp2
    refine bodyPost_ret (v := faultV _ 1) (by simp [results, Tryz.results301, go_sem, faultV, stD, stL]) rfl ⟨rfl, ?_⟩
    repeat (first | exact below_one _ | apply Below.setCell | apply Below.alloc | simp)
 · rcases bar_cases h0 h1 with rfl | rfl | rfl | rfl | rfl | rfl | rfl
   all_goals
    clear h0 h1 h
    go_enter Tryz.func301, Tryz.ntmps301
    go_wp2
    refine bodyPost_ret (v := faultV _ 2) (by simp [results, Tryz.results301, go_sem, faultV, stD, stL]) rfl ⟨rfl, ?_⟩
    repeat (first | exact below_one _ | apply Below.setCell | apply Below.alloc | simp)
theorem isTest_c (v : Value) (xs : List Int) (w : World) (hv : Ints w v xs) : Calls Tryz.prog 196 #[v] w fun e w' => e = .returned (.bool (testB xs)) ∧ Below w.heap.size w w' := by
 obtain ⟨a, c, hvv, hc1, hc2, HC⟩ := hv.parts
 by_cases h : xs.length ≤ 10
 · subst hvv
   go_enter Tryz.func196, Tryz.ntmps196
   go_wp2_with (go_at_call 109; refine (areAllInt_c _ xs 153 digitB _ hv (fun _ _ => by kernel_rfl) (fun x w' => isDigit_c x w')).mono ?_; rintro e w' ⟨rfl, hb⟩)
   go_ret
   exact ⟨bool_ret (by simp [testB, h]), by assumption⟩
 · subst hvv
   go_enter Tryz.func196, Tryz.ntmps196
   go_wp2_with fail
   go_ret
   exact ⟨bool_ret (by simp [testB]; omega), Below.refl _ _⟩
theorem l7Test_c (v : Value) (xs : List Int) (w : World) (hv : Ints w v xs) : Calls Tryz.prog 230 #[v] w fun e w' => e = .returned (.bool (testB xs)) ∧ Below w.heap.size w w' := by
 have hm := hv.le
 obtain ⟨a, c, rfl, hc1, hc2, HC⟩ := hv.parts
 go_enter Tryz.func230, Tryz.ntmps230
 go_wp2
 go_loopw [3] (fun i wr => ∃ k : Nat, k ≤ xs.length ∧ k ≤ 11 ∧ i = .int .i64 k ∧ Hid (∀ j x, j < k → xs[j]? = some x → digitB x = true) ∧ w = wr) (fun i _ => xs.length - (intOf i).toNat)
 case atStart => exact ⟨0, by omega, by omega, rfl, fun j x hj => by omega, by trivial⟩
 case round =>
  obtain ⟨k, hk, hk2, rfl, hbef, rfl⟩ := hrel
  clear hv
  by_cases hlt : k < xs.length ∧ k ≤ 10
  · obtain ⟨hlt, hle⟩ := hlt
    obtain ⟨x, hx⟩ := elem_at hlt
    obtain ⟨b, off, rfl, g0⟩ := HC.out k x hx.out
    go_wp2_with fail
    refine (l1In_c _ _ _ _).mono ?_
    rintro e w' ⟨rfl, rfl⟩
    rcases hpx : inB x 0 9 with _ | _
    · have HP := hid hpx; clear hpx
      go_wp2
      go_ret
      exact ⟨bool_ret (by
       symm; simp only [testB, Bool.and_eq_false_iff]; right
       rw [List.all_eq_false]; exact ⟨x, List.mem_of_getElem? hx.out, by simp [digitB, HP.out]⟩), Below.refl _ _⟩
    · have HP := hid hpx; clear hpx
      go_wp2
      go_roundw
      case rel => exact ⟨k + 1, by omega, by omega, by go_num, fun j y hj hy => by
       by_cases hj2 : j < k
       · exact hbef.out j y hj2 hy
       · obtain rfl : j = k := by omega
         rw [hx.out] at hy; obtain rfl := Option.some.inj hy; exact HP.out, by trivial⟩
      case measure => simp [intOf]; omega
  · have hor : k = xs.length ∨ (k = 11 ∧ k < xs.length) := by omega
    clear hlt
    rcases hor with hor | ⟨hor, hor2⟩
    · have HK := hid hor
      have h1 : ¬ k < xs.length := by omega
      clear hor
      go_wp2
      go_ret
      refine ⟨bool_ret ?_, Below.refl _ _⟩
      have hall : xs.all digitB = true := by
       rw [List.all_eq_true]; intro x hx
       obtain ⟨j, hj⟩ := List.mem_iff_getElem?.1 hx
       have := (List.getElem?_eq_some_iff.1 hj).1
       exact hbef.out j x (by have := HK.out; omega) hj
      simp [testB, hall]; omega
    · have HK := hid hor
      have h1 : ¬ k ≤ 10 := by omega
      clear hor
      go_wp2
      go_ret
      refine ⟨bool_ret ?_, Below.refl _ _⟩
      have := HK.out
      rw [decide_eq_false (by omega)]
      simp [testB]; omega
def placeOf (bar kind : Int) (xs : List Int) : Int := firstAt (finds bar kind) xs
theorem finding_c (v : Value) (xs : List Int) (bar kind : Int) (w : World) (hv : Ints w v xs) (hs : stateB bar kind = true) (ht : testB xs = true) :
 Calls Tryz.prog 284 #[.agg #[.int .i64 bar, .int .i64 kind], v] w fun e w' => e = .returned (.int .i64 (placeOf bar kind xs)) ∧ Below w.heap.size w w' := by
 have bd := stDL_bd hs
 go_enter Tryz.func284, Tryz.ntmps284
 go_wp2_with fail
 refine (Sfault_c bar kind hs _).mono ?_
 rintro e w1 ⟨rfl, hb1⟩
 unfold faultV
 go_wp2_with fail
 refine (IndexFuncInt_c v xs 302 #[.pointer (some ⟨w1.heap.size, 0, none⟩)] (finds bar kind) _ ?_ (fun _ _ => by kernel_rfl) ?_).mono ?_
 · exact Ints.below (Ints.below (Ints.below hv (below_one _)) hb1) (below_one _)
 · intro x w2 hx hb2
   have hd : 0 ≤ x ∧ x ≤ 9 := by
    simp only [testB, Bool.and_eq_true, List.all_eq_true] at ht
    exact digitB_true (ht.2 x hx)
   have hx0 := hd.1; have hx1 := hd.2
   have bdx := dg_bd x
   have c0 : w2.cell? ⟨w1.heap.size, 0, none⟩ = some (.int .i64 (stD bar kind)) := by
    rw [(bcell hb2).1 _ _ (by simp), World.cell?_alloc_at _ _ _ _ rfl]; rfl
   have c1 : w2.cell? ⟨w1.heap.size, 1, none⟩ = some (.int .i64 (stL bar kind)) := by
    rw [(bcell hb2).1 _ _ (by simp), World.cell?_alloc_at _ _ _ _ rfl]; rfl
   have hix := fun w => index_dig x hx0 hx1 w
   clear hv hb1 hb2 hs ht hx hd
   go_enter Tryz.func302, Tryz.ntmps302
   go_wp2_with fail
   go_region_held3 (fun w' => w'.cell? ⟨w1.heap.size, 0, none⟩ = some (.int .i64 (stD bar kind)) ∧ w'.cell? ⟨w1.heap.size, 1, none⟩ = some (.int .i64 (stL bar kind)))
    (first | go_keep | (go_split_ands; exact ⟨cell_later (by assumption) (by assumption), cell_later (by assumption) (by assumption)⟩))
    (first | (go_at_call 112; refine (digitCells_c _).mono ?_; rintro e w' ⟨rfl, hb⟩) | (go_at_call 108; refine (shown_c _ _ _ (by omega) (by omega) (by omega) (by omega) (by omega) (by omega) _).mono ?_; rintro e w' ⟨rfl, hb⟩))
   go_wp2
   go_ret
   exact ⟨rfl, by exact qBl⟩
 · rintro e w3 ⟨rfl, hb3⟩
   go_wp2
   go_ret
   exact ⟨rfl, ((((below_one _).trans (hb1.mono (by simp))).alloc (by have := hb1.size; simp at this; omega) _).trans (hb3.mono (by have := hb1.size; simp at this ⊢; omega)))⟩
theorem l7Fault_c (bar kind : Int) (h : stateB bar kind = true) (w : World) : Calls Tryz.prog 306 #[.agg #[.int .i64 bar, .int .i64 kind]] w fun e w' => e = .returned (faultV bar kind) ∧ Below w.heap.size w w' := by
 rcases stateB_cases h with ⟨rfl, rfl⟩ | ⟨rfl, h0, h1⟩ | ⟨rfl, h0, h1⟩
 · go_enter Tryz.func306, Tryz.ntmps306
   go_wp2
   exact bodyPost_ret (v := faultV 0 0) (by simp [results, Tryz.results306, go_sem, faultV, stD, stL]) rfl ⟨rfl, (below_one _).alloc (by simp) _⟩
 · rcases bar_cases h0 h1 with rfl | rfl | rfl | rfl | rfl | rfl | rfl
   all_goals
    clear h0 h1 h
    go_enter Tryz.func306, Tryz.ntmps306
    go_wp2
    refine bodyPost_ret (v := faultV _ 1) (by simp [results, Tryz.results306, go_sem, faultV, stD, stL]) rfl ⟨rfl, ?_⟩
    repeat (first | exact below_one _ | apply Below.setCell | apply Below.alloc | simp)
 · rcases bar_cases h0 h1 with rfl | rfl | rfl | rfl | rfl | rfl | rfl
   all_goals
    clear h0 h1 h
    go_enter Tryz.func306, Tryz.ntmps306
    go_wp2
    refine bodyPost_ret (v := faultV _ 2) (by simp [results, Tryz.results306, go_sem, faultV, stD, stL]) rfl ⟨rfl, ?_⟩
    repeat (first | exact below_one _ | apply Below.setCell | apply Below.alloc | simp)
theorem testB_digit {xs : List Int} (ht : testB xs = true) {k : Nat} {x : Int} (hx : xs[k]? = some x) : 0 ≤ x ∧ x ≤ 9 := by
 simp only [testB, Bool.and_eq_true, List.all_eq_true] at ht
 exact digitB_true (ht.2 x (List.mem_of_getElem? hx))
theorem l7Place_c (v : Value) (xs : List Int) (bar kind : Int) (w : World) (hv : Ints w v xs) (hs : stateB bar kind = true) (ht : testB xs = true) :
 Calls Tryz.prog 294 #[v, .agg #[.int .i64 bar, .int .i64 kind]] w fun e w' => e = .returned (.int .i64 (placeOf bar kind xs)) ∧ Below w.heap.size w w' := by
 have bd := stDL_bd hs
 have hm := hv.le
 obtain ⟨a, c, rfl, hc1, hc2, HC⟩ := hv.parts
 clear hv
 go_enter Tryz.func294, Tryz.ntmps294
 go_wp2_with fail
 refine (l7Fault_c bar kind hs _).mono ?_
 rintro e w1 ⟨rfl, hb1⟩
 unfold faultV
 have hz1 : w.heap.size < w1.heap.size := by have := hb1.size; simp at this; omega
 go_wp2_with fail
 go_loopw [6, 7] (fun i q wr => ∃ k : Nat, k ≤ xs.length ∧ i = .int .i64 k ∧ Hid (∀ j x, j < k → xs[j]? = some x → finds bar kind x = false) ∧ Below w.heap.size w wr ∧
  wr.cell? ⟨w1.heap.size, 0, none⟩ = some (.int .i64 (stD bar kind)) ∧ wr.cell? ⟨w1.heap.size, 1, none⟩ = some (.int .i64 (stL bar kind))) (fun i _ _ => xs.length - (intOf i).toNat)
 case atStart => exact ⟨0, by omega, rfl, fun j x hj => by omega, by exact qBl, by rw [World.cell?_alloc_at _ _ _ _ rfl]; rfl, by rw [World.cell?_alloc_at _ _ _ _ rfl]; rfl⟩
 case round =>
  obtain ⟨k, hk, rfl, hbef, hb, g0, g1⟩ := hrel
  by_cases hlt : k < xs.length
  · obtain ⟨x, hx⟩ := elem_at hlt
    obtain ⟨b, off, rfl, h0⟩ := HC.out k x hx.out
    have hblt : b < w.heap.size := World.block_lt_of_cell? w _ h0
    have h1 : wr.cell? ⟨b, off + k, none⟩ = some (.int .i64 x) := ((bcell hb).1 _ _ hblt).trans h0
    have hxd := testB_digit ht hx.out
    have bdx := dg_bd x
    clear h0 hb1
    go_wp2_with fail
    refine (l2Digit_c x hxd.1 hxd.2 _).mono ?_
    rintro e w2 ⟨rfl, hb2⟩
    have g02 := cell_later hb2 g0
    have g12 := cell_later hb2 g1
    go_wp2_with fail
    refine (l3Shown_c _ _ _ bd.1 bd.2.1 bd.2.2.1 bd.2.2.2 bdx.1 bdx.2 _).mono ?_
    rintro e w3 ⟨rfl, hb3⟩
    have g03 := cell_later hb3 g02
    have g13 := cell_later hb3 g12
    clear g0 g1 g02 g12
    have hb4 : Below w.heap.size w w3 := qBl
    rcases hf : finds bar kind x with _ | _
    · have ht2 : (shC (stD bar kind) (stL bar kind) (dg x) != dg x) = false := hf
      have HP := hid hf; clear hf
      go_wp2
      go_roundw
      case rel => exact ⟨k + 1, by omega, by go_num, fun j y hj hy => by
       by_cases hj2 : j < k
       · exact hbef.out j y hj2 hy
       · obtain rfl : j = k := by omega
         rw [hx.out] at hy; obtain rfl := Option.some.inj hy; exact HP.out, hb4, g03, g13⟩
      case measure => simp [intOf]; omega
    · have ht2 : (shC (stD bar kind) (stL bar kind) (dg x) != dg x) = true := hf
      have HP := hid hf; clear hf
      go_wp2
      go_ret
      exact ⟨int_ret (firstAt_some hx.out HP.out hbef.out).symm, hb4⟩
  · go_wp2
    go_ret
    exact ⟨int_ret (firstAt_none (by omega) hbef.out).symm, hb⟩
theorem l1Most_c (a b : Int) (w : World) : Calls Tryz.prog 269 #[.int .i64 a, .int .i64 b] w fun e w' => e = .returned (.int .i64 (max a b)) ∧ w = w' := by
 by_cases h : b < a
 · go_enter Tryz.func269, Tryz.ntmps269
   go_wp2
   go_ret
   exact ⟨int_ret (by omega), rfl⟩
 · go_enter Tryz.func269, Tryz.ntmps269
   go_wp2
   go_ret
   exact ⟨int_ret (by omega), rfl⟩
end Go.Proofs.YtohgjfdbnkjefaaGreatDoor
