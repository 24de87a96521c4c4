/- Walks of FirstNumber, both texts. -/
import Derived.Test.YtlipkplomndjcaaCount
import Derived.Test.YtlipkplomndjcaaShownRow
namespace Go.Proofs.Ytlipkplomndjcaa
open Go.RowKit
set_option linter.unusedVariables false
set_option maxRecDepth 100000
def headDig (f : Int × Int) (c : Int) : Int := (digL f.1 f.2 c).headD 0
def firstTo (fs : List (Int × Int)) (r : List Int) (k : Nat) : List Int := ((fs.zip r).take k).map fun p => headDig p.1 p.2
theorem firstTo_le (fs : List (Int × Int)) (r : List Int) (k : Nat) : (firstTo fs r k).length ≤ k := by simp [firstTo, List.length_take]; omega
theorem firstTo_succ {fs : List (Int × Int)} {r : List Int} {k : Nat} {f : Int × Int} {c : Int} (hf : fs[k]? = some f) (hc : r[k]? = some c) : firstTo fs r (k + 1) = firstTo fs r k ++ [headDig f c] := by
  have h : (fs.zip r)[k]? = some (f, c) := by rw [List.getElem?_zip_eq_some]; exact ⟨hf, hc⟩
  unfold firstTo
  rw [take_snoc h]; simp
theorem head_at {f : Int × Int} {c : Int} (h : nDig f c ≠ 0) : (digL f.1 f.2 c)[0]? = some (headDig f c) := by
  unfold nDig at h
  unfold headDig
  cases hd : digL f.1 f.2 c with
  | nil => rw [hd] at h; simp at h
  | cons a l => simp
theorem prodTo_zero_of {fs : List (Int × Int)} {r : List Int} {k n : Nat} {f : Int × Int} {c : Int} (hf : fs[k]? = some f) (hc : r[k]? = some c) (h0 : nDig f c = 0) (hn : k < n) : prodTo fs r n = 0 := by
  have h1 : prodTo fs r (k + 1) = 0 := by rw [prodTo_succ hf hc, h0, Nat.mul_zero]
  have : ∀ m, prodTo fs r (k + 1 + m) = 0 := by
    intro m
    induction m with
    | zero => exact h1
    | succ m ih =>
      cases h : (fs.zip r)[k + 1 + m]? with
      | none =>
        have e : prodTo fs r (k + 1 + (m + 1)) = prodTo fs r (k + 1 + m) := by
          unfold prodTo
          have hl := List.getElem?_eq_none_iff.1 h
          rw [List.take_of_length_le (by omega), List.take_of_length_le hl]
        rw [e]; exact ih
      | some p =>
        obtain ⟨f', c'⟩ := p
        rw [List.getElem?_zip_eq_some] at h
        rw [show k + 1 + (m + 1) = (k + 1 + m) + 1 by omega, prodTo_succ h.1 h.2, ih, Nat.zero_mul]
  have e := this (n - (k + 1))
  rw [show k + 1 + (n - (k + 1)) = n by omega] at e
  exact e
def fnOk (fs : List (Int × Int)) (r : List Int) : Bool := cnOk fs r && !decide (prodTo fs r r.length = 0)
def fnL (fs : List (Int × Int)) (r : List Int) : List Int := if fnOk fs r then firstTo fs r r.length else []
theorem fnOk_len {fs : List (Int × Int)} {r : List Int} (h : cnOk fs r = true) : r.length ≤ 6 := by
  simp only [cnOk, Bool.and_eq_true] at h; exact rowB_le (areB_row h.1)
theorem cnOk_are {fs : List (Int × Int)} {r : List Int} (h : cnOk fs r = true) : areB fs r = true := by
  simp only [cnOk, Bool.and_eq_true] at h; exact h.1
theorem fnL_le (fs : List (Int × Int)) (r : List Int) : (fnL fs r).length ≤ 6 := by
  unfold fnL; split
  · rename_i h; simp only [fnOk, Bool.and_eq_true] at h; exact Nat.le_trans (firstTo_le _ _ _) (fnOk_len h.1)
  · simp
theorem FirstNumber_c (v1 v2 : Value) (fs : List (Int × Int)) (r : List Int) (w : World) (h1 : Pairs w v1 fs) (h2 : Ints w v2 r) :
    Calls Try.prog 16 #[v1, v2] w (IntsPost w (fnL fs r) (fnOk fs r)) := by
  obtain ⟨a1, c1, rfl, _, _, H1⟩ := h1.parts
  obtain ⟨a2, c2, rfl, _, _, H2⟩ := h2.parts
  obtain ⟨i, hi, hz0, hz1, hz2⟩ := info_parts info_int
  rcases ha : cnOk fs r with _ | _
  · have hok : fnOk fs r = false := by simp [fnOk, ha]
    have HL := Lib.hid (show fnL fs r = [] by simp [fnL, hok])
    have HK := Lib.hid hok; have HA := Lib.hid ha; clear ha hok
    go_enter Try.func16, Try.ntmps16
    go_wp2_with fail
    refine (CountNumbers_c _ _ fs r _ h1 h2).mono ?_
    rintro e w1 ⟨rfl, hb1⟩
    unfold cnV
    rw [HA.out]
    go_wp2
    go_ret2
    exact IntsPost.mk' HL.out HK.out (World.ownsRow_nil _ _ _ _) hb1
  · have hN : cnN fs r = (prodTo fs r r.length : Int) := by simp [cnN, ha]
    have hr6 := fnOk_len ha
    by_cases hz : prodTo fs r r.length = 0
    · have hok : fnOk fs r = false := by simp [fnOk, hz]
      have HL := Lib.hid (show fnL fs r = [] by simp [fnL, hok])
      have HN := Lib.hid (show cnN fs r = 0 by rw [hN, hz]; rfl)
      have HK := Lib.hid hok; have HA := Lib.hid ha; clear ha hok hN hz
      go_enter Try.func16, Try.ntmps16
      go_wp2_with fail
      refine (CountNumbers_c _ _ fs r _ h1 h2).mono ?_
      rintro e w1 ⟨rfl, hb1⟩
      unfold cnV
      rw [HA.out, HN.out]
      go_wp2
      go_ret2
      exact IntsPost.mk' HL.out HK.out (World.ownsRow_nil _ _ _ _) hb1
    · have hok : fnOk fs r = true := by simp [fnOk, hz, ha]
      have HL := Lib.hid (show fnL fs r = firstTo fs r r.length by simp [fnL, hok])
      have hzb : (cnN fs r == 0) = false := by rw [hN]; simp [hz]
      have HZ := Lib.hid hz
      have HK := Lib.hid hok; have HA := Lib.hid ha; clear ha hok hN hz
      go_enter Try.func16, Try.ntmps16
      go_wp2_with fail
      refine (CountNumbers_c _ _ fs r _ h1 h2).mono ?_
      rintro e w1 ⟨rfl, hb1⟩
      unfold cnV
      rw [HA.out]
      clear h1 h2
      go_wp2
      go_loopw [8, 9, 10, 25] (fun o _ _ j wr => ∃ k : Nat, k ≤ r.length ∧ j = .int .i64 (k : Int) ∧ wr.ownsRow w.heap.size 3 1 o (firstTo fs r k).length ((firstTo fs r k).map (Value.int .i64)) ∧ Below w.heap.size w wr) (fun _ _ _ j _ => r.length - (intOf j).toNat)
      case atStart => exact ⟨0, by omega, rfl, World.ownsRow_nil _ _ _ _, hb1⟩
      case round =>
        obtain ⟨k, hk, rfl, ho, hb⟩ := hrel
        clear hb1
        by_cases hlt : k < r.length
        · have hd : decide ((k : Int) < (r.length : Int)) = true := by simp; omega
          have hlf : k < fs.length := by rw [areB_len (cnOk_are HA.out)]; exact hlt
          obtain ⟨f, hf⟩ := elem_at hlf
          obtain ⟨c, hc⟩ := elem_at hlt
          obtain ⟨b1, o1, rfl, f0, f1⟩ := H1.out k _ hf.out
          obtain ⟨b2, o2, rfl, f2⟩ := H2.out k _ hc.out
          have g0 := cell_later hb f0
          have g1 := cell_later hb f1
          have g2 := cell_later hb f2
          have bd := areB_fault (cnOk_are HA.out) hf.out
          have hne : nDig f c ≠ 0 := fun h => HZ.out (prodTo_zero_of hf.out hc.out h hlt)
          have hh := head_at hne
          have hS := firstTo_succ hf.out hc.out
          have hle := firstTo_le fs r k
          generalize firstTo fs r k = cur at *
          have HS := Lib.hid hS; clear hS f0 f1 f2
          go_wp2_with fail
          refine (digits_c f.1 f.2 c _ bd.1 bd.2.1 bd.2.2.1 bd.2.2.2).mono ?_
          rintro e w2 ⟨u, rfl, hod, hb2⟩
          obtain ⟨a3, c3, hu3, hc3, hcm3, H3⟩ := (Ints.of_own hod).parts
          obtain ⟨b3, o3, e3, g3⟩ := H3.out 0 _ hh
          subst hu3 e3
          simp only [Nat.add_zero] at g3
          have hpos : 0 < (digL f.1 f.2 c).length := (List.getElem?_eq_some_iff.1 hh).1
          have ho2 := own_keep ho hb2
          have hb3 := Below.chain hb hb2
          generalize headDig f c = X at *
          generalize (digL f.1 f.2 c).length = nn at *
          clear ho hb hb2 g0 g1 g2 hod H3 hh
          have hposI : (0 : Int) < (nn : Int) := by omega
          go_wp2_with (at_builtin; refine wpList_append_own_at _ rfl _ _ 24 rfl w.heap.size 3 i (.int .i64 0) 1 8 Try.underlying24 hi hz0 hz1 hz2 rfl (by decide) _ cur.length (cur.map (Value.int .i64)) rfl (ho2.alloc _) ⟨w2.heap.size, 0, none⟩ 1 1 [.int .i64 X] rfl rfl (news_new _ [.int .i64 X] _) (by simp [Value.oneCell']) (by unfold maxLen; omega) (by omega) (by have := hb3.size; simp; omega) ?_)
          intro v' w3 ho5 hg5 _ _
          have hb7 : Below w.heap.size w w3 := (Below.alc hb3 _).grown hg5 (by have := hb3.size; simp; omega) (fun g hg => (ho2.lt g hg).1)
          clear ho2 hb3 hg5 g3
          go_wp2
          go_roundw
          case rel => exact ⟨k + 1, by omega, by go_num, by rw [HS.out]; exact ownsRow_cast ho5 (by simp) (by simp), hb7⟩
          case measure => simp [intOf]; omega
        · obtain rfl : k = r.length := by omega
          go_wp2
          go_ret2
          exact IntsPost.mk' HL.out HK.out ho hb
theorem sFirstNumber_c (v1 v2 : Value) (fs : List (Int × Int)) (r : List Int) (w : World) (h1 : Pairs w v1 fs) (h2 : Ints w v2 r) :
    Calls Try.prog 17 #[v1, v2] w (IntsPost w (fnL fs r) (fnOk fs r)) := by
  obtain ⟨a1, c1, rfl, _, _, H1⟩ := h1.parts
  obtain ⟨a2, c2, rfl, _, _, H2⟩ := h2.parts
  obtain ⟨i, hi, hz0, hz1, hz2⟩ := info_parts info_int
  have lit : ∀ wx : World, w.heap.size ≤ wx.heap.size → (wx.alloc (.cells #[] 3)).ownsRow w.heap.size 3 1 (.slice (some ⟨wx.heap.size, 0, none⟩) 0 0) 0 [] := fun wx h => World.ownsRow_lit (e := 3) (size := 1) (base := w.heap.size) wx #[] 0 h (by decide) rfl
  rcases ha : areB fs r with _ | _
  · have hok : fnOk fs r = false := by simp [fnOk, cnOk, ha]
    have HL := Lib.hid (show fnL fs r = [] by simp [fnL, hok])
    have HK := Lib.hid hok; have HA := Lib.hid ha; clear ha hok
    go_enter Try.func17, Try.ntmps17
    go_wp2_with fail
    refine (l3Faults_c _ _ fs r _ h1 h2).mono ?_
    rintro e w1 ⟨rfl, hb1⟩
    rw [HA.out]
    have hl := lit w1 hb1.size
    go_wp2
    go_ret2
    exact IntsPost.mk' HL.out HK.out hl (Below.alc hb1 _)
  · have hr6 := rowB_le (areB_row ha)
    by_cases hz : r.length = 0
    · have hok : fnOk fs r = false := by simp [fnOk, cnOk, hz]
      have hzb : ((r.length : Int) == 0) = true := by simp [hz]
      have HL := Lib.hid (show fnL fs r = [] by simp [fnL, hok])
      have HZ := Lib.hid hz; have HK := Lib.hid hok; have HA := Lib.hid ha; clear ha hok hz
      go_enter Try.func17, Try.ntmps17
      go_wp2_with fail
      refine (l3Faults_c _ _ fs r _ h1 h2).mono ?_
      rintro e w1 ⟨rfl, hb1⟩
      rw [HA.out]
      have hl := lit w1 hb1.size
      go_wp2
      go_ret2
      exact IntsPost.mk' HL.out HK.out hl (Below.alc hb1 _)
    · have hcn : cnOk fs r = true := by simp [cnOk, ha, hz]
      have hzb : ((r.length : Int) == 0) = false := by simp [hz]
      have HC := Lib.hid hcn; have HZ := Lib.hid hz; have HA := Lib.hid ha; clear ha hcn hz
      go_enter Try.func17, Try.ntmps17
      go_wp2_with fail
      refine (l3Faults_c _ _ fs r _ h1 h2).mono ?_
      rintro e w1 ⟨rfl, hb1⟩
      rw [HA.out]
      have ho1 := lit w1 hb1.size
      have hb01 := Below.alc hb1 (.cells #[] 3)
      clear h1 h2 hb1
      go_wp2
      go_loopw [6, 7, 8] (fun o j _ wr => ∃ k : Nat, k ≤ r.length ∧ j = .int .i64 (k : Int) ∧ wr.ownsRow w.heap.size 3 1 o (firstTo fs r k).length ((firstTo fs r k).map (Value.int .i64)) ∧ Below w.heap.size w wr ∧ Hid (prodTo fs r k ≠ 0)) (fun _ j _ _ => r.length - (intOf j).toNat)
      case atStart => exact ⟨0, by omega, rfl, ho1, hb01, by simp [Hid, prodTo_zero]⟩
      case round =>
        obtain ⟨k, hk, rfl, ho, hb, hnz⟩ := hrel
        clear ho1 hb01
        by_cases hlt : k < r.length
        · have hd : decide ((k : Int) < (r.length : Int)) = true := by simp; omega
          have hlf : k < fs.length := by rw [areB_len HA.out]; exact hlt
          have hlf2 : (k : Int) < (fs.length : Int) := by omega
          obtain ⟨f, hf⟩ := elem_at hlf
          obtain ⟨c, hc⟩ := elem_at hlt
          obtain ⟨b1, o1, rfl, f0, f1⟩ := H1.out k _ hf.out
          obtain ⟨b2, o2, rfl, f2⟩ := H2.out k _ hc.out
          have g0 := cell_later hb f0
          have g1 := cell_later hb f1
          have g2 := cell_later hb f2
          have bd := areB_fault HA.out hf.out
          have hS := firstTo_succ hf.out hc.out
          have hP := prodTo_succ hf.out hc.out
          have hle := firstTo_le fs r k
          generalize firstTo fs r k = cur at *
          have HS := Lib.hid hS; have HP := Lib.hid hP; clear hS hP f0 f1 f2
          go_wp2_with fail
          go_region_held3 (fun w' => w'.cell? ⟨b1, o1 + k * 2, none⟩ = some (.int .i64 f.1) ∧ w'.cell? ⟨b1, o1 + k * 2 + 1, none⟩ = some (.int .i64 f.2) ∧ w'.cell? ⟨b2, o2 + k, none⟩ = some (.int .i64 c))
            (first | go_keep | (go_split_ands; exact ⟨cell_later hb2 (by assumption), cell_later hb2 (by assumption), cell_later hb2 (by assumption)⟩))
            (first | (go_at_call 101; refine (l3Digits_c f.1 f.2 c _ bd.1 bd.2.1 bd.2.2.1 bd.2.2.2).mono ?_; rintro e w' ⟨u, rfl, hod, hb2⟩))
          have ho2 := own_keep ho.drew hb2
          have hb3 := Below.chain hb.drew hb2
          by_cases hne : nDig f c = 0
          · have hok : fnOk fs r = false := by simp [fnOk, HC.out, prodTo_zero_of hf.out hc.out hne hlt]
            have HL := Lib.hid (show fnL fs r = [] by simp [fnL, hok])
            have HK := Lib.hid hok
            have hl := lit _ hb3.size
            obtain ⟨a3, c3, hu3, _⟩ := (Sl.of_own hod).slice
            have hlen : (digL f.1 f.2 c).length = 0 := hne
            rw [hlen] at hu3
            subst hu3
            clear hok hod ho ho2 hb hb2 g0 g1 g2 hlen hne
            go_wp2
            go_ret2
            exact IntsPost.mk' HL.out HK.out hl (Below.alc hb3 _)
          · have hh := head_at hne
            obtain ⟨a3, c3, hu3, hc3, hcm3, H3⟩ := (Ints.of_own hod).parts
            obtain ⟨b3, o3, e3, g3⟩ := H3.out 0 _ hh
            subst hu3 e3
            simp only [Nat.add_zero] at g3
            have hpos : 0 < (digL f.1 f.2 c).length := (List.getElem?_eq_some_iff.1 hh).1
            have hprod : prodTo fs r (k + 1) ≠ 0 := by rw [HP.out]; exact Nat.mul_ne_zero hnz.out hne
            have HPr := Lib.hid hprod
            generalize headDig f c = X at *
            generalize (digL f.1 f.2 c).length = nn at *
            clear ho hb hb2 g0 g1 g2 hod H3 hh hprod
            have hposI : (0 : Int) < (nn : Int) := by omega
            have hnb : ((nn : Int) == 0) = false := by simp; omega
            go_wp2_with (at_builtin; refine wpList_append_own_at _ rfl _ _ 24 rfl w.heap.size 3 i (.int .i64 0) 1 8 Try.underlying24 hi hz0 hz1 hz2 rfl (by decide) _ cur.length (cur.map (Value.int .i64)) rfl (ho2.alloc _) ⟨w'.heap.size, 0, none⟩ 1 1 [.int .i64 X] rfl rfl (news_new _ [.int .i64 X] _) (by simp [Value.oneCell']) (by unfold maxLen; omega) (by omega) (by have := hb3.size; simp; omega) ?_)
            intro v' w3 ho5 hg5 _ _
            have hb7 : Below w.heap.size w w3 := (Below.alc hb3 _).grown hg5 (by have := hb3.size; simp; omega) (fun g hg => (ho2.lt g hg).1)
            clear ho2 hb3 hg5 g3
            go_wp2
            go_roundw
            case rel => exact ⟨k + 1, by omega, by go_num, by rw [HS.out]; exact ownsRow_cast ho5 (by simp) (by simp), hb7, HPr.out⟩
            case measure => simp [intOf]; omega
        · obtain rfl : k = r.length := by omega
          have hok : fnOk fs r = true := by simp [fnOk, HC.out, hnz.out]
          have HL := Lib.hid (show fnL fs r = firstTo fs r r.length by simp [fnL, hok])
          have HK := Lib.hid hok; clear hok
          go_wp2
          go_ret2
          exact IntsPost.mk' HL.out HK.out ho hb
end Go.Proofs.Ytlipkplomndjcaa
