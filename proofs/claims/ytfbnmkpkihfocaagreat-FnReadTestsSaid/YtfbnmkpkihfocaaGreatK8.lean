/- Texts of this claim, gathered: QuS2, Subs, Least2, QuI, QuI2. -/
import Derived.Test.YtfbnmkpkihfocaaGreatK7
import Derived.Deep.AppendLies
namespace Go.Proofs.YtfbnmkpkihfocaaGreat
open Go.RowKit
set_option linter.unusedVariables false
set_option linter.unusedSimpArgs false
set_option maxRecDepth 100000
def bestS : List (List Int) → List Int
  | [] => []
  | a :: r => r.foldl (keepS chL) a
theorem bestS_one {L : List (List Int)} {a : List Int} (h : L[0]? = some a) : bestS (L.take 1) = a := by
  cases L with
  | nil => simp at h
  | cons b t => simp at h; subst h; rfl
theorem bestS_succ {L : List (List Int)} {i : Nat} {s : List Int} (hi : 1 ≤ i) (h : L[i]? = some s) : bestS (L.take (i + 1)) = keepS chL (bestS (L.take i)) s := by
  rw [take_snoc h]
  cases L with
  | nil => simp at h
  | cons b t =>
    obtain ⟨j, rfl⟩ : ∃ j, i = j + 1 := ⟨i - 1, by omega⟩
    simp only [List.take_succ_cons, List.cons_append]
    show (t.take j ++ [s]).foldl (keepS chL) b = keepS chL ((t.take j).foldl (keepS chL) b) s
    rw [List.foldl_append]; rfl
def quOk (xs : List Int) : Bool := testB xs && decide (xs.length ≤ 6)
def quL (xs : List Int) : List Int := if quOk xs then bestS (ordS xs.length xs) else []
def quC (xs : List Int) : Int := if quOk xs then chL (quL xs) else 0
/-- what QuietOrder hands back -/
def QuPost (w : World) (xs : List Int) (e : Ending) (w' : World) : Prop :=
  ∃ u, e = .returned (.tuple #[u, .int .i64 (quC xs), .bool (quOk xs)]) ∧ Ints w' u (quL xs) ∧ Below w.heap.size w w'
theorem ord_digits {n : Nat} {xs s : List Int} (h : xs.length = n) (hd : ∀ x ∈ xs, 0 ≤ x ∧ x ≤ 9) (hs : s ∈ ordS n xs) : ∀ x ∈ s, 0 ≤ x ∧ x ≤ 9 := fun x hx =>
  hd x (((ordS_perm n xs s h).1 hs).subset hx)
theorem ints_nil_lit (w : World) : Ints (w.alloc (.cells #[] 3)) (.slice (some ⟨w.heap.size, 0, none⟩) 0 0) [] :=
  Ints.of_own (lo := w.heap.size) (e := 3) (World.ownsRow_lit w #[] 0 (Nat.le_refl _) (by decide) rfl)
set_option maxHeartbeats 8000000 in
theorem sQuietOrder_c (v : Value) (xs : List Int) (w : World) (hv : Ints w v xs) : Calls Tryz.prog 14 #[v] w (QuPost w xs) := by
  have HV := Lib.hid hv
  obtain ⟨a, c, rfl, _, _, _⟩ := hv.parts
  have HT := Lib.hid (fun w h => l7Test_c (.slice a xs.length c) xs w h)
  clear hv
  rcases hq : quOk xs with _ | _
  · have HF1 : Hid (quC xs = 0) := by show _ = _; unfold quC; rw [hq]; rfl
    have HF2 : Hid (quL xs = []) := by show _ = _; unfold quL; rw [hq]; rfl
    have HQ := Lib.hid hq
    unfold QuPost
    rw [HF1.out, HF2.out, HQ.out]
    rcases ht : testB xs with _ | _
    · rw [ht] at HT
      clear hq ht
      go_enter Tryz.func14, Tryz.ntmps14
      go_wp2_with fail
      refine (HT.out _ HV.out).mono ?_
      rintro e w1 ⟨rfl, hb1⟩
      have HI := Lib.hid (ints_nil_lit w1)
      have HB := Lib.hid (Below.alc hb1 (.cells #[] 3))
      go_wp2
      exact bodyPost_ret (v := .tuple #[_, .int .i64 0, .bool false]) (by simp [results, Tryz.results14, go_sem]) rfl ⟨_, rfl, HI.out, HB.out⟩
    · rw [ht] at HT
      have h7 : 6 < xs.length := by unfold quOk at hq; rw [ht] at hq; simp at hq; exact hq
      have hd7 : decide (6 < (xs.length : Int)) = true := by simp; omega
      clear hq ht
      go_enter Tryz.func14, Tryz.ntmps14
      go_wp2_with fail
      refine (HT.out _ HV.out).mono ?_
      rintro e w1 ⟨rfl, hb1⟩
      have HI := Lib.hid (ints_nil_lit w1)
      have HB := Lib.hid (Below.alc hb1 (.cells #[] 3))
      go_wp2
      exact bodyPost_ret (v := .tuple #[_, .int .i64 0, .bool false]) (by simp [results, Tryz.results14, go_sem]) rfl ⟨_, rfl, HI.out, HB.out⟩
  · have hq2 := hq
    unfold quOk at hq2
    simp only [Bool.and_eq_true, decide_eq_true_eq] at hq2
    obtain ⟨ht, h6⟩ := hq2
    obtain ⟨_, hd⟩ := testB_len ht
    have HD := Lib.hid hd
    have hd7 : decide (6 < (xs.length : Int)) = false := by simp; omega
    have HF2 : Hid (quL xs = bestS (ordS xs.length xs)) := by show _ = _; unfold quL; rw [hq]; rfl
    have HF1 : Hid (quC xs = chL (bestS (ordS xs.length xs))) := by show _ = _; unfold quC; rw [hq, HF2.out]; rfl
    have HQ := Lib.hid hq
    unfold QuPost
    rw [HF1.out, HF2.out, HQ.out]
    rw [ht] at HT
    have HO := Lib.hid (fun w h => l7Orders_c xs.length (.slice a xs.length c) xs w rfl h6 h)
    have HM : Hid (∀ s, s ∈ ordS xs.length xs → s.length ≤ 10 ∧ ∀ x ∈ s, 0 ≤ x ∧ x ≤ 9) := fun s hs => ⟨by rw [ordS_row rfl hs]; omega, ord_digits rfl HD.out hs⟩
    obtain ⟨s0, sr, hs0⟩ := ordS_ne xs.length xs rfl
    have hL := ordS_le6 (n := xs.length) h6 h6
    have hL0 : 0 < (ordS xs.length xs).length := by rw [hs0]; simp
    clear hq ht hd hs0
    generalize ordS xs.length xs = L at *
    go_enter Tryz.func14, Tryz.ntmps14
    go_wp2_with fail
    refine (HT.out _ HV.out).mono ?_
    rintro e w1 ⟨rfl, hb1⟩
    have HV1 := Lib.hid (HV.out.below hb1)
    go_wp2_with fail
    refine (HO.out _ HV1.out).mono ?_
    rintro e w2 ⟨u, rfl, ⟨vs, ho, hi, hn⟩, hb2⟩
    have HB2 := Lib.hid (Below.chain hb1 hb2)
    have hN := Lib.hid hn
    have h5 : ∃ g cap, u = .slice (some ⟨g, 0, none⟩) L.length cap := by
      rcases ho.2 with ⟨rfl, h0⟩ | ⟨g, cp, cur, rfl, _⟩
      · omega
      · exact ⟨g, cp, rfl⟩
    obtain ⟨g, cap, rfl⟩ := h5
    have hlc : L.length ≤ cap := by
      rcases ho.2 with ⟨h0, _⟩ | ⟨g', cp, cur, he, _, _, h1, _⟩
      · cases h0
      · injection he with _ _ he; omega
    have HROW : Hid (∀ (W : World), Below w2.heap.size w2 W → ∀ (i : Nat) (s : List Int), L[i]? = some s → ∃ gs cs, W.cell? ⟨g, i, none⟩ = some (.slice (some ⟨gs, 0, none⟩) s.length cs) ∧ Ints W (.slice (some ⟨gs, 0, none⟩) s.length cs) s) := fun W hW i s hs => by
      have hil := (List.getElem?_eq_some_iff.1 hs).1
      obtain ⟨vr, hvr⟩ : ∃ vr, vs[i]? = some vr := ⟨_, List.getElem?_eq_getElem (by rw [hi.1]; exact hil)⟩
      have hr := own_keep (hi.2.1 i vr s hvr hs) hW
      obtain ⟨gs, cs, rfl⟩ := own_some hr (hN.out vr (List.mem_of_getElem? hvr))
      have hoW := own_keep ho hW
      have hl : vs.length = L.length * 1 := hoW.1
      refine ⟨gs, cs, ?_, Ints.of_own hr⟩
      rw [hoW.cellAt i (by omega)]; exact hvr
    clear ho hi hn hb1 hb2 HO HT
    obtain ⟨a0, ha0⟩ := elem_at hL0
    obtain ⟨gs0, cs0, f0, i0⟩ := HROW.out w2 (Below.refl _ _) 0 a0 ha0.out
    have hma0 := HM.out a0 (List.mem_of_getElem? ha0.out)
    have I0 := Lib.hid i0
    have HC0 := Lib.hid (fun W (h : Ints W (.slice (some ⟨gs0, 0, none⟩) a0.length cs0) a0) => l7Changes_c _ a0 W h hma0.2 hma0.1)
    have HB0 := Lib.hid (bestS_one ha0.out)
    have hpos : (0 : Int) < (L.length : Int) := by omega
    clear i0 hma0
    have hrh : (w2.drew.cell? ⟨g, 0, none⟩ = some (.slice (some ⟨gs0, 0, none⟩) a0.length cs0) ∧ Below w2.heap.size w2 w2.drew) := ⟨f0, (Below.refl _ _).drew⟩
    go_wp2_with fail
    refine wp_region_noPanic ?_
    refine wp_region_held_drew (S := fun w' : World => w'.cell? ⟨g, 0, none⟩ = some (.slice (some ⟨gs0, 0, none⟩) a0.length cs0) ∧ Below w2.heap.size w2 w') (by kernel_rfl) hrh (fun hHeld => ?_)
    refine' wpAnyH_take (i := 0) (oi := _) (v := _) ?e_1 ?a_1 ?b_1 ?c_1 ?q_1 ?y_1 hHeld ?r_1
    case e_1 => (simp only [List.getElem?_toArray, List.getElem?_cons_zero, List.getElem?_cons_succ]; exact rfl)
    case a_1 => kernel_rfl
    case b_1 => kernel_rfl
    case c_1 => kernel_rfl
    case q_1 => exact fun _ _ _ h => h
    case y_1 => exact Or.inl ⟨by rfl, by (intro w hSw; (try dsimp only at hSw); go_simp; first | done | with_reducible rfl)⟩
    try simp only [Act.put, List.setIfInBounds_toArray, List.set_cons_zero, List.set_cons_succ]
    refine' wpAnyH_take (i := 1) (oi := _) (v := _) ?e_2 ?a_2 ?b_2 ?c_2 ?q_2 ?y_2 hHeld ?r_2
    case e_2 => (simp only [List.getElem?_toArray, List.getElem?_cons_zero, List.getElem?_cons_succ]; exact rfl)
    case a_2 => kernel_rfl
    case b_2 => kernel_rfl
    case c_2 => kernel_rfl
    case q_2 => exact fun _ _ _ h => h
    case y_2 => exact Or.inl ⟨by rfl, by (intro w hSw; (try dsimp only at hSw); go_simp; first | done | with_reducible rfl)⟩
    try simp only [Act.put, List.setIfInBounds_toArray, List.set_cons_zero, List.set_cons_succ]
    refine' wpAnyH_take (i := 2) (oi := _) (v := _) ?e_3 ?a_3 ?b_3 ?c_3 ?q_3 ?y_3 hHeld ?r_3
    case e_3 => (simp only [List.getElem?_toArray, List.getElem?_cons_zero, List.getElem?_cons_succ]; exact rfl)
    case a_3 => kernel_rfl
    case b_3 => kernel_rfl
    case c_3 => kernel_rfl
    case q_3 => exact fun _ _ _ h => h
    case y_3 => exact Or.inl ⟨by rfl, by (intro w hSw; (try dsimp only at hSw); go_simp; first | done | with_reducible rfl)⟩
    try simp only [Act.put, List.setIfInBounds_toArray, List.set_cons_zero, List.set_cons_succ]
    refine' wpAnyH_take (i := 3) (oi := _) (v := _) ?e_4 ?a_4 ?b_4 ?c_4 ?q_4 ?y_4 hHeld ?r_4
    case e_4 => (simp only [List.getElem?_toArray, List.getElem?_cons_zero, List.getElem?_cons_succ]; exact rfl)
    case a_4 => kernel_rfl
    case b_4 => kernel_rfl
    case c_4 => kernel_rfl
    case q_4 => exact fun _ _ _ h => h
    case y_4 => exact Or.inl ⟨by rfl, by (intro w hSw; (try dsimp only at hSw); go_simp; first | done | with_reducible rfl)⟩
    try simp only [Act.put, List.setIfInBounds_toArray, List.set_cons_zero, List.set_cons_succ]
    refine' wpAnyH_take (i := 4) (oi := _) (v := _) ?e_5 ?a_5 ?b_5 ?c_5 ?q_5 ?y_5 hHeld ?r_5
    case e_5 => (simp only [List.getElem?_toArray, List.getElem?_cons_zero, List.getElem?_cons_succ]; exact rfl)
    case a_5 => kernel_rfl
    case b_5 => kernel_rfl
    case c_5 => kernel_rfl
    case q_5 => exact fun _ _ _ h => h
    case y_5 => exact Or.inl ⟨by rfl, by (intro w hSw; (try dsimp only at hSw); go_simp; first | done | with_reducible rfl)⟩
    try simp only [Act.put, List.setIfInBounds_toArray, List.set_cons_zero, List.set_cons_succ]
    refine' wpAnyH_take (i := 5) (oi := _) (v := _) ?e_6 ?a_6 ?b_6 ?c_6 ?q_6 ?y_6 hHeld ?r_6
    case e_6 => (simp only [List.getElem?_toArray, List.getElem?_cons_zero, List.getElem?_cons_succ]; exact rfl)
    case a_6 => kernel_rfl
    case b_6 => kernel_rfl
    case c_6 => kernel_rfl
    case q_6 => exact fun _ _ _ h => h
    case y_6 => exact Or.inl ⟨by rfl, by (intro w hSw; (try dsimp only at hSw); go_simp; first | done | with_reducible rfl)⟩
    try simp only [Act.put, List.setIfInBounds_toArray, List.set_cons_zero, List.set_cons_succ]
    refine wpAnyH_ready (rs := [6]) (by kernel_rfl) (by simp) ?_
    refine' AllReadyH.cons (o := _) ?e_7 ?st_7 AllReadyH.nil
    case e_7 => (simp only [List.getElem?_toArray, List.getElem?_cons_zero, List.getElem?_cons_succ]; exact rfl)
    intro K hK
    go_simp
    obtain ⟨hc1, hc2⟩ := hHeld
    refine (HC0.out _ (I0.out.below hc2)).mono ?_
    rintro e w3 ⟨rfl, hb3⟩
    go_wp2_with fail
    refine hK.out _ _ ⟨cell_later hb3 hc1, Below.chain hc2 hb3⟩ (fun hHeld => ?_)
    clear hc1 hc2 hb3
    clear hK K
    try simp only [Act.put, List.setIfInBounds_toArray, List.set_cons_zero, List.set_cons_succ]
    refine' wpAnyH_take (i := 7) (oi := _) (v := _) ?e_8 ?a_8 ?b_8 ?c_8 ?q_8 ?y_8 hHeld ?r_8
    case e_8 => (simp only [List.getElem?_toArray, List.getElem?_cons_zero, List.getElem?_cons_succ]; exact rfl)
    case a_8 => kernel_rfl
    case b_8 => kernel_rfl
    case c_8 => kernel_rfl
    case q_8 => exact fun _ _ _ h => h
    case y_8 => exact Or.inl ⟨by rfl, by (intro w hSw; (try dsimp only at hSw); go_simp; first | done | with_reducible rfl)⟩
    try simp only [Act.put, List.setIfInBounds_toArray, List.set_cons_zero, List.set_cons_succ]
    refine' wpAnyH_take (i := 8) (oi := _) (v := _) ?e_9 ?a_9 ?b_9 ?c_9 ?q_9 ?y_9 hHeld ?r_9
    case e_9 => (simp only [List.getElem?_toArray, List.getElem?_cons_zero, List.getElem?_cons_succ]; exact rfl)
    case a_9 => kernel_rfl
    case b_9 => kernel_rfl
    case c_9 => kernel_rfl
    case q_9 => exact fun _ _ _ h => h
    case y_9 => exact Or.inl ⟨by rfl, by (intro w hSw; (try dsimp only at hSw); go_simp; first | done | with_reducible rfl)⟩
    try simp only [Act.put, List.setIfInBounds_toArray, List.set_cons_zero, List.set_cons_succ]
    refine wpAnyH_done (by kernel_rfl) ?_ _
    refine NoPanic.normal ?_
    have HB3 := Lib.hid hHeld.2
    have HI3 := Lib.hid (I0.out.below hHeld.2)
    clear hHeld hrh f0 I0 HC0
    go_wp2
    go_loopw [6, 7, 8] (fun bv lv j wr => ∃ i : Nat, 1 ≤ i ∧ i ≤ L.length ∧ j = .int .i64 (i : Int) ∧ lv = .int .i64 (chL (bestS (L.take i))) ∧ Hid (Ints wr bv (bestS (L.take i))) ∧ Hid (Below w2.heap.size w2 wr)) (fun _ _ j _ => L.length - (intOf j).toNat)
    case atStart => exact ⟨1, by omega, by omega, rfl, by rw [HB0.out], by rw [HB0.out]; exact HI3, HB3⟩
    case round =>
      obtain ⟨i, hi1, hi2, rfl, rfl, HI, HB⟩ := hrel
      clear HI3 HB3 HB0
      by_cases hlt : i < L.length
      · have hdi : decide ((i : Int) < (L.length : Int)) = true := by simp; omega
        obtain ⟨s, hs⟩ := elem_at hlt
        obtain ⟨gs, cs, f1, i1⟩ := HROW.out wr HB.out i s hs.out
        have hms := HM.out s (List.mem_of_getElem? hs.out)
        have HS := Lib.hid (bestS_succ hi1 hs.out)
        have HC := Lib.hid (l7Changes_c _ s wr i1 hms.2 hms.1)
        have I1 := Lib.hid i1
        clear i1 hms
        generalize bestS (L.take i) = B at *
        obtain ⟨ab, cb, rfl, _, _, _⟩ := HI.out.parts
        go_wp2_with fail
        refine HC.out.mono ?_
        rintro e w3 ⟨rfl, hb3⟩
        have HB3 := Lib.hid (Below.chain HB.out hb3)
        have HI3 := Lib.hid (HI.out.below hb3)
        have I3 := Lib.hid (I1.out.below hb3)
        have f3 := cell_later hb3 f1
        clear f1 hb3 HB HI I1 HC
        by_cases hlt2 : chL s < chL B
        · have e1 : decide (chL s < chL B) = true := decide_eq_true hlt2
          have HK : Hid (bestS (L.take (i + 1)) = s) := by
            show _ = _
            rw [HS.out]; unfold keepS; rw [e1]; rfl
          generalize hcs : chL s = cs1 at *
          generalize chL B = cb1 at *
          have HCS := Lib.hid hcs
          clear hcs
          go_wp2
          go_roundw
          case rel => exact ⟨i + 1, by omega, by omega, by go_num, by rw [HK.out, HCS.out], by rw [HK.out]; exact I3, HB3⟩
          case measure => simp [intOf]; omega
        · have e1 : decide (chL s < chL B) = false := decide_eq_false hlt2
          rcases e2 : (chL s == chL B) with _ | _
          · have HK : Hid (bestS (L.take (i + 1)) = B) := by
              show _ = _
              rw [HS.out]; unfold keepS; rw [e1, e2]; rfl
            generalize chL s = cs1 at *
            generalize hcb : chL B = cb1 at *
            have HCB := Lib.hid hcb
            clear hcb
            go_wp2
            go_roundw
            case rel => exact ⟨i + 1, by omega, by omega, by go_num, by rw [HK.out, HCB.out], by rw [HK.out]; exact HI3, HB3⟩
            case measure => simp [intOf]; omega
          · have HBf := Lib.hid (l7Before_c _ _ s B w3 I3.out HI3.out)
            have HKK : Hid (bestS (L.take (i + 1)) = if befL s B then s else B) := by
              show _ = _
              rw [HS.out]; unfold keepS; rw [e1, e2]; rfl
            have HEQ := Lib.hid (show chL s = chL B by simpa using e2)
            generalize hcs : chL s = cs1 at *
            generalize hcb : chL B = cb1 at *
            have HCS := Lib.hid hcs
            have HCB := Lib.hid hcb
            clear hcs hcb
            go_wp2_with fail
            refine HBf.out.mono ?_
            rintro e w4 ⟨rfl, hb4⟩
            have HB4 := Lib.hid (Below.chain HB3.out hb4)
            have HI4 := Lib.hid (HI3.out.below hb4)
            have I4 := Lib.hid (I3.out.below hb4)
            have f4 := cell_later hb4 f3
            clear f3 hb4 HB3 HI3 I3 HBf
            rcases hbf : befL s B with _ | _
            · rw [hbf] at HKK
              have HK : Hid (bestS (L.take (i + 1)) = B) := HKK.out
              go_wp2
              go_roundw
              case rel => exact ⟨i + 1, by omega, by omega, by go_num, by rw [HK.out, HCB.out], by rw [HK.out]; exact HI4, HB4⟩
              case measure => simp [intOf]; omega
            · rw [hbf] at HKK
              have HK : Hid (bestS (L.take (i + 1)) = s) := HKK.out
              go_wp2
              go_roundw
              case rel => exact ⟨i + 1, by omega, by omega, by go_num, by rw [HK.out, HCS.out], by rw [HK.out]; exact I4, HB4⟩
              case measure => simp [intOf]; omega
      · obtain rfl : i = L.length := by omega
        have hdi : decide ((L.length : Int) < (L.length : Int)) = false := by simp
        rw [List.take_length] at *
        have HBB := Lib.hid (Below.chain HB2.out HB.out)
        have HIl := HI
        go_wp2
        exact bodyPost_ret (v := .tuple #[_, .int .i64 (chL (bestS L)), .bool true]) (by simp [results, Tryz.results14, go_sem]) rfl ⟨_, rfl, HIl.out, HBB.out⟩
end Go.Proofs.YtfbnmkpkihfocaaGreat
namespace Go.Proofs.YtfbnmkpkihfocaaGreat
open Go.RowKit
set_option linter.unusedVariables false
set_option maxRecDepth 100000
def loopE : List Int → List Int → List (List Int)
  | [], _ => []
  | x :: t, part => ((part ++ [x]) :: loopE t (part ++ [x])) ++ loopE t part
def subsL (set : List Int) : List (List Int) := [] :: loopE set []
/-- what a function that is called for each part keeps: all blocks but its own ones -/
structure Fr (D : World → Nat → Prop) (w w' : World) : Prop where
  os : w'.os = w.os
  tape : w'.tape = w.tape
  output : w'.output = w.output
  size : w.heap.size ≤ w'.heap.size
  block : ∀ k, k < w.heap.size → ¬ D w k → w'.heap[k]? = w.heap[k]?
  own : ∀ k, D w' k → D w k ∨ w.heap.size ≤ k
theorem Fr.refl {D : World → Nat → Prop} (w : World) : Fr D w w := ⟨rfl, rfl, rfl, Nat.le_refl _, fun _ _ _ => rfl, fun _ h => .inl h⟩
theorem Fr.trans {D : World → Nat → Prop} {a b c : World} (h : Fr D a b) (k : Fr D b c) : Fr D a c where
  os := k.os.trans h.os
  tape := k.tape.trans h.tape
  output := k.output.trans h.output
  size := Nat.le_trans h.size k.size
  block := fun j hj hd => (k.block j (Nat.lt_of_lt_of_le hj h.size) (fun hd2 => by rcases h.own j hd2 with h3 | h3; exact hd h3; omega)).trans (h.block j hj hd)
  own := fun j hj => by
    rcases k.own j hj with h1 | h1
    · exact h.own j h1
    · exact .inr (Nat.le_trans h.size h1)
theorem Fr.cell {D : World → Nat → Prop} {w w' : World} (h : Fr D w w') {b o : Nat} {v : Value} (hc : w.cell? ⟨b, o, none⟩ = some v) (hd : ¬ D w b) : w'.cell? ⟨b, o, none⟩ = some v := by
  rw [World.cell?_of_block (w := w) (a := ⟨b, o, none⟩) (h.block b (World.block_lt_of_cell? _ _ hc) hd)]; exact hc
theorem Fr.ints {D : World → Nat → Prop} {w w' : World} (h : Fr D w w') {v : Value} {xs : List Int} (hv : Ints w v xs) (hd : ∀ g, v.ownBlock = some g → ¬ D w g) : Ints w' v xs := by
  obtain ⟨a, c, rfl, h1, h2, h3, h4⟩ := hv
  refine ⟨a, c, rfl, h1, h2, h3, fun hn => ?_⟩
  obtain ⟨b, off, rfl, hc⟩ := h4 hn
  refine ⟨b, off, rfl, fun j hj => ?_⟩
  have := hc j hj
  rw [List.getElem?_eq_getElem (by omega)] at this
  rw [h.cell this (hd b rfl), ← this, hc j hj]
/-- a function that is called for each part -/
structure Doer (D : World → Nat → Prop) (I : List (List Int) → World → Prop) (fn : Nat) (cb : Array Value) (S : List Int) : Prop where
  calls : CallsIt fn
  keepI : ∀ done w w', I done w → Below w.heap.size w w' → I done w'
  keepD : ∀ done w w', I done w → Below w.heap.size w w' → ∀ k, D w' k → D w k
  ltD : ∀ done w k, I done w → D w k → k < w.heap.size
  run : ∀ (done : List (List Int)) (part : List Int) v w, part.length ≤ 10 → (∀ y ∈ part, y ∈ S) → I done w → Ints w v part → (∀ g, v.ownBlock = some g → ¬ D w g) → Calls Tryz.prog fn (#[v] ++ cb) w fun e w' => e = .returned (.tuple #[]) ∧ I (done ++ [part]) w' ∧ Fr D w w'
theorem Doer.fr {D : World → Nat → Prop} {I : List (List Int) → World → Prop} {fn : Nat} {cb : Array Value} {S : List Int} (H : Doer D I fn cb S) {done : List (List Int)} {w w' : World} (hI : I done w) (hb : Below w.heap.size w w') : Fr D w w' :=
  ⟨hb.os, hb.tape, hb.output, hb.size, fun k hk _ => hb.block k hk, fun k hk => .inl (H.keepD done w w' hI hb k hk)⟩
end Go.Proofs.YtfbnmkpkihfocaaGreat
namespace Go.Proofs.YtfbnmkpkihfocaaGreat
open Go.RowKit
set_option linter.unusedVariables false
set_option maxRecDepth 100000
theorem Delete_c (v : Value) (xs : List Int) (i lo : Nat) (w : World) (ho : w.ownsRow lo 3 1 v xs.length (ints xs)) (hi : i < xs.length) (hn : xs.length ≤ 1000) :
    Calls Tryz.prog 70 #[v, .int .i64 (i : Int), .int .i64 ((i : Int) + 1)] w fun e w' => ∃ u, e = .returned u ∧ w'.ownsRow lo 3 1 u (xs.eraseIdx i).length (ints (xs.eraseIdx i)) ∧ w.grownBy w' v.ownBlock := by
  have hv : v ≠ .slice none 0 0 := by
    intro e
    obtain ⟨a, c, e2, _⟩ := (Sl.of_own ho).slice
    rw [e] at e2
    injection e2 with _ e3
    omega
  obtain ⟨g, cap, rfl, hlo, hlt, h1, h2, _, hH⟩ := Lib.holds_of_ownsRow ho hv
  unfold maxLen at h2
  have H := Tryz.slices_Delete_int g 0 cap i (i + 1) xs w hH h1 (by omega) (by omega) (by omega)
  rw [show ((i + 1 : Nat) : Int) = (i : Int) + 1 by omega] at H
  refine H.mono ?_
  rintro e w' ⟨rfl, q, rfl⟩
  have hl := erase_len hi
  have h3 := Lib.ownsRow_putRow (q := q) (k := (xs.eraseIdx i).length) (ys := xs.take i ++ xs.drop (i + 1) ++ List.replicate (i + 1 - i) 0) ho (by simp; omega) (by omega)
  have e3 : List.take (xs.eraseIdx i).length (xs.take i ++ xs.drop (i + 1) ++ List.replicate (i + 1 - i) (0 : Int)) = xs.eraseIdx i := by rw [← List.eraseIdx_eq_take_drop_succ, List.take_left]
  rw [e3] at h3
  have h4 := grownBy_sortedI (w := w) (g := g) (n := q) (os := #[]) (xs.take i ++ xs.drop (i + 1) ++ List.replicate (i + 1 - i) 0).toArray
  rw [Sort.grow_empty] at h4
  exact ⟨_, rfl, by rw [show xs.length - (i + 1 - i) = (xs.eraseIdx i).length by omega]; exact h3, h4⟩
def ltV (xs : List Int) : Value := .tuple #[.bool (testB xs && leastL (setS xs)), .bool (testB xs)]
end Go.Proofs.YtfbnmkpkihfocaaGreat
namespace Go.Proofs.YtfbnmkpkihfocaaGreat
open Go.RowKit
set_option linter.unusedVariables false
set_option linter.unusedSimpArgs false
set_option maxRecDepth 100000
/-- the sequences that begin with one of the first so many -/
def seqTo (n : Nat) (l : List Int) (i : Nat) : List (List Int) := (List.range i).flatMap fun i => if dupQ l i then [] else (seqS n (l.eraseIdx i)).map (l.getD i 0 :: ·)
theorem seqTo_all (n : Nat) (l : List Int) : seqTo n l l.length = seqS (n + 1) l := rfl
theorem seqTo_dup {n : Nat} {l : List Int} {i : Nat} (h : dupQ l i = true) : seqTo n l (i + 1) = seqTo n l i := by
  unfold seqTo; rw [List.range_succ, List.flatMap_append]; simp [h]
theorem seqTo_new {n : Nat} {l : List Int} {i : Nat} (h : dupQ l i = false) : seqTo n l (i + 1) = seqTo n l i ++ (seqS n (l.eraseIdx i)).map (l.getD i 0 :: ·) := by
  unfold seqTo; rw [List.range_succ, List.flatMap_append]; simp [h]
/-- what the walk of a list finds in memory -/
structure QEnv (D : World → Nat → Prop) (w : World) (B2 B3 fn : Nat) (cb : Array Value) : Prop where
  c2 : w.cell? ⟨B2, 0, none⟩ = some (.func (.func fn) #[] cb)
  c3 : w.cell? ⟨B3, 0, none⟩ = some (.func (.func 68) #[] #[.pointer (some ⟨B2, 0, none⟩), .pointer (some ⟨B3, 0, none⟩)])
  d2 : ¬ D w B2
  d3 : ¬ D w B3
theorem QEnv.keep {D : World → Nat → Prop} {w w' : World} {B2 B3 fn : Nat} {cb : Array Value} (h : QEnv D w B2 B3 fn cb) (hf : Fr D w w') : QEnv D w' B2 B3 fn cb where
  c2 := hf.cell h.c2 h.d2
  c3 := hf.cell h.c3 h.d3
  d2 := fun hd => by rcases hf.own _ hd with h1 | h1; exact h.d2 h1; have := World.block_lt_of_cell? _ _ h.c2; simp at this; omega
  d3 := fun hd => by rcases hf.own _ hd with h1 | h1; exact h.d3 h1; have := World.block_lt_of_cell? _ _ h.c3; simp at this; omega
theorem fr_free {D : World → Nat → Prop} {w w' : World} {v : Value} (h : Fr D w w') (hd : ∀ g, v.ownBlock = some g → ¬ D w g ∧ g < w.heap.size) : ∀ g, v.ownBlock = some g → ¬ D w' g ∧ g < w'.heap.size := fun g hg =>
  ⟨fun hdd => by rcases h.own g hdd with h1 | h1; exact (hd g hg).1 h1; have := (hd g hg).2; omega, Nat.lt_of_lt_of_le (hd g hg).2 h.size⟩
set_option maxHeartbeats 8000000 in
theorem extendQ_c {D : World → Nat → Prop} {I : List (List Int) → World → Prop} {fn B2 B3 : Nat} {cb : Array Value} {S : List Int} (H : Doer D I fn cb S) :
    ∀ (m : Nat) (part rest : List Int) (vp vr : Value) (done : List (List Int)) (w : World), rest.length = m → part.length + m ≤ 6 → (∀ y ∈ part, y ∈ S) → (∀ y ∈ rest, y ∈ S) → QEnv D w B2 B3 fn cb → I done w → Ints w vp part → Ints w vr rest →
      (∀ g, vp.ownBlock = some g → ¬ D w g ∧ g < w.heap.size) → (∀ g, vr.ownBlock = some g → ¬ D w g ∧ g < w.heap.size) →
      Calls Tryz.prog 68 #[vp, vr, .pointer (some ⟨B2, 0, none⟩), .pointer (some ⟨B3, 0, none⟩)] w fun e w' => e = .returned (.tuple #[]) ∧ I (done ++ (seqS m rest).map (part ++ ·)) w' ∧ Fr D w w' := by
  intro m
  induction m with
  | zero =>
    intro part rest vp vr done w hrl hpl hpm hrm hE hI hvp hvr hdp hdr
    have hr0 : rest = [] := List.eq_nil_of_length_eq_zero hrl
    subst hr0
    have hcf : ∀ (bs : Array Value) (w : World), (callFunc fn bs).run Tryz.prog w = .ok (.enter fn bs) w := H.calls
    have k2 := hE.c2
    have HR := Lib.hid (H.run done part vp w (by omega) hpm hI hvp (fun g hg => (hdp g hg).1))
    obtain ⟨pa, pc, rfl, _, _, _⟩ := hvp.parts
    obtain ⟨ra, rc, rfl, _, _, _⟩ := hvr.parts
    clear hE hI hvp hvr hdp hdr hrm hpm hrl
    simp only [List.length_nil]
    go_enter Tryz.func68, Tryz.ntmps68
    go_wp2_with fail
    refine HR.out.mono ?_
    rintro e w1 ⟨rfl, hI1, hF1⟩
    have HI1 : Hid (I (done ++ (seqS 0 []).map (part ++ ·)) w1) := by show I _ _; simpa [seqS] using hI1
    have HF1 := Lib.hid hF1
    clear hI1 hF1 k2
    go_wp2
    go_loopw [16] (fun j wr => j = .int .i64 0 ∧ w1 = wr) (fun _ _ => 0)
    case atStart => exact ⟨rfl, rfl⟩
    case round =>
      obtain ⟨rfl, rfl⟩ := hrel
      go_wp2
      refine bodyPost_end (results_none rfl _ _ _) rfl ?_
      exact ⟨rfl, HI1.out, HF1.out⟩
  | succ m ih =>
    intro part rest vp vr done w hrl hpl hpm hrm hE hI hvp hvr hdp hdr
    obtain ⟨i, hi, hz0, hz1, hz2⟩ := info_parts info_int
    obtain ⟨pa, pc, rfl, _, _, _⟩ := hvp.parts
    obtain ⟨ra, rc, rfl, _, _, _⟩ := hvr.parts
    have IH := Lib.hid ih; have HPM := Lib.hid hpm; have HRM := Lib.hid hrm
    have HE := Lib.hid hE; have HI := Lib.hid hI; have HVP := Lib.hid hvp; have HVR := Lib.hid hvr
    have HDP := Lib.hid hdp; have HDR := Lib.hid hdr; have HRL := Lib.hid hrl
    have hr1 : 0 < rest.length := by omega
    have hp5 : part.length ≤ 5 := by omega
    have hr6 : rest.length ≤ 6 := by omega
    have HPL := Lib.hid hpl
    have HSA := Lib.hid (seqTo_all m rest)
    have hne0 : ((rest.length : Int) == 0) = false := by rw [beq_eq_false_iff_ne]; omega
    clear ih hpm hrm hE hI hvp hvr hdp hdr hrl hpl
    go_enter Tryz.func68, Tryz.ntmps68
    go_wp2
    go_loopw [16] (fun j wr => ∃ k : Nat, k ≤ rest.length ∧ j = .int .i64 (k : Int) ∧ Hid (I (done ++ (seqTo m rest k).map (part ++ ·)) wr) ∧ Hid (Fr D w wr)) (fun j _ => rest.length - (intOf j).toNat)
    case atStart => exact ⟨0, by omega, rfl, by show I _ _; simpa [seqTo] using HI.out, Fr.refl _⟩
    case round =>
      obtain ⟨k, hk, rfl, HIr, HFr⟩ := hrel
      by_cases hlt : k < rest.length
      · have hd : decide ((k : Int) < (rest.length : Int)) = true := by simp; omega
        obtain ⟨x, hx⟩ := elem_at hlt
        have hEr := HE.out.keep HFr.out
        have c4 := hEr.c3
        have hv2 := HFr.out.ints HVP.out (fun g hg => (HDP.out g hg).1)
        have hv3 := HFr.out.ints HVR.out (fun g hg => (HDR.out g hg).1)
        have HER := Lib.hid hEr
        have hgx : rest.getD k 0 = x := by rw [List.getD_eq_getElem?_getD, hx.out]; rfl
        obtain ⟨_, _, he, _, _, HS⟩ := hv3.parts
        cases he
        obtain ⟨b, off, rfl, g0⟩ := HS.out k x hx.out
        have hw : IntKind.i64.wrap ((k : Int) + 1) = (k : Int) + 1 := IntWalk.i64_in _ (by omega)
        have HGX := Lib.hid hgx
        clear hgx hEr
        rcases hdq : dupQ rest k with _ | _
        · have HSN := Lib.hid (seqTo_new (n := m) hdq)
          have hdq2 : (k = 0) ∨ (∃ k' y, k = k' + 1 ∧ rest[k']? = some y ∧ (x == y) = false) := by
            rcases Nat.eq_zero_or_pos k with h | h
            · exact Or.inl h
            · right
              obtain ⟨k', rfl⟩ : ∃ k', k = k' + 1 := ⟨k - 1, by omega⟩
              obtain ⟨y, hy⟩ := elem_at (show k' < rest.length by omega)
              refine ⟨k', y, rfl, hy.out, ?_⟩
              unfold dupQ at hdq
              have hg2 : rest.getD k' 0 = y := by rw [List.getD_eq_getElem?_getD, hy.out]; rfl
              rw [HGX.out, Nat.add_sub_cancel, hg2, decide_eq_true (Nat.succ_pos k'), Bool.true_and] at hdq
              exact hdq
          have HRE : Hid ((rest.eraseIdx k).length = m) := by
            have h1 := erase_len hlt
            have h2 := HRL.out
            show _ = _
            omega
          have HPX : Hid (∀ y ∈ part ++ [x], y ∈ S) := fun y hy => by
            rcases List.mem_append.1 hy with h | h
            · exact HPM.out y h
            · rw [List.mem_singleton] at h; rw [h]; exact HRM.out x (List.mem_of_getElem? hx.out)
          have HRX : Hid (∀ y ∈ rest.eraseIdx k, y ∈ S) := fun y hy => HRM.out y ((List.eraseIdx_sublist rest k).subset hy)
          clear hdq
          rcases hdq2 with h0 | ⟨k', y, hkk, hy, hxy⟩
          · have hpos : decide (0 < (k : Int)) = false := by simp; omega
            have hposn : decide (0 < k) = false := by simp; omega
            have hposf : (0 < k) = False := by simp; omega
            have HK0 := Lib.hid h0
            clear h0 HS
            go_wp2_with fail
            go_region_held3 (fun w' => w'.cell? ⟨B3, 0, none⟩ = some (.func (.func 68) #[] #[.pointer (some ⟨B2, 0, none⟩), .pointer (some ⟨B3, 0, none⟩)]))
              (first | assumption | go_keep)
              (first | (go_at_call_of 69 (Value.slice pa part.length pc); refine (Clone_c _ part _ (by first | exact Sl.drew hv2 | exact Sl.drew (Sl.alloc hv2 _) | exact Sl.alloc (Sl.drew hv2) _) (by omega)).mono ?_; rintro e w' ⟨uc, rfl, hoc, hbc⟩; have hb3 : Below wr.heap.size wr w' := Below.chain (by (repeat (first | exact Below.refl _ _ | exact (Below.refl _ _).drew | assumption | exact below_one _ | refine Below.chain ?_ (by assumption) | refine Below.drew ?_ | refine Below.alc ?_ _ | refine below_drewN ?_ | (refine Below.setCell ?_ ?_ _) | exact Nat.le_refl _ | (simp; done) | (simp; omega)))) hbc; have l1 := cell_later hb3 c4) | (refine step_append_lies _ (by rfl) _ _ _ (by rfl) wr.heap.size 3 i _ 1 8 Tryz.underlying24 hi hz0 hz1 hz2 rfl (by omega) _ part.length (ints part) (by rfl) (by first | exact own_lo hoc (by simp) | exact own_lo (hoc.alloc _) (by simp)) _ 1 1 [.int .i64 x] (by rfl) (by rfl) (by first | exact news_new _ [.int .i64 x] _ | exact fun j u hu => cell_later hbc (news_new _ [.int .i64 x] _ j u hu)) (by simp [Value.oneCell']) (by omega) (by unfold maxLen; omega) (by omega) (by have := hb3.size; simp; omega) _ rfl ?_; intro gg cap w3 ho5 hg5 hat hlt5; have hb7 : Below wr.heap.size wr w3 := (by first | exact hb3 | exact Below.alc hb3 _ : Below wr.heap.size wr _).grown hg5 (by have := hb3.size; simp; omega) (fun g hg => by have := (hoc.lt g hg).1; simp at this; omega); have k1 := cell_later hb7 c4) | (go_at_call_of 69 (Value.slice (some ⟨b, off, none⟩) rest.length rc); refine (Clone_c _ rest _ (hv3.below hb7) (by omega)).mono ?_; rintro e w5 ⟨ud, rfl, hod, hbd⟩; have hb8 := Below.chain hb7 hbd; have m1 := cell_later hb8 c4; have hz7 := hb7.size) | (go_at_call 70; refine (Delete_c ud rest k _ _ hod hlt (by omega)).mono ?_; rintro e w6 ⟨ue, rfl, hoe, hge⟩; have hb9 : Below wr.heap.size wr w6 := hb8.grown hge hb8.size (fun q hq => by have := (hod.lt q hq).1; omega); have n1 := cell_later hb9 c4; have ho6 := (own_keep ho5 hbd).kept hge (Or.inr (fun e2 => by have h1 := (ho5.lt gg rfl).2; have h2 := (hod.lt gg e2.symm).1; omega))) | (go_at_call 68; have hF5a := H.fr HIr.out hb9; have hd3 : ∀ g, (Value.slice (some ⟨gg, 0, none⟩) (part.length + 1) cap).ownBlock = some g → ¬ D w6 g ∧ g < w6.heap.size := fun g hg => ⟨fun hdd => by have h1 := H.ltD _ _ _ HIr.out (H.keepD _ _ _ HIr.out hb9 g hdd); have h2 := (ho6.lt g hg).1; omega, (ho6.lt g hg).2⟩; have hd4 : ∀ g, ue.ownBlock = some g → ¬ D w6 g ∧ g < w6.heap.size := fun g hg => ⟨fun hdd => by have h1 := H.ltD _ _ _ HIr.out (H.keepD _ _ _ HIr.out hb9 g hdd); have h2 := (hoe.lt g hg).1; omega, (hoe.lt g hg).2⟩; have HX := IH.out (part ++ [x]) (rest.eraseIdx k) (.slice (some ⟨gg, 0, none⟩) (part.length + 1) cap) ue (done ++ (seqTo m rest k).map (part ++ ·)) w6 HRE.out (by have := HPL.out; simp; omega) HPX.out HRX.out (HER.out.keep hF5a) (H.keepI _ _ _ HIr.out hb9) (Ints.of_own (ownsRow_cast ho6 (by simp) (by simp))) (Ints.of_own hoe) hd3 hd4; refine HX.mono ?_; rintro e w7 ⟨rfl, hI7, hF7⟩; have hF8 := hF5a.trans hF7; have o1 := hF8.cell c4 HER.out.d3))
            all_goals
              have HI7 : Hid (I (done ++ (seqTo m rest (k + 1)).map (part ++ ·)) w7) := by
                show I _ _
                rw [HSN.out, HGX.out]
                simpa [Function.comp_def] using hI7
              have HF8 := Lib.hid (HFr.out.trans hF8)
              clear hI7 hF7 hF8
              go_wp2
              go_roundw
              case rel => exact ⟨k + 1, by omega, by go_num, HI7, HF8⟩
              case measure => simp [intOf]; omega
          · have hpos : decide (0 < (k : Int)) = true := by simp; omega
            have hkm : (k : Int) - 1 = (k' : Int) := by omega
            have hk'l : k' < rest.length := by omega
            have hwk : IntKind.i64.wrap (k' : Int) = (k' : Int) := IntWalk.i64_in _ (by omega)
            obtain ⟨b1, off1, he1, g1⟩ := HS.out k' y hy
            cases he1
            have HKK := Lib.hid hkk
            clear hkk HS hy
            go_wp2_with fail
            go_region_held3 (fun w' => w'.cell? ⟨B3, 0, none⟩ = some (.func (.func 68) #[] #[.pointer (some ⟨B2, 0, none⟩), .pointer (some ⟨B3, 0, none⟩)]))
              (first | assumption | go_keep)
              (first | (go_at_call_of 69 (Value.slice pa part.length pc); refine (Clone_c _ part _ (by first | exact Sl.drew hv2 | exact Sl.drew (Sl.alloc hv2 _) | exact Sl.alloc (Sl.drew hv2) _) (by omega)).mono ?_; rintro e w' ⟨uc, rfl, hoc, hbc⟩; have hb3 : Below wr.heap.size wr w' := Below.chain (by (repeat (first | exact Below.refl _ _ | exact (Below.refl _ _).drew | assumption | exact below_one _ | refine Below.chain ?_ (by assumption) | refine Below.drew ?_ | refine Below.alc ?_ _ | refine below_drewN ?_ | (refine Below.setCell ?_ ?_ _) | exact Nat.le_refl _ | (simp; done) | (simp; omega)))) hbc; have l1 := cell_later hb3 c4) | (refine step_append_lies _ (by rfl) _ _ _ (by rfl) wr.heap.size 3 i _ 1 8 Tryz.underlying24 hi hz0 hz1 hz2 rfl (by omega) _ part.length (ints part) (by rfl) (by first | exact own_lo hoc (by simp) | exact own_lo (hoc.alloc _) (by simp)) _ 1 1 [.int .i64 x] (by rfl) (by rfl) (by first | exact news_new _ [.int .i64 x] _ | exact fun j u hu => cell_later hbc (news_new _ [.int .i64 x] _ j u hu)) (by simp [Value.oneCell']) (by omega) (by unfold maxLen; omega) (by omega) (by have := hb3.size; simp; omega) _ rfl ?_; intro gg cap w3 ho5 hg5 hat hlt5; have hb7 : Below wr.heap.size wr w3 := (by first | exact hb3 | exact Below.alc hb3 _ : Below wr.heap.size wr _).grown hg5 (by have := hb3.size; simp; omega) (fun g hg => by have := (hoc.lt g hg).1; simp at this; omega); have k1 := cell_later hb7 c4) | (go_at_call_of 69 (Value.slice (some ⟨b, off, none⟩) rest.length rc); refine (Clone_c _ rest _ (hv3.below hb7) (by omega)).mono ?_; rintro e w5 ⟨ud, rfl, hod, hbd⟩; have hb8 := Below.chain hb7 hbd; have m1 := cell_later hb8 c4; have hz7 := hb7.size) | (go_at_call 70; refine (Delete_c ud rest k _ _ hod hlt (by omega)).mono ?_; rintro e w6 ⟨ue, rfl, hoe, hge⟩; have hb9 : Below wr.heap.size wr w6 := hb8.grown hge hb8.size (fun q hq => by have := (hod.lt q hq).1; omega); have n1 := cell_later hb9 c4; have ho6 := (own_keep ho5 hbd).kept hge (Or.inr (fun e2 => by have h1 := (ho5.lt gg rfl).2; have h2 := (hod.lt gg e2.symm).1; omega))) | (go_at_call 68; have hF5a := H.fr HIr.out hb9; have hd3 : ∀ g, (Value.slice (some ⟨gg, 0, none⟩) (part.length + 1) cap).ownBlock = some g → ¬ D w6 g ∧ g < w6.heap.size := fun g hg => ⟨fun hdd => by have h1 := H.ltD _ _ _ HIr.out (H.keepD _ _ _ HIr.out hb9 g hdd); have h2 := (ho6.lt g hg).1; omega, (ho6.lt g hg).2⟩; have hd4 : ∀ g, ue.ownBlock = some g → ¬ D w6 g ∧ g < w6.heap.size := fun g hg => ⟨fun hdd => by have h1 := H.ltD _ _ _ HIr.out (H.keepD _ _ _ HIr.out hb9 g hdd); have h2 := (hoe.lt g hg).1; omega, (hoe.lt g hg).2⟩; have HX := IH.out (part ++ [x]) (rest.eraseIdx k) (.slice (some ⟨gg, 0, none⟩) (part.length + 1) cap) ue (done ++ (seqTo m rest k).map (part ++ ·)) w6 HRE.out (by have := HPL.out; simp; omega) HPX.out HRX.out (HER.out.keep hF5a) (H.keepI _ _ _ HIr.out hb9) (Ints.of_own (ownsRow_cast ho6 (by simp) (by simp))) (Ints.of_own hoe) hd3 hd4; refine HX.mono ?_; rintro e w7 ⟨rfl, hI7, hF7⟩; have hF8 := hF5a.trans hF7; have o1 := hF8.cell c4 HER.out.d3))
            all_goals
              have HI7 : Hid (I (done ++ (seqTo m rest (k + 1)).map (part ++ ·)) w7) := by
                show I _ _
                rw [HSN.out, HGX.out]
                simpa [Function.comp_def] using hI7
              have HF8 := Lib.hid (HFr.out.trans hF8)
              clear hI7 hF7 hF8
              go_wp2
              go_roundw
              case rel => exact ⟨k + 1, by omega, by go_num, HI7, HF8⟩
              case measure => simp [intOf]; omega
        · have HSN := Lib.hid (seqTo_dup (n := m) hdq)
          have hdq2 : ∃ k' , k = k' + 1 ∧ rest[k']? = some x := by
            unfold dupQ at hdq
            simp only [Bool.and_eq_true, decide_eq_true_eq, beq_iff_eq] at hdq
            obtain ⟨k', rfl⟩ : ∃ k', k = k' + 1 := ⟨k - 1, by omega⟩
            obtain ⟨y, hy⟩ := elem_at (show k' < rest.length by omega)
            refine ⟨k', rfl, ?_⟩
            have hg2 : rest.getD k' 0 = y := by rw [List.getD_eq_getElem?_getD, hy.out]; rfl
            rw [HGX.out, Nat.add_sub_cancel, hg2] at hdq
            rw [hdq.2]; exact hy.out
          obtain ⟨k', rfl, hy⟩ := hdq2
          have g1 := HS.out k' x hy
          obtain ⟨b1, off1, he1, g1⟩ := g1
          cases he1
          have hkk : ((k' + 1 : Nat) : Int) - 1 = (k' : Int) := by omega
          have hk'l : k' < rest.length := by omega
          have hwk : IntKind.i64.wrap (k' : Int) = (k' : Int) := IntWalk.i64_in _ (by omega)
          have hpos : decide (0 < ((k' + 1 : Nat) : Int)) = true := by simp
          have HI2 : Hid (I (done ++ (seqTo m rest (k' + 1 + 1)).map (part ++ ·)) wr) := by show I _ _; rw [HSN.out]; exact HIr.out
          clear hdq HS hv2 hv3 hy
          go_wp2
          go_roundw
          case rel => exact ⟨k' + 1 + 1, by omega, by go_num, HI2, HFr⟩
          case measure => simp [intOf]; omega
      · obtain rfl : k = rest.length := by omega
        have hd : decide ((rest.length : Int) < (rest.length : Int)) = false := by simp
        have HI2 : Hid (I (done ++ (seqS (m + 1) rest).map (part ++ ·)) wr) := by show I _ _; rw [← HSA.out]; exact HIr.out
        go_wp2
        refine bodyPost_end (results_none rfl _ _ _) rfl ?_
        exact ⟨rfl, HI2.out, HFr.out⟩
end Go.Proofs.YtfbnmkpkihfocaaGreat
namespace Go.Proofs.YtfbnmkpkihfocaaGreat
open Go.RowKit
set_option linter.unusedVariables false
set_option linter.unusedSimpArgs false
set_option maxRecDepth 100000
theorem sequences_c {D : World → Nat → Prop} {I : List (List Int) → World → Prop} {fn : Nat} {cb : Array Value} {S : List Int} (H : Doer D I fn cb S) (l : List Int) (hl : l.length ≤ 6) (hS : ∀ y ∈ l, y ∈ S) (v : Value) (w : World) (done : List (List Int)) (hI : I done w) (hv : Ints w v l)
    (hds : ∀ g, v.ownBlock = some g → ¬ D w g ∧ g < w.heap.size) :
    Calls Tryz.prog 51 #[v, .func (.func fn) #[] cb] w fun e w' => e = .returned (.tuple #[]) ∧ I (done ++ seqS l.length l) w' ∧ Fr D w w' := by
  obtain ⟨a, c, rfl, _, _, _⟩ := hv.parts
  have hbA : Below w.heap.size w ((w.alloc (.cells #[.func (.func fn) #[] cb] 80)).alloc (.cells #[.func (.func 68) #[] #[.pointer (some ⟨w.heap.size, 0, none⟩), .pointer (some ⟨w.heap.size + 1, 0, none⟩)]] 85)) := by (repeat (first | exact Below.refl _ _ | exact (Below.refl _ _).drew | assumption | exact below_one _ | refine Below.chain ?_ (by assumption) | refine Below.drew ?_ | refine Below.alc ?_ _ | refine below_drewN ?_ | (refine Below.setCell ?_ ?_ _) | exact Nat.le_refl _ | (simp; done) | (simp; omega)))
  have hE : QEnv D ((w.alloc (.cells #[.func (.func fn) #[] cb] 80)).alloc (.cells #[.func (.func 68) #[] #[.pointer (some ⟨w.heap.size, 0, none⟩), .pointer (some ⟨w.heap.size + 1, 0, none⟩)]] 85)) w.heap.size (w.heap.size + 1) fn cb :=
    have hnd : ∀ k, w.heap.size ≤ k → ¬ D ((w.alloc (.cells #[.func (.func fn) #[] cb] 80)).alloc (.cells #[.func (.func 68) #[] #[.pointer (some ⟨w.heap.size, 0, none⟩), .pointer (some ⟨w.heap.size + 1, 0, none⟩)]] 85)) k := fun k hk hd => by
      have := H.ltD _ _ _ hI (H.keepD _ _ _ hI hbA k hd); omega
    { c2 := by rw [World.cell?_alloc_past _ _ _ (by simp), World.cell?_alloc_at _ _ _ _ rfl]; rfl
      c3 := by rw [World.cell?_alloc_at _ _ _ _ (by simp)]; rfl
      d2 := hnd _ (by omega)
      d3 := hnd _ (by omega) }
  have HX := extendQ_c H l.length [] l (.slice none 0 0) (.slice a l.length c) done _ rfl (by simpa using hl) (fun y hy => by simp at hy) hS hE (H.keepI _ _ _ hI hbA) (Sl.nil_ _ _) (hv.below hbA) (fun g hg => by simp [Value.ownBlock] at hg)
    (fun g hg => ⟨fun hd => (hds g hg).1 (H.keepD _ _ _ hI hbA g hd), by have := (hds g hg).2; simp; omega⟩)
  have hF := Lib.hid (H.fr hI hbA)
  have HY := Lib.hid HX
  have hst : (store ⟨w.heap.size + 1, 0, none⟩ (.func (.func 68) #[] #[.pointer (some ⟨w.heap.size, 0, none⟩), .pointer (some ⟨w.heap.size + 1, 0, none⟩)])).run Tryz.prog ((w.alloc (.cells #[.func (.func fn) #[] cb] 80)).alloc (.cells #[.nilFunc] 85)) = .ok () ((w.alloc (.cells #[.func (.func fn) #[] cb] 80)).alloc (.cells #[.func (.func 68) #[] #[.pointer (some ⟨w.heap.size, 0, none⟩), .pointer (some ⟨w.heap.size + 1, 0, none⟩)]] 85)) := by
    rw [run_store _ _ _ _ _ rfl]
    simp [go_sem]
  clear HX hE hds hI hv
  go_enter Tryz.func51, Tryz.ntmps51
  go_wp2_with fail
  refine HY.out.mono ?_
  rintro e w1 ⟨rfl, hI1, hF1⟩
  have HI : Hid (I (done ++ seqS l.length l) w1) := by show I _ _; simpa using hI1
  have HF := Lib.hid (hF.out.trans hF1)
  clear hI1 hF1
  go_wp2
  refine bodyPost_end (results_none rfl _ _ _) rfl ?_
  exact ⟨rfl, HI.out, HF.out⟩
/-- what lies in the variables of the best sequence and of its changes -/
def QB (mB mL : Nat) (w : World) (bv : Value) (lv : Int) : Option (List Int) → Prop
  | none => bv = .slice none 0 0 ∧ lv = -1
  | some b => lv = chL b ∧ 0 ≤ lv ∧ Ints w bv b ∧ ∀ g, bv.ownBlock = some g → ¬ (g = mB ∨ g = mL)
structure QI (mB mL : Nat) (done : List (List Int)) (w : World) : Prop where
  ne : mB ≠ mL
  fB : w.frozen? ⟨mB, 0, none⟩ = false
  fL : w.frozen? ⟨mL, 0, none⟩ = false
  st : ∃ bv lv, w.cell? ⟨mB, 0, none⟩ = some bv ∧ w.cell? ⟨mL, 0, none⟩ = some (.int .i64 lv) ∧ QB mB mL w bv lv (done.foldl (keepI chL) none)
theorem QB.keep {mB mL : Nat} {w w' : World} {bv : Value} {lv : Int} {r : Option (List Int)} (h : QB mB mL w bv lv r) (hb : Below w.heap.size w w') : QB mB mL w' bv lv r := by
  cases r with
  | none => exact h
  | some b => exact ⟨h.1, h.2.1, h.2.2.1.below hb, h.2.2.2⟩
theorem QI.keep {mB mL : Nat} {done : List (List Int)} {w w' : World} (h : QI mB mL done w) (hb : Below w.heap.size w w') : QI mB mL done w' := by
  obtain ⟨bv, lv, h1, h2, h3⟩ := h.st
  exact ⟨h.ne, by rw [hb.frozen (p := ⟨mB, 0, none⟩) (World.block_lt_of_cell? _ _ h1)]; exact h.fB, by rw [hb.frozen (p := ⟨mL, 0, none⟩) (World.block_lt_of_cell? _ _ h2)]; exact h.fL, bv, lv, cell_later hb h1, cell_later hb h2, h3.keep hb⟩
theorem set_fr (mB mL : Nat) {w w' : World} (hb : Below w.heap.size w w') (x y : Value) : Fr (fun _ j => j = mB ∨ j = mL) w ((w'.setCell ⟨mB, 0, none⟩ x).setCell ⟨mL, 0, none⟩ y) :=
  ⟨hb.os, hb.tape, hb.output, by simp; exact hb.size, fun j hj hne => by
    rw [Below.heap_setCell _ _ _ _ (fun e => hne (Or.inr e)), Below.heap_setCell _ _ _ _ (fun e => hne (Or.inl e))]; exact hb.block j hj, fun j hj => .inl hj⟩
theorem QI.put {mB mL : Nat} {done : List (List Int)} {w w' : World} {part : List Int} {v : Value} (h : QI mB mL done w) (hb : Below w.heap.size w w') (hv : Ints w v part) (hd : ∀ g, v.ownBlock = some g → ¬ (g = mB ∨ g = mL)) (h0 : 0 ≤ chL part)
    (hst : keepI chL (done.foldl (keepI chL) none) part = some part) : QI mB mL (done ++ [part]) ((w'.setCell ⟨mB, 0, none⟩ v).setCell ⟨mL, 0, none⟩ (.int .i64 (chL part))) := by
  have hk := h.keep hb
  obtain ⟨bv, lv, h1, h2, _⟩ := hk.st
  have hne := h.ne
  have hf := set_fr mB mL hb v (.int .i64 (chL part))
  refine ⟨hne, by simpa using hk.fB, by simpa using hk.fL, v, chL part, ?_, ?_, ?_⟩
  · rw [World.cell?_setCell_other _ _ _ _ (by simp [hne])]
    exact World.cell?_setCell_same _ _ _ h1
  · refine World.cell?_setCell_same _ _ _ (u := .int .i64 lv) ?_
    rw [World.cell?_setCell_other _ _ _ _ (by simp [Ne.symm hne])]; exact h2
  · rw [List.foldl_append]
    show QB mB mL _ v (chL part) (keepI chL (done.foldl (keepI chL) none) part)
    rw [hst]
    exact ⟨rfl, h0, hf.ints hv hd, hd⟩
set_option maxHeartbeats 4000000 in
theorem qu_doer (mB mL : Nat) (S : List Int) (hS : ∀ y ∈ S, 0 ≤ y ∧ y ≤ 9) : Doer (fun _ j => j = mB ∨ j = mL) (QI mB mL) 54 #[.pointer (some ⟨mL, 0, none⟩), .pointer (some ⟨mB, 0, none⟩)] S where
  calls := fun bs w => by kernel_rfl
  keepI := fun done w w' h hb => h.keep hb
  keepD := fun done w w' h hb j hj => hj
  ltD := fun done w j h hj => by
    obtain ⟨bv, lv, h1, h2, _⟩ := h.st
    rcases hj with rfl | rfl
    · exact World.block_lt_of_cell? _ _ h1
    · exact World.block_lt_of_cell? _ _ h2
  run := by
    intro done part v w hpl hps hI hv hd
    have hdg : ∀ x ∈ part, 0 ≤ x ∧ x ≤ 9 := fun x hx => hS x (hps x hx)
    have hcb := chL_bd hdg hpl
    have HC := Lib.hid (digitChanges_c v part w hv hdg hpl)
    have HI := Lib.hid hI
    have HV := Lib.hid hv
    have HD := Lib.hid hd
    have hFr0 : Hid (∀ w', Below w.heap.size w w' → Fr (fun _ j => j = mB ∨ j = mL) w w') := fun w' hb => ⟨hb.os, hb.tape, hb.output, hb.size, fun j hj _ => hb.block j hj, fun j hj => .inl hj⟩
    have hfo : done.foldl (keepI chL) none = done.foldl (keepI chL) none := rfl
    have HFA : Hid ((done ++ [part]).foldl (keepI chL) none = keepI chL (done.foldl (keepI chL) none) part) := by show _ = _; rw [List.foldl_append]; rfl
    obtain ⟨a, c, rfl, _, _, _⟩ := hv.parts
    obtain ⟨hne, hfB, hfL, bv, lv, hB, hL, hQ⟩ := hI
    have hne2 : mL ≠ mB := fun e => hne e.symm
    have HH0 := Lib.hid hcb.1
    clear hfo hv hd hdg
    cases hr : done.foldl (keepI chL) none with
    | none =>
      rw [hr] at hQ
      obtain ⟨rfl, rfl⟩ := hQ
      have HP : Hid (∀ w', Below w.heap.size w w' → QI mB mL (done ++ [part]) ((w'.setCell ⟨mB, 0, none⟩ (.slice a part.length c)).setCell ⟨mL, 0, none⟩ (.int .i64 (chL part)))) := fun w' hb => HI.out.put hb HV.out HD.out HH0.out (by rw [hr]; rfl)
      have HF := Lib.hid (fun w' hb => set_fr (w := w) (w' := w') mB mL hb (.slice a part.length c) (.int .i64 (chL part)))
      clear hr
      generalize chL part = cp at *
      go_enter Tryz.func54, Tryz.ntmps54
      go_wp2_with fail
      refine HC.out.mono ?_
      rintro e w1 ⟨rfl, hb1⟩
      have g1 := cell_later hb1 hB
      have g2 := cell_later hb1 hL
      have f1 := (hb1.frozen (p := ⟨mB, 0, none⟩) (World.block_lt_of_cell? _ _ hB)).trans hfB
      have f2 := (hb1.frozen (p := ⟨mL, 0, none⟩) (World.block_lt_of_cell? _ _ hL)).trans hfL
      have HB1 := Lib.hid hb1
      clear hb1
      go_wp2
      refine bodyPost_end (results_none rfl _ _ _) rfl ?_
      exact ⟨rfl, HP.out _ HB1.out, HF.out _ HB1.out⟩
    | some b =>
      rw [hr] at hQ
      obtain ⟨rfl, hl0, hib, hdb⟩ := hQ
      have hln : decide (chL b < 0) = false := by simp; omega
      by_cases hlt : chL part < chL b
      · have HP : Hid (∀ w', Below w.heap.size w w' → QI mB mL (done ++ [part]) ((w'.setCell ⟨mB, 0, none⟩ (.slice a part.length c)).setCell ⟨mL, 0, none⟩ (.int .i64 (chL part)))) := fun w' hb => HI.out.put hb HV.out HD.out HH0.out (by rw [hr]; simp [keepI, hlt])
        have HF := Lib.hid (fun w' hb => set_fr (w := w) (w' := w') mB mL hb (.slice a part.length c) (.int .i64 (chL part)))
        have e1 : decide (chL part < chL b) = true := decide_eq_true hlt
        clear hr hib
        generalize chL part = cp at *
        generalize chL b = cb at *
        go_enter Tryz.func54, Tryz.ntmps54
        go_wp2_with fail
        refine HC.out.mono ?_
        rintro e w1 ⟨rfl, hb1⟩
        have g1 := cell_later hb1 hB
        have g2 := cell_later hb1 hL
        have f1 := (hb1.frozen (p := ⟨mB, 0, none⟩) (World.block_lt_of_cell? _ _ hB)).trans hfB
        have f2 := (hb1.frozen (p := ⟨mL, 0, none⟩) (World.block_lt_of_cell? _ _ hL)).trans hfL
        have HB1 := Lib.hid hb1
        clear hb1
        go_wp2
        refine bodyPost_end (results_none rfl _ _ _) rfl ?_
        exact ⟨rfl, HP.out _ HB1.out, HF.out _ HB1.out⟩
      · have HP : Hid (∀ w', Below w.heap.size w w' → QI mB mL (done ++ [part]) w') := fun w' hb => by
          have hk := HI.out.keep hb
          obtain ⟨bv2, lv2, k1, k2, k3⟩ := hk.st
          refine ⟨hk.ne, hk.fB, hk.fL, bv2, lv2, k1, k2, ?_⟩
          rw [HFA.out, hr]
          rw [hr] at k3
          simpa [keepI, hlt] using k3
        have e1 : decide (chL part < chL b) = false := decide_eq_false hlt
        clear hr hib
        generalize chL part = cp at *
        generalize chL b = cb at *
        go_enter Tryz.func54, Tryz.ntmps54
        go_wp2_with fail
        refine HC.out.mono ?_
        rintro e w1 ⟨rfl, hb1⟩
        have g2 := cell_later hb1 hL
        have HB1 := Lib.hid hb1
        clear hb1
        go_wp2
        refine bodyPost_end (results_none rfl _ _ _) rfl ?_
        exact ⟨rfl, HP.out _ HB1.out, hFr0.out _ HB1.out⟩
theorem srt_perm (xs : List Int) : (srt xs).Perm xs := List.mergeSort_perm xs (fun x y => decide (x ≤ y))
theorem srt_pw (xs : List Int) : (srt xs).Pairwise (· ≤ ·) :=
  (List.pairwise_mergeSort (le := fun x y => decide (x ≤ y)) (fun a b c h1 h2 => by simp at *; omega) (fun a b => by simp; omega) xs).imp (fun h => by simpa using h)
theorem quOk_len {xs : List Int} (h : quOk xs = true) : xs.length ≤ 6 ∧ xs.all digitB = true := by
  unfold quOk testB at h
  simp only [Bool.and_eq_true, decide_eq_true_eq] at h
  exact ⟨h.2, h.1.2⟩
theorem quiet_fold {xs : List Int} (h : quOk xs = true) : (seqS (srt xs).length (srt xs)).foldl (keepI chL) none = some (quL xs) := by
  obtain ⟨a, r, hs⟩ := ordS_ne xs.length xs rfl
  have h2 := (quiet_same chL (srt_perm xs) (srt_pw xs) hs).1
  rw [h2]
  unfold quL bestS
  rw [if_pos h, hs]
set_option maxHeartbeats 4000000 in
theorem QuietOrder_c (v : Value) (xs : List Int) (w : World) (hv : Ints w v xs) : Calls Tryz.prog 13 #[v] w (QuPost w xs) := by
  have HV := Lib.hid hv
  have HT := Lib.hid (fun w (h : Ints w v xs) => areAllInt_c v xs 50 digitB w h (fun _ _ => by kernel_rfl) (fun x w' => isDigit_c x w'))
  obtain ⟨a, c, rfl, _, _, _⟩ := hv.parts
  clear hv
  rcases hq : quOk xs with _ | _
  · have HF1 : Hid (quC xs = 0) := by show _ = _; unfold quC; rw [hq]; rfl
    have HF2 : Hid (quL xs = []) := by show _ = _; unfold quL; rw [hq]; rfl
    have HQ := Lib.hid hq
    unfold QuPost
    rw [HF1.out, HF2.out, HQ.out]
    by_cases h6 : 6 < xs.length
    · have hd7 : decide (6 < (xs.length : Int)) = true := by simp; omega
      clear hq
      go_enter Tryz.func13, Tryz.ntmps13
      go_wp2
      exact bodyPost_ret (v := .tuple #[.slice none 0 0, .int .i64 0, .bool false]) (by simp [results, Tryz.results13, go_sem]) rfl ⟨_, rfl, Sl.nil_ _ _, Below.refl _ _⟩
    · have hd7 : decide (6 < (xs.length : Int)) = false := by simp; omega
      have ha : xs.all digitB = false := by
        rcases h : xs.all digitB with _ | _
        · rfl
        · unfold quOk testB at hq
          rw [h, decide_eq_true (show xs.length ≤ 10 by omega), decide_eq_true (show xs.length ≤ 6 by omega)] at hq
          cases hq
      rw [ha] at HT
      clear hq ha
      go_enter Tryz.func13, Tryz.ntmps13
      go_wp2_with fail
      refine (HT.out _ HV.out).mono ?_
      rintro e w1 ⟨rfl, hb1⟩
      have HB := Lib.hid hb1
      clear hb1
      go_wp2
      exact bodyPost_ret (v := .tuple #[.slice none 0 0, .int .i64 0, .bool false]) (by simp [results, Tryz.results13, go_sem]) rfl ⟨_, rfl, Sl.nil_ _ _, HB.out⟩
  · obtain ⟨h6, ha⟩ := quOk_len hq
    have hd7 : decide (6 < (xs.length : Int)) = false := by simp; omega
    have HFo := Lib.hid (quiet_fold hq)
    have HF1 : Hid (quC xs = chL (quL xs)) := by show _ = _; unfold quC; rw [hq]; rfl
    have HQ := Lib.hid hq
    have HDG : Hid (∀ y ∈ srt xs, 0 ≤ y ∧ y ≤ 9) := fun y hy => digits_all ha y ((srt_perm xs).subset hy)
    have hsl := srt_len xs
    unfold QuPost
    rw [HF1.out, HQ.out]
    rw [ha] at HT
    clear hq ha
    have HSL := Lib.hid hsl
    clear hsl
    go_enter Tryz.func13, Tryz.ntmps13
    go_wp2_with fail
    refine (HT.out _ HV.out).mono ?_
    rintro e w1 ⟨rfl, hb1⟩
    have hb2 : Below w.heap.size w ((w1.alloc (.cells #[.slice none 0 0] 24)).alloc (.cells #[.int .i64 (-1)] 3)) := Below.alc (Below.alc hb1 _) _
    have hb3 := Below.alc hb2 (.cells #[.slice a xs.length c] 24)
    have hV1 := Lib.hid (VInts.of (HV.out.below hb3))
    have q0 : (((w1.alloc (.cells #[.slice none 0 0] 24)).alloc (.cells #[.int .i64 (-1)] 3)).alloc (.cells #[.slice a xs.length c] 24)).cell? ⟨w1.heap.size + 1 + 1, 0, none⟩ = some (.slice a xs.length c) := by rw [World.cell?_alloc_at _ _ _ _ (by simp)]; rfl
    have hQ0 : QI w1.heap.size (w1.heap.size + 1) [] ((w1.alloc (.cells #[.slice none 0 0] 24)).alloc (.cells #[.int .i64 (-1)] 3)) := by
      refine ⟨by omega, ?_, ?_, .slice none 0 0, -1, ?_, ?_, rfl, rfl⟩
      · have := (Bk.new w1 24 #[.slice none 0 0]).alloc (.cells #[.int .i64 (-1)] 3); exact this.frozen 0
      · have := Bk.new (w1.alloc (.cells #[.slice none 0 0] 24)) 3 #[.int .i64 (-1)]; rw [World.size_alloc] at this; exact this.frozen 0
      · have := (Bk.new w1 24 #[.slice none 0 0]).alloc (.cells #[.int .i64 (-1)] 3); exact this.cell 0
      · have := Bk.new (w1.alloc (.cells #[.slice none 0 0] 24)) 3 #[.int .i64 (-1)]; rw [World.size_alloc] at this; exact this.cell 0
    have HQ0 := Lib.hid (hQ0.keep (below_one (.cells #[.slice a xs.length c] 24)))
    have HVA := Lib.hid (Values_c a xs.length c ((w1.alloc (.cells #[.slice none 0 0] 24)).alloc (.cells #[.int .i64 (-1)] 3)))
    have HSO := Lib.hid (Sorted_c (w1.heap.size + 1 + 1) (.slice a xs.length c) xs (by omega) (((w1.alloc (.cells #[.slice none 0 0] 24)).alloc (.cells #[.int .i64 (-1)] 3)).alloc (.cells #[.slice a xs.length c] 24)) (by simp) q0 (by simpa using hV1.out))
    have HB3 := Lib.hid hb3
    have hw1 : w.heap.size ≤ w1.heap.size := hb1.size
    clear hb1 hb2 hb3 hV1 q0 hQ0
    go_wp2_with fail
    refine HVA.out.mono ?_
    rintro e w' ⟨rfl, rfl⟩
    simp only [World.size_alloc]
    go_wp2_with fail
    refine HSO.out.mono ?_
    rintro e w2 ⟨u, rfl, ho, hb4⟩
    have HB4 := Lib.hid (Below.chain HB3.out hb4)
    have HQ2 := Lib.hid (HQ0.out.keep hb4)
    have ho2 : w2.ownsRow (w1.heap.size + 1 + 1 + 1) 3 1 u (srt xs).length ((srt xs).map (Value.int .i64)) := ownsRow_cast (own_lo ho (by simp)) HSL.out.symm rfl
    have hlt := ho2.lt
    have HIu := Lib.hid (Ints.of_own ho2)
    have HX := Lib.hid (sequences_c (qu_doer w1.heap.size (w1.heap.size + 1) (srt xs) HDG.out) (srt xs) (by rw [HSL.out]; exact h6) (fun y hy => hy) u w2 [] HQ2.out HIu.out (fun g hg => ⟨fun hd => by have := (hlt g hg).1; rcases hd with h | h <;> omega, (hlt g hg).2⟩))
    clear ho ho2 hlt hb4 HB3 HQ0 HVA HSO
    go_wp2_with fail
    refine HX.out.mono ?_
    rintro e w3 ⟨rfl, hI3, hF3⟩
    have hb5 : Below w.heap.size w w3 := ⟨hF3.os.trans HB4.out.os, hF3.tape.trans HB4.out.tape, hF3.output.trans HB4.out.output, Nat.le_trans HB4.out.size hF3.size, fun j hj => (hF3.block j (Nat.lt_of_lt_of_le hj HB4.out.size) (by omega)).trans (HB4.out.block j hj)⟩
    obtain ⟨bv, lv, k1, k2, k3⟩ := hI3.st
    rw [List.nil_append, HFo.out] at k3
    obtain ⟨rfl, _, hib, _⟩ := k3
    have HIB := Lib.hid hib
    have HB5 := Lib.hid hb5
    clear hI3 hF3 hib hb5 HX
    generalize hcq : chL (quL xs) = cq at *
    have HCQ := Lib.hid hcq
    clear hcq
    go_wp2
    go_region
    go_wp2
    exact bodyPost_ret (v := .tuple #[bv, .int .i64 cq, .bool true]) (by simp [results, Tryz.results13, go_sem]) rfl ⟨_, by rw [HCQ.out], HIB.out, HB5.out.drew⟩
end Go.Proofs.YtfbnmkpkihfocaaGreat
