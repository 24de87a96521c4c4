/- Texts of this claim, gathered: LwLLeastTests. -/
import Derived.Test.YtlipkplomndjcaaK10
namespace Go.Proofs.Ytlipkplomndjcaa
open Go.RowKit
set_option linter.unusedVariables false
set_option linter.unusedSimpArgs false
set_option maxRecDepth 100000
theorem lt_in {l : List Int} (h : l ∈ ltA) : ltV l = .tuple #[.bool true, .bool true] := by
  unfold ltA at h
  rw [List.mem_filter] at h
  obtain ⟨m, hm, e⟩ := sub_loopE tenI [] l h.1
  rw [List.nil_append] at e
  subst e
  have ht : testB l = true := by
    unfold testB
    rw [Bool.and_eq_true, List.all_eq_true]
    refine ⟨decide_eq_true (hm.length_le), fun x hx => ?_⟩
    exact List.all_eq_true.1 (show tenI.all digitB = true by decide) x (hm.subset hx)
  unfold ltV
  rw [ht, h.2]; rfl
/-- each number of the list is in the test -/
def inT (xs l : List Int) : Bool := l.all fun x => decide (x ∈ xs)
theorem inT_full {xs : List Int} (ht : testB xs = true) : ltA.any (inT xs) = fullB xs := by
  rw [Bool.eq_iff_iff, ← full_least ht]
  simp only [List.any_eq_true, inT, List.all_eq_true, decide_eq_true_eq]
theorem any_take {p : List Int → Bool} {L : List (List Int)} {k : Nat} {l : List Int} (h : L[k]? = some l) : (L.take (k + 1)).any p = ((L.take k).any p || p l) := by
  rw [take_snoc h, List.any_append]; simp
theorem all_take {p : Int → Bool} {L : List Int} {k : Nat} {l : Int} (h : L[k]? = some l) : (L.take (k + 1)).all p = ((L.take k).all p && p l) := by
  rw [take_snoc h, List.all_append]; simp
theorem any_of_take {p : List Int → Bool} {L : List (List Int)} {k : Nat} (h : (L.take k).any p = true) : L.any p = true := by
  rw [List.any_eq_true] at h ⊢
  obtain ⟨l, hl, hp⟩ := h
  exact ⟨l, List.mem_of_mem_take hl, hp⟩
attribute [local irreducible] ltA
set_option maxHeartbeats 2000000 in
theorem FnLeastTests_walk (v : Value) (xs : List Nat) (w : World) (h : Code w v xs) :
    Calls Try.prog 7 #[v] w fun e w' => e = .returned (.bool true) ∧ Below w.heap.size w w' := by
  have HC := Lib.hid h
  obtain ⟨a, c, rfl, _⟩ := h
  have HV := Lib.hid (vBig_c _ _ _ HC.out)
  by_cases hbig : 65536 < xs.length
  · have hd : decide (65536 < xs.length) = true := decide_eq_true hbig
    go_enter Try.func7, Try.ntmps7
    go_wp2_with fail
    refine HV.out.mono ?_
    rintro e w1 ⟨rfl, rfl⟩
    go_wp2
    go_ret
    exact ⟨rfl, Below.refl _ _⟩
  · have hd : decide (65536 < xs.length) = false := decide_eq_false hbig
    have hLle := ltA_tot
    have hLn := ltA_len
    go_enter Try.func7, Try.ntmps7
    go_wp2_with fail
    refine HV.out.mono ?_
    rintro e w1 ⟨rfl, rfl⟩
    go_wp2_with fail
    refine (LeastTests_c _).mono ?_
    rintro e w2 ⟨u1, rfl, ho1, hb2⟩
    have B2 := hb2
    have z2 := hb2.size
    have R1 := ho1.rd
    clear hb2 ho1
    go_wp2_with fail
    refine (sLeastTests_c _).mono ?_
    rintro e w3 ⟨u2, rfl, ho2, hb3⟩
    have B3 := Below.chain B2 hb3
    have z3 := hb3.size
    have R1 := R1.keep hb3 (Nat.le_refl _)
    have R2 := ho2.rd
    clear B2 hb3 ho2
    go_wp2_with fail
    refine (DrawCountFullTests_c _ xs _ (HC.out.below B3)).mono ?_
    rintro e w4 ⟨k, rfl, hb4⟩
    have B4 := Below.chain B3 hb4
    have z4 := hb4.size
    have R1 := R1.keep hb4 (by omega)
    have R2 := R2.keep hb4 (Nat.le_refl _)
    clear B3 hb4
    obtain ⟨cn, cb, HE⟩ : ∃ X B, cfV k = .tuple #[.int .i64 X, .bool B] := ⟨_, _, rfl⟩
    have G1 := fun w => CountFullTests_c k w
    have G2 := fun w => sCountFullTests_c k w
    rw [HE] at G1 G2
    have G1 := Lib.hid G1; have G2 := Lib.hid G2
    clear HE
    go_wp2_with fail
    refine (G1.out _).mono ?_
    rintro e w5 ⟨rfl, hb5⟩
    have B5 := Below.chain B4 hb5
    have z5 := hb5.size
    have R1 := R1.keep hb5 (by omega)
    have R2 := R2.keep hb5 (by omega)
    clear B4 hb5
    go_wp2_with fail
    refine (G2.out _).mono ?_
    rintro e w6 ⟨rfl, hb6⟩
    have B6 := Below.chain B5 hb6
    have z6 := hb6.size
    have R1 := R1.keep hb6 (by omega)
    have R2 := R2.keep hb6 (by omega)
    clear B5 hb6
    generalize hL : ltA = L at *
    have HL := Lib.hid hL
    clear hL
    go_wp2_with fail
    refine (vGroups_c _ _ L _ _ _ R1 R2).mono ?_
    rintro e w7 ⟨rfl, hb7⟩
    have B7 := Below.chain B6 hb7
    have z7 := hb7.size
    have R1 := R1.keep hb7 (by omega)
    clear B6 hb7 R2
    obtain ⟨a1, c1, rfl, hl1, _⟩ := R1.parts
    have hm : ∀ (t : Int), (t != t) = false := by simp
    have hmb : ∀ (t : Bool), (t != t) = false := by simp
    go_wp2
    go_loopw [10] (fun j wr => ∃ k : Nat, k ≤ L.length ∧ j = .int .i64 (k : Int) ∧ Below w.heap.size w wr ∧ w7.heap.size ≤ wr.heap.size ∧ Hid (RdSS wr w2.heap.size (.slice a1 L.length c1) L)) (fun j _ => L.length - (intOf j).toNat)
    case atStart => exact ⟨0, by omega, rfl, B7, Nat.le_refl _, R1⟩
    case round =>
      obtain ⟨k, hk, rfl, hb, hz, HR⟩ := hrel
      have HB := Lib.hid hb
      have HZ := Lib.hid hz
      clear hb hz
      by_cases hlt : k < L.length
      · have hd : decide ((k : Int) < (L.length : Int)) = true := by simp; omega
        obtain ⟨a1x, c1x, e1, _, H1⟩ := HR.out.parts
        cases e1
        obtain ⟨l, hx⟩ := elem_at hlt
        obtain ⟨b, off, a2, c2, rfl, f1, i1⟩ := H1.out k l hx.out
        have hle := lt_in (by rw [HL.out]; exact List.mem_of_getElem? hx.out)
        have HT := Lib.hid (IsLeastTest_c _ l wr i1)
        rw [hle] at HT
        clear i1 H1
        go_wp2_with fail
        refine HT.out.mono ?_
        rintro e w8 ⟨rfl, hb8⟩
        have B8 := Lib.hid (Below.chain HB.out hb8)
        have R8 := Lib.hid (HR.out.keep hb8 (by have := HZ.out; omega))
        have z8 := Lib.hid hb8.size
        clear hb8 HT
        go_wp2
        go_roundw
        case rel => exact ⟨k + 1, by omega, by go_num, B8.out, by have := HZ.out; have := z8.out; omega, R8⟩
        case measure => simp [intOf]; omega
      · obtain rfl : k = L.length := by omega
        have hd : decide ((L.length : Int) < (L.length : Int)) = false := by simp
        go_wp2_with fail
        refine (vCut_c 1 _ xs _ (HC.out.below HB.out) (by omega) (by decide)).mono ?_
        rintro e w8 ⟨vc, ys, rfl, hcy, hyl, hb8⟩
        have B8 := Lib.hid (Below.chain HB.out hb8)
        have R8 := Lib.hid (HR.out.keep hb8 (by have := HZ.out; omega))
        have z8 := Lib.hid hb8.size
        clear hb8
        go_wp2_with fail
        refine (DrawFoundStates_c _ ys _ hcy).mono ?_
        rintro e w9 ⟨u9, ts, rfl, hts, ho9, hb9⟩
        have B9 := Lib.hid (Below.chain B8.out hb9)
        have R9 := Lib.hid (R8.out.keep hb9 (by have := HZ.out; have := z8.out; omega))
        have z9 := Lib.hid hb9.size
        have I9 := Lib.hid (Ints.of_own ho9)
        clear hb9 ho9 hcy
        go_wp2_with fail
        refine (IsFullTest_c _ ts _ I9.out).mono ?_
        rintro e w10 ⟨rfl, hb10⟩
        have B10 := Lib.hid (Below.chain B9.out hb10)
        have R10 := Lib.hid (R9.out.keep hb10 (by have := HZ.out; have := z8.out; have := z9.out; omega))
        have I10 := Lib.hid (I9.out.below hb10)
        clear hb10 I9
        unfold isFullV
        rcases ht : testB ts with _ | _
        · clear ht
          go_wp2
          go_ret
          exact ⟨rfl, B10.out⟩
        · have HA := Lib.hid (inT_full ht)
          rw [HL.out] at HA
          clear ht
          generalize fullB ts = full at *
          obtain ⟨a13, c13, rfl, _, _, _⟩ := I10.out.parts
          have HV := Lib.hid (fun x => vHas_c _ ts x w10 I10.out)
          obtain ⟨a1x, c1x, e1, _, H1⟩ := R10.out.parts
          cases e1
          go_wp2
          go_loopw [16, 17] (fun p j wr => ∃ k : Nat, k ≤ L.length ∧ p = .bool ((L.take k).any (inT ts)) ∧ j = .int .i64 (k : Int) ∧ w10 = wr) (fun _ j _ => L.length - (intOf j).toNat)
          case atStart => exact ⟨0, by omega, by simp, rfl, rfl⟩
          case round =>
            obtain ⟨k, hk, rfl, rfl, rfl⟩ := hrel
            rcases hp : (L.take k).any (inT ts) with _ | _
            · by_cases hlt : k < L.length
              · have hd : decide ((k : Int) < (L.length : Int)) = true := by simp; omega
                obtain ⟨l, hx⟩ := elem_at hlt
                obtain ⟨b, off, a2, c2, rfl, f1, i1⟩ := H1.out k l hx.out
                obtain ⟨a2x, c2x, e2, _, _, H2⟩ := i1.parts
                cases e2
                have HS : Hid ((L.take (k + 1)).any (inT ts) = inT ts l) := by
                  show _ = _
                  rw [any_take hx.out, hp]; simp
                clear hp i1
                go_wp2
                go_loopw [16, 18] (fun p j wr => ∃ m : Nat, m ≤ l.length ∧ p = .bool ((l.take m).all fun x => decide (x ∈ ts)) ∧ j = .int .i64 (m : Int) ∧ w10 = wr) (fun _ j _ => l.length - (intOf j).toNat)
                case atStart => exact ⟨0, by omega, by simp, rfl, rfl⟩
                case round =>
                  obtain ⟨m, hm, rfl, rfl, rfl⟩ := hrel
                  by_cases hlt2 : m < l.length
                  · have hd2 : decide ((m : Int) < (l.length : Int)) = true := by simp; omega
                    obtain ⟨x, hx2⟩ := elem_at hlt2
                    obtain ⟨b2, off2, rfl, g2⟩ := H2.out m x hx2.out
                    have HA2 := Lib.hid (all_take (p := fun x => decide (x ∈ ts)) hx2.out)
                    rcases hq : ((l.take m).all fun x => decide (x ∈ ts)) with _ | _
                    · rw [hq] at HA2
                      clear hq
                      go_wp2
                      go_roundw
                      case rel => exact ⟨m + 1, by omega, by rw [HA2.out]; rfl, by go_num, trivial⟩
                      case measure => simp [intOf]; omega
                    · rw [hq] at HA2
                      clear hq
                      go_wp2_with fail
                      refine (HV.out x).mono ?_
                      rintro e _ ⟨rfl, rfl⟩
                      go_wp2
                      go_roundw
                      case rel => exact ⟨m + 1, by omega, by rw [HA2.out]; simp, by go_num, trivial⟩
                      case measure => simp [intOf]; omega
                  · obtain rfl : m = l.length := by omega
                    have hd2 : decide ((l.length : Int) < (l.length : Int)) = false := by simp
                    go_wp2
                    go_roundw
                    case rel => exact ⟨k + 1, by omega, by rw [HS.out, List.take_length]; rfl, by go_num, trivial⟩
                    case measure => simp [intOf]; omega
              · have hd : decide ((k : Int) < (L.length : Int)) = false := by simp; omega
                have HFL : Hid (full = false) := by
                  show _ = _
                  rw [← HA.out, ← hp, List.take_of_length_le (by omega)]
                clear hp
                rw [HFL.out]
                go_wp2
                go_ret
                exact ⟨rfl, B10.out⟩
            · have HFL : Hid (full = true) := by
                show _ = _
                rw [← HA.out]; exact any_of_take hp
              clear hp
              rw [HFL.out]
              by_cases hlt : k < L.length
              · have hd : decide ((k : Int) < (L.length : Int)) = true := by simp; omega
                go_wp2
                go_ret
                exact ⟨rfl, B10.out⟩
              · have hd : decide ((k : Int) < (L.length : Int)) = false := by simp; omega
                go_wp2
                go_ret
                exact ⟨rfl, B10.out⟩
end Go.Proofs.Ytlipkplomndjcaa
