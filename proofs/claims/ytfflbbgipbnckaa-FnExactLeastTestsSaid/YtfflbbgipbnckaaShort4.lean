/- The walk of the checker's ShortestTest. -/
import Derived.Test.YtfflbbgipbnckaaShort3
namespace Go.Proofs.Ytfflbbgipbnckaa
open Go.RowKit
set_option linter.unusedVariables false
set_option maxRecDepth 100000
theorem digs_len (S : List Int) (n : Nat) : (digsL S n).length ≤ S.length := by
  unfold digsL pick; rw [List.length_map]; exact prtL_le _ _ _
theorem digs_mem {S : List Int} {n : Nat} {y : Int} (h : y ∈ digsL S n) : y ∈ S := by
  unfold digsL pick at h
  rw [List.mem_map] at h
  obtain ⟨z, hz, rfl⟩ := h
  obtain ⟨p, rfl, hp⟩ := prtL_mem hz
  have : S[p]? = some S[p] := List.getElem?_eq_getElem hp
  simp [List.getD, this]
theorem digs_test {S : List Int} (hl : S.length ≤ 10) (hd : ∀ y ∈ S, digitB y = true) (n : Nat) : testB (digsL S n) = true := by
  unfold testB
  rw [Bool.and_eq_true, decide_eq_true_eq, List.all_eq_true]
  exact ⟨Nat.le_trans (digs_len S n) hl, fun y hy => hd y (digs_mem hy)⟩
theorem pow_le {n : Nat} (h : n ≤ 10) : 2 ^ n ≤ 1024 := Nat.le_trans (Nat.pow_le_pow_right (by decide) h) (by decide)
def Rn (S : List Int) (n : Nat) : Option (List Int) := bestS (partsS S n)
theorem Rn_succ (S : List Int) (n : Nat) : Rn S (n + 1) = stepS (Rn S n) (digsL S n) := by unfold Rn; rw [partsS_succ, bestS_snoc]
theorem Rn_len (S : List Int) (n : Nat) : ((Rn S n).getD []).length ≤ S.length := by
  have h := bestS_is (partsS S n)
  unfold Rn
  cases hr : bestS (partsS S n) with
  | none => simp
  | some m =>
    rw [hr] at h
    have hm := h.1
    have hm : m ∈ (List.range n).map (digsL S) := hm
    rw [List.mem_map] at hm
    obtain ⟨s, _, rfl⟩ := hm
    exact digs_len _ _
set_option maxHeartbeats 8000000 in
theorem sShortestTest_c (v : Value) (xs : List Int) (w : World) (hv : Ints w v xs) :
    Calls Try.prog 12 #[v] w (IntsPost w (shL xs) (shB xs)) := by
  have HV := Lib.hid hv
  rcases hq : testB xs with _ | _
  · have HL := Lib.hid (show shL xs = [] by simp [shL, hq])
    have HB := Lib.hid (show shB xs = false by simp [shB, hq])
    have HQ := Lib.hid hq; clear hq hv
    go_enter Try.func12, Try.ntmps12
    go_wp2_with fail
    refine (l7Test_c v xs _ HV.out).mono ?_
    rintro e w1 ⟨rfl, hb1⟩
    rw [HQ.out]
    have ho0 := World.ownsRow_lit (e := 3) (size := 1) (base := w.heap.size) w1 #[] 0 hb1.size (by decide) rfl
    have hb2 := Below.alc hb1 (.cells #[] 3)
    go_wp2
    go_ret2
    exact IntsPost.mk' HL.out HB.out (by simpa using ho0) hb2
  · have hlen : xs.length ≤ 10 := by unfold testB at hq; simp only [Bool.and_eq_true, decide_eq_true_eq] at hq; exact hq.1
    have hsl := setS_len xs
    have hL10 : (setS xs).length ≤ 10 := by omega
    have hsd : Hid (∀ y ∈ setS xs, digitB y = true) := by
      have := testB_set hq
      unfold testB at this
      simp only [Bool.and_eq_true, List.all_eq_true] at this
      exact this.2
    have hfin : shR xs = Rn (setS xs) (2 ^ (setS xs).length) := (best_same _ (setS_lt xs)).symm
    have HL := Lib.hid (show shL xs = (Rn (setS xs) (2 ^ (setS xs).length)).getD [] by rw [← hfin]; simp [shL, hq])
    have HBB := Lib.hid (show shB xs = (Rn (setS xs) (2 ^ (setS xs).length)).isSome by rw [← hfin]; simp [shB, hq])
    have hp2 := pow_le hL10
    have hwr : IntKind.i64.wrap ((2 : Int) ^ (setS xs).length) = ((2 ^ (setS xs).length : Nat) : Int) := by
      have : ((2 : Int) ^ (setS xs).length) = ((2 ^ (setS xs).length : Nat) : Int) := by simp
      rw [this]; generalize 2 ^ (setS xs).length = N at *; exact IntWalk.i64_in _ (by omega)
    have HQ := Lib.hid hq; clear hq hv hfin hsl
    go_enter Try.func12, Try.ntmps12
    go_wp2_with fail
    refine (l7Test_c v xs _ HV.out).mono ?_
    rintro e w1 ⟨rfl, hb1⟩
    rw [HQ.out]
    have HS := Lib.hid (l7Set_c v xs w1 (HV.out.below hb1) (by omega))
    go_wp2_with fail
    refine HS.out.mono ?_
    rintro e w2 ⟨g, cap, rfl, ho2, hb2⟩
    have hI2 := Ints.of_own ho2
    have hb3 := Lib.hid (Below.chain hb1 hb2)
    have ho0 := World.ownsRow_lit (e := 3) (size := 1) (base := w2.heap.size) w2 #[] 0 (Nat.le_refl _) (by decide) rfl
    have HI2 := Lib.hid hI2
    clear hb1 hb2 ho2 hI2 HS
    generalize setS xs = S at *
    generalize hN : 2 ^ S.length = N at *
    go_wp2
    go_loopw [5, 6, 7] (fun bv fd i wr => ∃ n : Nat, n ≤ N ∧ i = .int .i64 (n : Int) ∧ wr.ownsRow w2.heap.size 3 1 bv ((Rn S n).getD []).length (ints ((Rn S n).getD [])) ∧ fd = .bool (Rn S n).isSome ∧ Below w2.heap.size w2 wr) (fun _ _ i _ => N - (intOf i).toNat)
    case atStart => exact ⟨0, by omega, rfl, by simpa [Rn, partsS, bestS] using ho0, rfl, below_one _⟩
    case round =>
      obtain ⟨n, hn, rfl, ho, rfl, hb⟩ := hrel
      clear ho0
      have HO := Lib.hid ho
      have hml := Rn_len S n
      by_cases hlt : n < N
      · have hd : decide ((n : Int) < (N : Int)) = true := by simp; omega
        have HSt := Lib.hid (Rn_succ S n)
        have HD := Lib.hid (l7Digits_c _ S n wr (HI2.out.below hb) hL10 (by omega))
        have HT := Lib.hid (digs_test hL10 hsd.out n)
        have hpl := digs_len S n
        have HM := Lib.hid (Ints.of_own HO.out)
        obtain ⟨am, cm, rfl, _, _, _⟩ := HM.out.parts
        have stay : Hid (stepS (Rn S n) (digsL S n) = Rn S n → ∀ wz : World, Below wr.heap.size wr wz → wz.ownsRow w2.heap.size 3 1 (.slice am ((Rn S n).getD []).length cm) ((Rn S (n+1)).getD []).length (ints ((Rn S (n+1)).getD [])) ∧ (Rn S n).isSome = (Rn S (n+1)).isSome) := by
          intro he wz hz
          rw [HSt.out, he]
          exact ⟨own_keep HO.out hz, rfl⟩
        have goes : Hid (stepS (Rn S n) (digsL S n) = some (digsL S n) → ∀ (wz : World) (u : Value), wz.ownsRow w2.heap.size 3 1 u (digsL S n).length (ints (digsL S n)) → wz.ownsRow w2.heap.size 3 1 u ((Rn S (n+1)).getD []).length (ints ((Rn S (n+1)).getD [])) ∧ true = (Rn S (n+1)).isSome) := by
          intro he wz u hz
          rw [HSt.out, he]
          exact ⟨hz, rfl⟩
        have hsz := hb.size
        generalize hp : digsL S n = p at *
        clear ho
        go_wp2_with fail
        refine HD.out.mono ?_
        rintro e w3 ⟨u, rfl, ho3, hb3'⟩
        have HF := Lib.hid (l7Full_c u p w3 (Ints.of_own ho3) HT.out)
        have hO3 := Lib.hid ho3
        have HU := Lib.hid (Ints.of_own ho3)
        obtain ⟨au, cu, rfl, _, _, _⟩ := HU.out.parts
        clear ho3
        go_wp2_with fail
        refine HF.out.mono ?_
        rintro e w4 ⟨rfl, hb4⟩
        have hb34 := Below.chain hb3' hb4
        have ho4 := Lib.hid (own_keep hO3.out hb4)
        rcases hf : fullB p with _ | _
        · have he := Lib.hid (show stepS (Rn S n) p = Rn S n by unfold stepS; rw [hf]; rfl)
          have HBB4 := Lib.hid hb34
          have HB0 := Lib.hid hb
          clear hf hb34 hb
          go_wp2
          go_roundw
          case rel =>
            obtain ⟨q1, q2⟩ := stay.out he.out _ HBB4.out
            exact ⟨n + 1, by omega, by go_num, q1, congrArg Value.bool q2, Below.chain HB0.out HBB4.out⟩
          case measure => simp [intOf]; omega
        · have HBB4 := Lib.hid hb34
          have HB0 := Lib.hid hb
          have HMm := Lib.hid (HM.out.below hb34)
          have HUu := Lib.hid (HU.out.below hb4)
          clear hb34 hb hb3' hb4
          cases hr : Rn S n with
          | none =>
            have he := Lib.hid (show stepS (Rn S n) p = some p by rw [hr]; unfold stepS; rw [hf]; rfl)
            have GO := Lib.hid (goes.out he.out _ _ (own_lo ho4.out (by have := HB0.out.size; omega)))
            clear hf
            rw [hr] at *
            go_wp2
            go_roundw
            case rel =>
              obtain ⟨q1, q2⟩ := GO.out
              exact ⟨n + 1, by omega, by go_num, q1, congrArg Value.bool q2, Below.chain HB0.out HBB4.out⟩
            case measure => simp [intOf]; omega
          | some m =>
            have hml2 : m.length ≤ 10 := by rw [hr] at hml; simp at hml; omega
            by_cases h1 : p.length < m.length
            · have d1 : decide ((p.length : Int) < (m.length : Int)) = true := by simp; omega
              have he := Lib.hid (show stepS (Rn S n) p = some p by rw [hr]; unfold stepS; simp [hf, h1])
              have GO := Lib.hid (goes.out he.out _ _ (own_lo ho4.out (by have := HB0.out.size; omega)))
              clear hf
              rw [hr] at *
              go_wp2
              go_roundw
              case rel =>
                obtain ⟨q1, q2⟩ := GO.out
                exact ⟨n + 1, by omega, by go_num, q1, congrArg Value.bool q2, Below.chain HB0.out HBB4.out⟩
              case measure => simp [intOf]; omega
            · have d1 : decide ((p.length : Int) < (m.length : Int)) = false := by simp; omega
              by_cases h2 : p.length = m.length
              · have d2 : decide ((p.length : Int) = (m.length : Int)) = true := by simp; omega
                have HBf := Lib.hid (l7Before_c _ _ p m _ HUu.out (show Ints _ (.slice am m.length cm) m by have := HMm.out; rw [hr] at this; exact this))
                rcases hbf : befL p m with _ | _
                · have he := Lib.hid (show stepS (Rn S n) p = Rn S n by rw [hr]; unfold stepS; simp [hf, h1, hbf])
                  have ST := Lib.hid (stay.out he.out)
                  clear hf h2
                  rw [hr] at *
                  go_wp2_with fail
                  refine HBf.out.mono ?_
                  rintro e w5 ⟨rfl, hb5⟩
                  rw [hbf]
                  have HB5 := Lib.hid (Below.chain HBB4.out hb5)
                  clear hb5
                  go_wp2
                  go_roundw
                  case rel =>
                    obtain ⟨q1, q2⟩ := ST.out _ HB5.out
                    exact ⟨n + 1, by omega, by go_num, q1, congrArg Value.bool q2, Below.chain HB0.out HB5.out⟩
                  case measure => simp [intOf]; omega
                  all_goals exact absurd (of_decide_eq_true d2) (by assumption)
                · have he := Lib.hid (show stepS (Rn S n) p = some p by rw [hr]; unfold stepS; simp [hf, h2, hbf])
                  have GO := Lib.hid (goes.out he.out)
                  clear hf h2
                  rw [hr] at *
                  go_wp2_with fail
                  refine HBf.out.mono ?_
                  rintro e w5 ⟨rfl, hb5⟩
                  rw [hbf]
                  have HB5 := Lib.hid (Below.chain HBB4.out hb5)
                  have HO5 := Lib.hid (own_keep ho4.out hb5)
                  clear hb5
                  go_wp2
                  go_roundw
                  case rel =>
                    obtain ⟨q1, q2⟩ := GO.out _ _ (own_lo HO5.out (by have := HB0.out.size; omega))
                    exact ⟨n + 1, by omega, by go_num, q1, congrArg Value.bool q2, Below.chain HB0.out HB5.out⟩
                  case measure => simp [intOf]; omega
                  all_goals exact absurd (of_decide_eq_true d2) (by assumption)
              · have d2 : decide ((p.length : Int) = (m.length : Int)) = false := by simp; omega
                have he := Lib.hid (show stepS (Rn S n) p = Rn S n by rw [hr]; unfold stepS; simp [hf, h1, h2])
                have ST := Lib.hid (stay.out he.out _ HBB4.out)
                clear hf
                rw [hr] at *
                go_wp2
                go_roundw
                case rel =>
                  obtain ⟨q1, q2⟩ := ST.out
                  exact ⟨n + 1, by omega, by go_num, q1, congrArg Value.bool q2, Below.chain HB0.out HBB4.out⟩
                case measure => simp [intOf]; omega
      · obtain rfl : n = N := by omega
        have HO2 := Lib.hid (own_lo ho hb3.out.size)
        have HBe := Lib.hid (Below.chain hb3.out hb)
        clear ho hb
        go_wp2
        go_ret2
        exact IntsPost.mk' HL.out HBB.out HO2.out HBe.out
end Go.Proofs.Ytfflbbgipbnckaa
