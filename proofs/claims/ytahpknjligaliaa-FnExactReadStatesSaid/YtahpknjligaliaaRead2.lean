/- The walk of the reference's ReadStates. -/
import Derived.Test.YtahpknjligaliaaRead
namespace Go.Proofs.Ytahpknjligaliaa
open Go.RowKit
set_option linter.unusedVariables false
set_option maxRecDepth 100000
/-- those of the first m states under which a test shows cells -/
def readTo (ds cs : List Int) (m : Nat) : List (Int × Int) := (allSt.take m).filter fun s => fitsB (stD s.1 s.2) (stL s.1 s.2) ds cs
theorem readTo_le (ds cs : List Int) (m : Nat) : (readTo ds cs m).length ≤ 15 :=
  Nat.le_trans (List.length_filter_le _ _) (by rw [List.length_take, allSt_length]; omega)
theorem readTo_succ (ds cs : List Int) {m : Nat} {s : Int × Int} (hs : allSt[m]? = some s) : readTo ds cs (m + 1) = readTo ds cs m ++ if fitsB (stD s.1 s.2) (stL s.1 s.2) ds cs then [s] else [] := by
  unfold readTo
  rw [take_snoc hs, List.filter_append]
  cases hq : (fitsB (stD s.1 s.2) (stL s.1 s.2) ds cs) <;> simp [hq]
theorem readTo_all (ds cs : List Int) : readTo ds cs 15 = readSt ds cs := by
  unfold readTo readSt
  rw [List.take_of_length_le (by rw [allSt_length]; omega)]
theorem sReadStates_c (v1 v2 : Value) (ds cs : List Int) (w : World) (h1 : Ints w v1 ds) (h2 : Ints w v2 cs) : Calls Try.prog 86 #[v1, v2] w (RdPost w ds cs) := by
  have hm1 := h1.le; have hm2 := h2.le
  obtain ⟨a1, c1, rfl, _, _, _⟩ := h1.parts
  obtain ⟨a2, c2, rfl, _, _, H2⟩ := h2.parts
  obtain ⟨i, hi, hz0, hz1, hz2⟩ := info_parts info_State
  have ho0 := World.ownsRow_lit (e := 41) (size := 2) (base := w.heap.size) w #[] 0 (Nat.le_refl _) (by decide) rfl
  have hb0 := below_one (w := w) (.cells #[] 41)
  have h10 := h1.below hb0
  have h20 := h2.below hb0
  rcases ht : testB ds with _ | _
  · have hno : readOk ds cs = false := by simp [readOk, ht]
    have HT := Lib.hid ht; have HN := Lib.hid hno; clear ht hno
    go_enter Try.func86, Try.ntmps86
    go_wp2_with fail
    refine (l7Test_c _ ds _ h10).mono ?_
    rintro e w1 ⟨rfl, hb1⟩
    rw [HT.out]
    go_wp2
    go_ret2
    exact RdPost.no HN.out (own_keep ho0 hb1) (Below.chain hb0 hb1)
  · by_cases hl : cs.length = ds.length
    · have hlb : ((cs.length : Int) != (ds.length : Int)) = false := by simp [hl]
      have HL := Lib.hid hl; clear hl
      have HT := Lib.hid ht; clear ht
      go_enter Try.func86, Try.ntmps86
      go_wp2_with fail
      refine (l7Test_c _ ds _ h10).mono ?_
      rintro e w1 ⟨rfl, hb1⟩
      rw [HT.out]
      have ho1 := own_keep ho0 hb1
      have hb01 := Below.chain hb0 hb1
      clear ho0 hb0 hb1 h10 h20
      go_wp2
      go_loopw [7] (fun i wr => ∃ k : Nat, k ≤ cs.length ∧ i = .int .i64 k ∧ Hid (∀ j x, j < k → cs[j]? = some x → cellB x = true) ∧ w1 = wr) (fun i _ => cs.length - (intOf i).toNat)
      case atStart => exact ⟨0, by omega, rfl, fun j x hj => by omega, by trivial⟩
      case round =>
        obtain ⟨k, hk, rfl, hbef, rfl⟩ := hrel
        by_cases hlt : k < cs.length
        · have hdd : decide ((k : Int) < (cs.length : Int)) = true := by simp; omega
          obtain ⟨x, hx⟩ := elem_at hlt
          obtain ⟨b2, o2, rfl, f2⟩ := H2.out k x hx.out
          have g2 := cell_later hb01 f2
          clear f2
          go_wp2_with fail
          refine (l2Cell_c _ _).mono ?_
          rintro e w' ⟨rfl, rfl⟩
          rcases hpx : cellB x with _ | _
          · have hno : readOk ds cs = false := by
              simp only [readOk, Bool.and_eq_false_iff]; right; right
              rw [List.all_eq_false]; exact ⟨x, List.mem_of_getElem? hx.out, by simp [hpx]⟩
            have HN := Lib.hid hno; have HP := Lib.hid hpx; clear hpx hno
            go_wp2
            go_ret2
            exact RdPost.no HN.out ho1 hb01
          · have HP := Lib.hid hpx; clear hpx
            go_wp2
            go_roundw
            case rel => exact ⟨k + 1, by omega, by go_num, fun j y hj hy => by
              by_cases hj2 : j < k
              · exact hbef.out j y hj2 hy
              · obtain rfl : j = k := by omega
                rw [hx.out] at hy; obtain rfl := Option.some.inj hy; exact HP.out, by trivial⟩
            case measure => simp [intOf]; omega
        · have hall : cs.all cellB = true := by
            rw [List.all_eq_true]; intro x hx
            obtain ⟨j, hj⟩ := List.mem_iff_getElem?.1 hx
            exact hbef.out j x (by have := (List.getElem?_eq_some_iff.1 hj).1; omega) hj
          have hyes : readOk ds cs = true := by simp [readOk, HT.out, hall, HL.out]
          have HN := Lib.hid hyes; clear hyes hall
          have hdd : decide ((k : Int) < (cs.length : Int)) = false := by simp; omega
          go_wp2_with fail
          refine (l7All_c _).mono ?_
          rintro e w2 ⟨u, rfl, hoA, hbA⟩
          obtain ⟨g, cap, hu, hg0, hg1, _, _⟩ := own_form hoA (by rw [allSt_length]; omega)
          have hA : Pairs w2 u allSt := Pairs.of_own hoA
          have ho2 := own_keep ho1 hbA
          have hb02 := Below.chain hb01 hbA
          have hl15 : allSt.length = 15 := allSt_length
          rw [hl15] at hu
          subst hu
          have hgo : ∀ q, (Value.slice (some ⟨w.heap.size, 0, none⟩) 0 0).ownBlock = some q → q < g := by
            intro q hq; have := (ho1.lt q hq).2; omega
          have hgo2 : w.heap.size < g := hgo _ rfl
          have h12 := h1.below hb02
          have h22 := h2.below hb02
          clear hoA hbA ho1 hb01 hg0 hl15 hgo hlt hbef
          go_wp2
          go_loopw [6, 9] (fun o j wr => ∃ k : Nat, k ≤ 15 ∧ j = .int .i64 (k : Int) ∧ wr.ownsRow w.heap.size 41 2 o (readTo ds cs k).length (flat2 (readTo ds cs k)) ∧ Below w.heap.size w wr ∧ Pairs wr (.slice (some ⟨g, 0, none⟩) 15 cap) allSt ∧ o.ownBlock ≠ some g ∧ g < wr.heap.size) (fun _ j _ => 16 - (intOf j).toNat)
          case atStart => exact ⟨0, by omega, rfl, ho2, hb02, hA, by simp [Value.ownBlock]; omega, hg1⟩
          case round =>
            obtain ⟨k2, hk2, rfl, ho, hb, hP, hne, hgl⟩ := hrel
            clear ho2 hb02 hA hg1
            by_cases hlt : k2 < 15
            · have hdk : decide ((k2 : Int) < 15) = true := by simp; omega
              obtain ⟨s, hs⟩ := elem_at (show k2 < allSt.length by rw [allSt_length]; omega)
              have hok := allSt_ok s (List.mem_of_getElem? hs.out)
              obtain ⟨a0, c0, he, _, _, HA⟩ := hP.parts
              obtain ⟨b2, off2, e2, g0, g1⟩ := HA.out _ _ hs.out
              obtain ⟨rfl, rfl⟩ : b2 = g ∧ off2 = 0 := by
                rw [e2] at he; injection he with h1 _ _; injection h1 with h1; injection h1 with h1 h2 _; exact ⟨h1.symm, h2.symm⟩
              clear he HA e2
              simp only [Nat.zero_add] at g0 g1
              obtain ⟨bar, kind⟩ := s
              have bd := stDL_bd hok
              have h13 := h1.below hb
              have h23 := h2.below hb
              have hsc := readTo_succ ds cs hs.out
              have hle := readTo_le ds cs k2
              generalize readTo ds cs k2 = cur at *
              have HS := Lib.hid hsc; clear hsc h12 h22
              go_wp2_with fail
              refine (l7Fault_c bar kind hok _).mono ?_
              rintro e w3 ⟨rfl, hb3⟩
              unfold faultV
              have h14 := h13.below hb3
              have h24 := h23.below hb3
              go_wp2_with fail
              refine (l3Fits_c _ _ _ _ ds cs _ bd.1 bd.2.1 bd.2.2.1 bd.2.2.2 h14 h24 HL.out.symm (testB_digits HT.out)).mono ?_
              rintro e w4 ⟨rfl, hb4⟩
              have hb34 := Below.chain hb3 hb4
              have g02 := cell_later hb34 g0
              have g12 := cell_later hb34 g1
              have hb5 := Below.chain hb hb34
              have ho2 := own_keep ho hb34
              have hP2 := hP.below hb34
              have hgl2 : b2 < w4.heap.size := Nat.lt_of_lt_of_le hgl hb34.size
              clear ho hb hP hgl g0 g1 hb3 hb4 hb34 h13 h23 h14 h24
              rcases hq : fitsB (stD bar kind) (stL bar kind) ds cs with _ | _
              · have hS2 : readTo ds cs (k2 + 1) = cur := by rw [HS.out]; simp [hq]
                have HS2 := Lib.hid hS2; have HQ := Lib.hid hq; clear hS2 HS hq
                go_wp2
                go_roundw
                case rel => exact ⟨k2 + 1, by omega, by go_num, by rw [HS2.out]; exact ho2, hb5, hP2, hne, hgl2⟩
                case measure => simp [intOf]; omega
              · have hS2 : readTo ds cs (k2 + 1) = cur ++ [(bar, kind)] := by rw [HS.out]; simp [hq]
                have HS2 := Lib.hid hS2; have HQ := Lib.hid hq; clear hS2 HS hq
                go_wp2_with (at_builtin; refine wpList_append_own_at _ rfl _ _ 85 rfl w.heap.size 41 i (.agg #[.int .i64 0, .int .i64 0]) 2 16 Try.underlying85 hi hz0 hz1 hz2 rfl (by decide) _ cur.length (flat2 cur) rfl (ho2.alloc _) ⟨w4.heap.size, 0, none⟩ 1 1 [.int .i64 bar, .int .i64 kind] rfl rfl (news_new _ [.int .i64 bar, .int .i64 kind] _) (by simp [Value.oneCell']) (by unfold maxLen; omega) (by omega) (by have := hb5.size; simp; omega) ?_)
                intro v' w5 ho5 hg5 _ hat
                have hb7 : Below w.heap.size w w5 := (Below.alc hb5 _).grown hg5 (by have := hb5.size; simp; omega) (fun g hg => (ho2.lt g hg).1)
                have hP3 : Pairs w5 (.slice (some ⟨b2, 0, none⟩) 15 cap) allSt := (hP2.below (below_one _)).grown hg5 (.inr (by simpa [Value.ownBlock] using (Ne.symm hne)))
                have hne3 : v'.ownBlock ≠ some b2 := by
                  rcases hat with h | h
                  · rw [h]; exact hne
                  · rw [h]; simp; omega
                have hgl3 : b2 < w5.heap.size := Nat.lt_of_lt_of_le (by simp; omega) hg5.size
                clear ho2 hb5 hP2 hne hgl2 hg5 hat g02 g12
                go_wp2
                go_roundw
                case rel => exact ⟨k2 + 1, by omega, by go_num, by rw [HS2.out]; exact ownsRow_cast ho5 (by simp) (flat2_snoc _ _ _).symm, hb7, hP3, hne3, hgl3⟩
                case measure => simp [intOf]; omega
            · obtain rfl : k2 = 15 := by omega
              go_wp2
              go_ret2
              exact RdPost.yes HN.out (by rw [← readTo_all]; exact ho) hb
    · have hno : readOk ds cs = false := by simp [readOk, hl]
      have hlb : ((cs.length : Int) != (ds.length : Int)) = true := by simp; omega
      have HT := Lib.hid ht; have HN := Lib.hid hno; clear ht hno
      go_enter Try.func86, Try.ntmps86
      go_wp2_with fail
      refine (l7Test_c _ ds _ h10).mono ?_
      rintro e w1 ⟨rfl, hb1⟩
      rw [HT.out]
      go_wp2
      go_ret2
      exact RdPost.no HN.out (own_keep ho0 hb1) (Below.chain hb0 hb1)
end Go.Proofs.Ytahpknjligaliaa
