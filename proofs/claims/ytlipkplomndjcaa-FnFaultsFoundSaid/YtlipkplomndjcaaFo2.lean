/- Walk of the checker's FaultsOf. -/
import Derived.Test.YtlipkplomndjcaaFo
namespace Go.Proofs.Ytlipkplomndjcaa
open Go.RowKit
set_option linter.unusedVariables false
set_option maxRecDepth 100000
theorem all_at {α : Type} {p : α → Bool} {xs : List α} {k : Nat} {x : α} (hx : xs[k]? = some x) (h : p x = false) : xs.all p = false := by
  rw [Bool.eq_false_iff]; intro h2
  rw [List.all_eq_true] at h2
  rw [h2 x (List.mem_of_getElem? hx)] at h; cases h
theorem all_to {α : Type} {p : α → Bool} {xs : List α} {k : Nat} (hk : xs.length ≤ k) (h : ∀ j x, j < k → xs[j]? = some x → p x = true) : xs.all p = true := by
  rw [List.all_eq_true]
  intro x hx
  obtain ⟨j, hj, rfl⟩ := List.getElem_of_mem hx
  exact h j _ (by omega) (List.getElem?_eq_getElem hj)
theorem l3Pairs_c (v1 v2 : Value) (ds cs : List Int) (w : World) (h1 : Ints w v1 ds) (h2 : Ints w v2 cs) : Calls Try.prog 92 #[v1, v2] w fun e w' => e = .returned (.bool (foOk ds cs)) ∧ w = w' := by
  have hm1 := h1.le; have hm2 := h2.le
  obtain ⟨a1, c1, rfl, _, _, H1⟩ := h1.parts
  obtain ⟨a2, c2, rfl, _, _, H2⟩ := h2.parts
  by_cases hl : cs.length = ds.length
  · have hlb : ((ds.length : Int) != (cs.length : Int)) = false := by simp [hl]
    rcases e1 : inB (ds.length : Int) 1 10 with _ | _
    · have HF := Lib.hid (show foOk ds cs = false by simp [foOk, e1])
      have HE := Lib.hid e1; clear e1 hl
      go_enter Try.func92, Try.ntmps92
      go_wp2_with fail
      refine (l1In_c _ _ _ _).mono ?_
      rintro e w0 ⟨rfl, rfl⟩
      rw [HE.out]
      go_wp2
      go_ret
      exact ⟨by rw [HF.out]; rfl, rfl⟩
    · have HF : Hid (foOk ds cs = (digitsB ds && cs.all cellB)) := by simp [foOk, e1, hl, Hid]
      have HE := Lib.hid e1; have HL := Lib.hid hl; clear e1 hl
      go_enter Try.func92, Try.ntmps92
      go_wp2_with fail
      refine (l1In_c _ _ _ _).mono ?_
      rintro e w0 ⟨rfl, rfl⟩
      rw [HE.out]
      go_wp2
      go_loopw [5] (fun i wr => ∃ k : Nat, k ≤ ds.length ∧ i = .int .i64 (k : Int) ∧ Hid ((∀ j x, j < k → ds[j]? = some x → digitB x = true) ∧ ∀ j x, j < k → cs[j]? = some x → cellB x = true) ∧ w = wr) (fun i _ => ds.length - (intOf i).toNat)
      case atStart => exact ⟨0, by omega, rfl, ⟨fun j x hj => by omega, fun j x hj => by omega⟩, rfl⟩
      case round =>
        obtain ⟨k, hk, rfl, hbef, rfl⟩ := hrel
        by_cases hlt : k < ds.length
        · have hlt2 : k < cs.length := by rw [HL.out]; exact hlt
          have hdd : decide ((k : Int) < (ds.length : Int)) = true := by simp; omega
          obtain ⟨x, hx⟩ := elem_at hlt
          obtain ⟨y, hy⟩ := elem_at hlt2
          obtain ⟨b1, o1, rfl, g1⟩ := H1.out k x hx.out
          obtain ⟨b2, o2, rfl, g2⟩ := H2.out k y hy.out
          clear h1 h2
          go_wp2_with fail
          refine (l1In_c _ _ _ _).mono ?_
          rintro e w1 ⟨rfl, rfl⟩
          rcases e2 : inB x 0 9 with _ | _
          · have HF2 := Lib.hid (show foOk ds cs = false by rw [HF.out]; unfold digitsB; rw [all_at hx.out (show digitB x = false from e2)]; rfl)
            clear e2
            go_wp2
            go_ret
            exact ⟨by rw [HF2.out]; rfl, rfl⟩
          · have HE2 := Lib.hid e2; clear e2
            go_wp2_with fail
            refine (l2Cell_c _ _).mono ?_
            rintro e w1 ⟨rfl, rfl⟩
            rcases e3 : cellB y with _ | _
            · have HF2 := Lib.hid (show foOk ds cs = false by rw [HF.out, all_at hy.out e3, Bool.and_false])
              clear e3
              go_wp2
              go_ret
              exact ⟨by rw [HF2.out]; rfl, rfl⟩
            · have HB : Hid ((∀ j x, j < k + 1 → ds[j]? = some x → digitB x = true) ∧ ∀ j x, j < k + 1 → cs[j]? = some x → cellB x = true) := by
                refine ⟨fun j z hj hz => ?_, fun j z hj hz => ?_⟩
                · by_cases hj2 : j < k
                  · exact hbef.out.1 j z hj2 hz
                  · obtain rfl : j = k := by omega
                    rw [hx.out] at hz; obtain rfl := Option.some.inj hz; exact HE2.out
                · by_cases hj2 : j < k
                  · exact hbef.out.2 j z hj2 hz
                  · obtain rfl : j = k := by omega
                    rw [hy.out] at hz; obtain rfl := Option.some.inj hz; exact e3
              clear e3
              go_wp2
              go_roundw
              case rel => exact ⟨k + 1, by omega, by go_num, HB, by trivial⟩
              case measure => simp [intOf]; omega
        · obtain rfl : k = ds.length := by omega
          have HF2 := Lib.hid (show foOk ds cs = true by rw [HF.out]; unfold digitsB; rw [all_to (Nat.le_refl _) hbef.out.1, all_to (by rw [HL.out]; exact Nat.le_refl _) hbef.out.2]; rfl)
          go_wp2
          go_ret
          exact ⟨by rw [HF2.out]; rfl, rfl⟩
  · have hlb : ((ds.length : Int) != (cs.length : Int)) = true := by simp; omega
    have HF := Lib.hid (show foOk ds cs = false by simp [foOk, hl])
    go_enter Try.func92, Try.ntmps92
    go_wp2
    go_ret
    exact ⟨by rw [HF.out]; rfl, rfl⟩
theorem sFaultsOf_c (v1 v2 : Value) (ds cs : List Int) (w : World) (h1 : Ints w v1 ds) (h2 : Ints w v2 cs) : Calls Try.prog 11 #[v1, v2] w (FsPost w (foL ds cs) (foOk ds cs)) := by
  obtain ⟨inf, hi, hz0, hz1, hz2⟩ := info_parts info_Fault
  have hb0 := below_one (w := w) (.cells #[] 42)
  have ho0 := World.ownsRow_lit (e := 42) (size := 2) (base := w.heap.size) w #[] 0 (Nat.le_refl _) (by decide) rfl
  have hP := l3Pairs_c v1 v2 ds cs _ (h1.below hb0) (h2.below hb0)
  obtain ⟨a1, c1, rfl, _, _, _⟩ := h1.parts
  obtain ⟨a2, c2, rfl, _, _, _⟩ := h2.parts
  rcases e1 : foOk ds cs with _ | _
  · have HN := Lib.hid (show foL ds cs = [] by simp [foL, e1])
    rw [e1] at hP
    have HP := Lib.hid hP; clear hP
    go_enter Try.func11, Try.ntmps11
    go_wp2_with fail
    refine HP.out.mono ?_
    rintro e w1 ⟨rfl, rfl⟩
    go_wp2
    go_ret2
    exact FsPost.mk' HN.out rfl ho0 hb0
  · have HN := Lib.hid (show foL ds cs = colF (foQ ds cs) 128 by simp [foL, e1, allF])
    have hok := e1
    rw [e1] at hP
    have HP := Lib.hid hP; clear hP
    have hd : digitsB ds = true ∧ ds.length = cs.length := by
      unfold foOk at e1
      simp only [Bool.and_eq_true, decide_eq_true_eq] at e1
      exact ⟨e1.2.2.1, e1.2.1.symm⟩
    have HD := Lib.hid hd
    clear e1 hd
    go_enter Try.func11, Try.ntmps11
    go_wp2_with fail
    refine HP.out.mono ?_
    rintro e w1 ⟨rfl, rfl⟩
    have hO := Lib.hid h1; have hO2 := Lib.hid h2
    clear h1 h2 HP
    go_wp2
    go_loopw [6, 7] (fun o j wr => ∃ d : Nat, d ≤ 128 ∧ j = .int .i64 (d : Int) ∧ wr.ownsRow w.heap.size 42 2 o (colF (foQ ds cs) d).length (flat2 (colF (foQ ds cs) d)) ∧ Below w.heap.size w wr) (fun _ j _ => 129 - (intOf j).toNat)
    case atStart => exact ⟨0, by omega, rfl, ho0, hb0⟩
    case round =>
      obtain ⟨d, hd1, rfl, ho, hb⟩ := hrel
      clear ho0 hb0
      by_cases hlt : d < 128
      · have hdd : decide ((d : Int) < 128) = true := by simp; omega
        rw [← faultsTo_zero] at ho
        go_wp2
        go_loopw [6, 8] (fun o j wr => ∃ n : Nat, n ≤ 128 ∧ j = .int .i64 (n : Int) ∧ wr.ownsRow w.heap.size 42 2 o (faultsTo (foQ ds cs) d n).length (flat2 (faultsTo (foQ ds cs) d n)) ∧ Below w.heap.size w wr) (fun _ j _ => 129 - (intOf j).toNat)
        case atStart => exact ⟨0, by omega, rfl, ho, hb⟩
        case round =>
          obtain ⟨n, hn, rfl, ho2, hb2⟩ := hrel
          clear ho hb
          by_cases hlt2 : n < 128
          · have hdn : decide ((n : Int) < 128) = true := by simp; omega
            have hff := fault_free hlt hlt2
            have hsc := faultsTo_succ (foQ ds cs) d n
            have hle := faultsTo_le (foQ ds cs) (d := d) (n := n) (by omega) (by omega)
            have hp0 : 0 ≤ (d : Int) ∧ (d : Int) ≤ 127 ∧ 0 ≤ (n : Int) ∧ (n : Int) ≤ 127 := by omega
            generalize faultsTo (foQ ds cs) d n = cur at *
            have HS := Lib.hid hsc; have HFF := Lib.hid hff; clear hsc hff
            go_wp2_with fail
            refine (l3Fault_c (d : Int) (n : Int) _).mono ?_
            rintro e w2 ⟨rfl, hb3⟩
            rw [HFF.out]
            have q0 := (box_after hb3).1 0 _ rfl
            have q1 := (box_after hb3).1 1 _ rfl
            have hb4 : Below w.heap.size w w2 := Below.chain (Below.alc hb2 _) hb3
            have ho4 := own_keep (ho2.alloc _) hb3
            clear hb2 hb3 ho2
            rcases hq0 : freeB d n with _ | _
            · have HS2 := Lib.hid (show faultsTo (foQ ds cs) d (n + 1) = cur by rw [HS.out, hq0]; simp)
              have HQ := Lib.hid hq0
              clear HS hq0
              go_wp2
              go_roundw
              case rel => exact ⟨n + 1, by omega, by go_num, by rw [HS2.out]; exact ho4, hb4⟩
              case measure => simp [intOf]; omega
            · have i1 := hO.out.below hb4
              have i2 := hO2.out.below hb4
              have HQ := Lib.hid hq0
              go_wp2_with fail
              refine (l3Fits_c (d : Int) (n : Int) _ _ ds cs _ hp0.1 hp0.2.1 hp0.2.2.1 hp0.2.2.2 i1 i2 HD.out.2 HD.out.1).mono ?_
              rintro e w3 ⟨rfl, hb5⟩
              have r0 := cell_later hb5 q0
              have r1 := cell_later hb5 q1
              have hb6 := Below.chain hb4 hb5
              have ho6 := own_keep ho4 hb5
              clear hb4 hb5 q0 q1 ho4 i1 i2
              rcases hq1 : fitsB (d : Int) (n : Int) ds cs with _ | _
              · have HS2 := Lib.hid (show faultsTo (foQ ds cs) d (n + 1) = cur by rw [HS.out]; unfold foQ; rw [hq1]; simp)
                clear HS hq0
                go_wp2
                go_roundw
                case rel => exact ⟨n + 1, by omega, by go_num, by rw [HS2.out]; exact ho6, hb6⟩
                case measure => simp [intOf]; omega
              · have HS2 := Lib.hid (show faultsTo (foQ ds cs) d (n + 1) = cur ++ [((d : Int), (n : Int))] by rw [HS.out]; unfold foQ; rw [hq1, hq0]; simp)
                clear HS hq0
                go_wp2_with (at_builtin; refine wpList_append_own_at _ rfl _ _ 27 rfl w.heap.size 42 inf (.agg #[.int .i64 0, .int .i64 0]) 2 16 Try.underlying27 hi hz0 hz1 hz2 rfl (by decide) _ cur.length (flat2 cur) rfl (ho6.alloc _) ⟨w3.heap.size, 0, none⟩ 1 1 [.int .i64 d, .int .i64 n] rfl rfl (news_new _ [.int .i64 d, .int .i64 n] _) (by simp [Value.oneCell']) (by unfold maxLen; omega) (by omega) (by have := hb6.size; simp; omega) ?_)
                intro v' w4 ho5 hg5 _ _
                have hb7 : Below w.heap.size w w4 := (Below.alc hb6 _).grown hg5 (by have := hb6.size; simp; omega) (fun g hg => (ho6.lt g hg).1)
                clear ho6 hb6 hg5 r0 r1
                go_wp2
                go_roundw
                case rel => exact ⟨n + 1, by omega, by go_num, by rw [HS2.out]; exact ownsRow_cast ho5 (by simp) (flat2_snoc _ _ _).symm, hb7⟩
                case measure => simp [intOf]; omega
          · obtain rfl : n = 128 := by omega
            rw [faultsTo_full] at ho2
            go_wp2
            go_roundw
            case rel => exact ⟨d + 1, by omega, by go_num, ho2, hb2⟩
            case measure => simp [intOf]; omega
      · obtain rfl : d = 128 := by omega
        go_wp2
        go_ret2
        exact FsPost.mk' HN.out rfl ho hb
end Go.Proofs.Ytlipkplomndjcaa
