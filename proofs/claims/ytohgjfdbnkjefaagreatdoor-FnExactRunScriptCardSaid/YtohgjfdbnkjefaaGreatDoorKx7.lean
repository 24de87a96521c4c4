/- Texts of this claim, gathered: Mb2, Chg, Mc, Del, DelV, SS, Conf, AllFaults, Harm, DelF, Read, Fo, Fo2, Count, First, Ff, Job1. -/
import Derived.Test.YtohgjfdbnkjefaaGreatDoorKx6
namespace Go.Proofs.YtohgjfdbnkjefaaGreatDoor
open Go.RowKit
set_option linter.unusedVariables false
set_option linter.unusedSimpArgs false
set_option maxRecDepth 100000
def mbS (n : Nat) : Nat := ((List.range n).map litN).sum
theorem mbS_succ (n : Nat) : mbS (n + 1) = mbS n + litN n := by unfold mbS; rw [List.range_succ, List.map_append, List.sum_append]; simp
theorem litN_bd {u : Nat} (h : u < 10000) : litN u ≤ 28 := by
 have h1 := litL_bd (rowL_cells u) (rowL u).length (Nat.le_refl _)
 rw [List.take_length] at h1
 have h2 := (rowL_row h).2
 show litL (rowL u) ≤ 28
 omega
theorem mbS_le : ∀ n, n ≤ 10000 → mbS n ≤ 28 * n
 | 0, _ => by simp [mbS]
 | n + 1, h => by
  rw [mbS_succ]
  have h1 := mbS_le n (by omega)
  have h2 := litN_bd (show n < 10000 by omega)
  omega
def mbV (n : Int) : Value := .tuple #[if inB n 0 9999 then fracV (mbS (n.toNat + 1)) (n.toNat + 1) else .agg #[.int .i64 0, .int .i64 0], .bool (inB n 0 9999)]
set_option maxHeartbeats 2000000 in
theorem MeanBars_c (n : Int) (w : World) (ht : TabM w) : Calls Tryz.prog 150 #[.int .i64 n] w fun e w' => e = .returned (mbV n) ∧ Below w.heap.size w w' := by
 have B0 := Lib.hid (Bk.new w 174 #[.int .i64 0, .int .i64 0])
 have HB0 := Lib.hid (below_one (w := w) (.cells #[.int .i64 0, .int .i64 0] 174))
 rcases hq : inB n 0 9999 with _ | _
 · have HF := Lib.hid (show mbV n = .tuple #[.agg #[.int .i64 0, .int .i64 0], .bool false] by simp [mbV, hq])
   have HQ := Lib.hid hq; clear hq
   go_enter Tryz.func150, Tryz.ntmps150
   go_wp2_with fail
   refine (within_c n 0 9999 _).mono ?_
   rintro e w1 ⟨rfl, rfl⟩
   rw [HQ.out]
   obtain ⟨d0, d1, z0, z1⟩ : (w.alloc (.cells #[.int .i64 0, .int .i64 0] 174)).cell? ⟨w.heap.size, 0, none⟩ = some (.int .i64 0) ∧ (w.alloc (.cells #[.int .i64 0, .int .i64 0] 174)).cell? ⟨w.heap.size, 1, none⟩ = some (.int .i64 0) ∧ (w.alloc (.cells #[.int .i64 0, .int .i64 0] 174)).frozen? ⟨w.heap.size, 0, none⟩ = false ∧ (w.alloc (.cells #[.int .i64 0, .int .i64 0] 174)).frozen? ⟨w.heap.size, 1, none⟩ = false := ⟨B0.out.cell 0, B0.out.cell 1, B0.out.frozen 0, B0.out.frozen 1⟩
   go_wp2
   refine bodyPost_ret (v := mbV n) (by rw [HF.out]; simp [results, Tryz.results150, go_sem, d0, d1]) rfl ⟨rfl, HB0.out⟩
 · obtain ⟨n0, n1⟩ := inB_true hq
   obtain ⟨N, rfl⟩ := Int.eq_ofNat_of_zero_le n0
   have HF : Hid (mbV (N : Int) = .tuple #[fracV (mbS (N + 1)) (N + 1), .bool true]) := by show _ = _; unfold mbV; rw [hq]; simp
   have HQ := Lib.hid hq; clear hq
   have HT := Lib.hid ht
   clear ht
   go_enter Tryz.func150, Tryz.ntmps150
   go_wp2_with fail
   refine (within_c (N : Int) 0 9999 _).mono ?_
   rintro e w1 ⟨rfl, rfl⟩
   rw [HQ.out]
   go_wp2
   go_loopw [4, 14] (fun s j wr => ∃ k : Nat, k ≤ N + 1 ∧ j = .int .i64 (k : Int) ∧ s = .int .i64 ((mbS k : Nat) : Int) ∧ Hid (Bk wr w.heap.size 174 #[.int .i64 0, .int .i64 0]) ∧ Hid (Below w.heap.size w wr)) (fun _ j _ => N + 1 - (intOf j).toNat)
   case atStart => exact ⟨0, by omega, rfl, rfl, B0, HB0⟩
   case round =>
    obtain ⟨k, hk, rfl, rfl, BB, HB⟩ := hrel
    by_cases hlt : k < N + 1
    · have hdd : decide ((k : Int) < (N : Int) + 1) = true := by simp; omega
      have hsk := mbS_le k (by omega)
      have hlk := litN_bd (show k < 10000 by omega)
      have HS := Lib.hid (mbS_succ k)
      have HRW := Lib.hid (rowOf_c k (by omega) wr (HT.out.on HB.out))
      have hrr := (rowL_row (show k < 10000 by omega)).1
      have HLN : Hid (litL (rowL k) = litN k) := rfl
      generalize mbS k = s at *
      generalize rowL k = R at *
      generalize litN k = ln at *
      go_wp2_with fail
      refine HRW.out.mono ?_
      rintro e w2 ⟨v, rfl, ho, hb2⟩
      have HI := Lib.hid (Ints.of_own ho)
      have HB2 := Lib.hid (Below.chain HB.out hb2)
      have BB2 := Lib.hid (BB.out.below hb2)
      clear ho hb2 HRW
      go_wp2_with fail
      refine (LitOf_c v R w2 HI.out hrr).mono ?_
      rintro e w3 ⟨rfl, hb3⟩
      have HB3 := Lib.hid (Below.chain HB2.out hb3)
      have BB3 := Lib.hid (BB2.out.below hb3)
      rw [HLN.out]
      clear hb3
      go_wp2
      go_roundw
      case rel => exact ⟨k + 1, by omega, by go_num, by rw [HS.out]; first | rfl | simp | exact int_val (by rw [IntWalk.i64_in _ (by omega)]; simp), BB3, HB3⟩
      case measure => simp [intOf]; omega
    · obtain rfl : k = N + 1 := by omega
      have hdd : decide (((N + 1 : Nat) : Int) < (N : Int) + 1) = false := by simp
      have hsk := mbS_le (N + 1) (by omega)
      generalize mbS (N + 1) = s at *
      have hfr := fraction_c s (N + 1) (by omega) (by omega) (by omega) wr
      rw [show ((N + 1 : Nat) : Int) = (N : Int) + 1 by omega] at hfr
      have HFR := Lib.hid hfr
      clear hfr
      go_wp2_with fail
      refine HFR.out.mono ?_
      rintro e w2 ⟨rfl, hb5⟩
      have BB2 := BB.out.below hb5
      have hb6 := Below.chain HB.out hb5
      have e0 : w2.cell? ⟨w.heap.size, 0, none⟩ = some (.int .i64 0) := BB2.cell 0
      have e1 : w2.cell? ⟨w.heap.size, 1, none⟩ = some (.int .i64 0) := BB2.cell 1
      have f0 := BB2.frozen 0
      have f1 := BB2.frozen 1
      obtain ⟨u0, u1, hb7⟩ := two_set (.int .i64 (fracN s (N + 1))) (.int .i64 (fracD s (N + 1))) e0 e1 hb6 (Nat.le_refl _)
      clear BB2 hb6 hb5 BB HB
      unfold fracV at HF ⊢
      go_wp2
      clear e0 e1 f0 f1
      generalize (World.setCell (World.setCell w2 _ _) _ _) = w3 at *
      refine bodyPost_ret (v := mbV (N : Int)) (by rw [HF.out]; simp [results, Tryz.results150, go_sem, u0, u1]) rfl ⟨rfl, hb7⟩
set_option maxHeartbeats 2000000 in
theorem sMeanBars_c (n : Int) (w : World) : Calls Tryz.prog 180 #[.int .i64 n] w fun e w' => e = .returned (mbV n) ∧ Below w.heap.size w w' := by
 have B0 := Lib.hid (Bk.new w 174 #[.int .i64 0, .int .i64 0])
 have HB0 := Lib.hid (below_one (w := w) (.cells #[.int .i64 0, .int .i64 0] 174))
 rcases hq : inB n 0 9999 with _ | _
 · have HF := Lib.hid (show mbV n = .tuple #[.agg #[.int .i64 0, .int .i64 0], .bool false] by simp [mbV, hq])
   have HQ := Lib.hid hq; clear hq
   go_enter Tryz.func180, Tryz.ntmps180
   go_wp2_with fail
   refine (l1In_c n 0 9999 _).mono ?_
   rintro e w1 ⟨rfl, rfl⟩
   rw [HQ.out]
   obtain ⟨d0, d1, z0, z1⟩ : (w.alloc (.cells #[.int .i64 0, .int .i64 0] 174)).cell? ⟨w.heap.size, 0, none⟩ = some (.int .i64 0) ∧ (w.alloc (.cells #[.int .i64 0, .int .i64 0] 174)).cell? ⟨w.heap.size, 1, none⟩ = some (.int .i64 0) ∧ (w.alloc (.cells #[.int .i64 0, .int .i64 0] 174)).frozen? ⟨w.heap.size, 0, none⟩ = false ∧ (w.alloc (.cells #[.int .i64 0, .int .i64 0] 174)).frozen? ⟨w.heap.size, 1, none⟩ = false := ⟨B0.out.cell 0, B0.out.cell 1, B0.out.frozen 0, B0.out.frozen 1⟩
   go_wp2
   refine bodyPost_ret (v := mbV n) (by rw [HF.out]; simp [results, Tryz.results180, go_sem, d0, d1]) rfl ⟨rfl, HB0.out⟩
 · obtain ⟨n0, n1⟩ := inB_true hq
   obtain ⟨N, rfl⟩ := Int.eq_ofNat_of_zero_le n0
   have HF : Hid (mbV (N : Int) = .tuple #[fracV (mbS (N + 1)) (N + 1), .bool true]) := by show _ = _; unfold mbV; rw [hq]; simp
   have HQ := Lib.hid hq; clear hq
   go_enter Tryz.func180, Tryz.ntmps180
   go_wp2_with fail
   refine (l1In_c (N : Int) 0 9999 _).mono ?_
   rintro e w1 ⟨rfl, rfl⟩
   rw [HQ.out]
   go_wp2
   go_loopw [4, 5] (fun s j wr => ∃ k : Nat, k ≤ N + 1 ∧ j = .int .i64 (k : Int) ∧ s = .int .i64 ((mbS k : Nat) : Int) ∧ Hid (Bk wr w.heap.size 174 #[.int .i64 0, .int .i64 0]) ∧ Hid (Below w.heap.size w wr)) (fun _ j _ => N + 1 - (intOf j).toNat)
   case atStart => exact ⟨0, by omega, rfl, rfl, B0, HB0⟩
   case round =>
    obtain ⟨k, hk, rfl, rfl, BB, HB⟩ := hrel
    by_cases hlt : k < N + 1
    · have hdd : decide ((k : Int) ≤ (N : Int)) = true := by simp; omega
      have hddn : decide (k ≤ N) = true := by simp; omega
      have hsk := mbS_le k (by omega)
      have hlk := litN_bd (show k < 10000 by omega)
      have HS := Lib.hid (mbS_succ k)
      rename World => wo
      go_wp2
      go_loopw [4, 6] (fun s j wr => ∃ (u t : Nat), u < 10000 ∧ j = .int .i64 (u : Int) ∧ s = .int .i64 ((t : Nat) : Int) ∧ t + litN u = mbS k + litN k ∧ Hid (Bk wr w.heap.size 174 #[.int .i64 0, .int .i64 0]) ∧ Hid (Below w.heap.size w wr)) (fun _ j _ => (intOf j).toNat)
      case atStart => exact ⟨k, mbS k, by omega, rfl, rfl, rfl, BB, HB⟩
      case round =>
       obtain ⟨u, t, hu, rfl, rfl, htu, BBi, HBi⟩ := hrel
       have hum : ((u % 10 : Nat) : Int) = (u : Int) % 10 := by omega
       have hud : ((u / 10 : Nat) : Int) = (u : Int) / 10 := by omega
       have htm : Int.tmod (u : Int) 10 = ((u % 10 : Nat) : Int) := by rw [Int.tmod_eq_emod_of_nonneg (by omega)]; omega
       have htd : Int.tdiv (u : Int) 10 = ((u / 10 : Nat) : Int) := by rw [Int.tdiv_eq_ediv_of_nonneg (by omega)]; omega
       have h10 : u % 10 < 10 := Nat.mod_lt _ (by decide)
       have HD := Lib.hid (fun w => l2Digit_c ((u % 10 : Nat) : Int) (by omega) (by omega) w)
       have hdb := dg_bd ((u % 10 : Nat) : Int)
       obtain ⟨e1, e2⟩ := cnt_cN hdb.1 hdb.2
       have HC := Lib.hid (fun w => l2Count_c (dg ((u % 10 : Nat) : Int)) hdb.1 hdb.2 w)
       rw [e1] at HC
       have hmk := mbS_le k (by omega)
       generalize hdd2 : dg ((u % 10 : Nat) : Int) = dz at *
       have HDZ := Lib.hid hdd2
       have htb : t ≤ 280028 := by omega
       have hw1 : IntKind.i64.wrap ((t : Int) + (cN dz : Int)) = ((t + cN dz : Nat) : Int) := by rw [IntWalk.i64_in _ (by omega)]; simp
       clear e1 hdd2
       go_wp2_with fail
       refine (HD.out _).mono ?_
       rintro e w4 ⟨rfl, hb4⟩
       have HB4 := Lib.hid (Below.chain HBi.out hb4)
       have BB4 := Lib.hid (BBi.out.below hb4)
       clear hb4
       go_wp2_with fail
       refine (HC.out _).mono ?_
       rintro e _ ⟨rfl, rfl⟩
       by_cases hu10 : u < 10
       · have hd10 : decide ((u : Int) < 10) = true := by simp; omega
         have HL := Lib.hid (litN_small hu10)
         have HT2 : Hid (t + cN dz = mbS (k + 1)) := by
          show _ = _
          rw [HS.out, ← htu, HL.out]
          have : dg (u : Int) = dz := by rw [← HDZ.out, Nat.mod_eq_of_lt hu10]
          rw [this]
         generalize cN dz = cz at *
         go_wp2
         go_roundw
         case rel => exact ⟨k + 1, by omega, by go_num, by rw [← HT2.out]; first | rfl | simp, BB4, HB4⟩
         case measure => simp [intOf]; omega
       · have hd10 : decide ((u : Int) < 10) = false := by simp; omega
         have HL := Lib.hid (litN_big hu10)
         have HT2 : t + cN dz + litN (u / 10) = mbS k + litN k := by
          have h1 := HL.out
          rw [HDZ.out] at h1
          omega
         generalize cN dz = cz at *
         go_wp2
         go_roundw
         case rel => exact ⟨u / 10, t + cz, by omega, by first | rfl | simp, by first | rfl | simp, HT2, BB4, HB4⟩
         case measure => simp [intOf]; omega
    · obtain rfl : k = N + 1 := by omega
      have hdd : decide (((N + 1 : Nat) : Int) ≤ (N : Int)) = false := by simp; omega
      have hsk := mbS_le (N + 1) (by omega)
      generalize mbS (N + 1) = s at *
      have hfr := l9Cut_c s (N + 1) (by omega) (by omega) (by omega) wr
      rw [show ((N + 1 : Nat) : Int) = (N : Int) + 1 by omega] at hfr
      have HFR := Lib.hid hfr
      clear hfr
      go_wp2_with fail
      refine HFR.out.mono ?_
      rintro e w2 ⟨rfl, hb5⟩
      have BB2 := BB.out.below hb5
      have hb6 := Below.chain HB.out hb5
      have e0 : w2.cell? ⟨w.heap.size, 0, none⟩ = some (.int .i64 0) := BB2.cell 0
      have e1 : w2.cell? ⟨w.heap.size, 1, none⟩ = some (.int .i64 0) := BB2.cell 1
      have f0 := BB2.frozen 0
      have f1 := BB2.frozen 1
      obtain ⟨u0, u1, hb7⟩ := two_set (.int .i64 (fracN s (N + 1))) (.int .i64 (fracD s (N + 1))) e0 e1 hb6 (Nat.le_refl _)
      clear BB2 hb6 hb5 BB HB
      unfold fracV at HF ⊢
      go_wp2
      clear e0 e1 f0 f1
      generalize (World.setCell (World.setCell w2 _ _) _ _) = w3 at *
      refine bodyPost_ret (v := mbV (N : Int)) (by rw [HF.out]; simp [results, Tryz.results180, go_sem, u0, u1]) rfl ⟨rfl, hb7⟩
def DInv {α : Type} (p : α → Bool) (es : List α) (j i : Nat) (R : List α) : Prop :=
 ∃ J, R = (es.take j).filter (fun x => !p x) ++ (J ++ es.drop j) ∧ ((es.take j).filter fun x => !p x).length = i ∧ i + J.length = j ∧ i < j ∧ j ≤ es.length
theorem DInv.len {α : Type} {p : α → Bool} {es R : List α} {i j : Nat} (h : DInv p es j i R) : R.length = es.length := by
 obtain ⟨J, rfl, h1, h2, h3, h4⟩ := h
 simp only [List.length_append, List.length_drop]; omega
theorem DInv.keep {α : Type} {p : α → Bool} {es R : List α} {i j : Nat} {x : α} (h : DInv p es j i R) (hx : es[j]? = some x) (hp : p x = false) : DInv p es (j + 1) (i + 1) (R.set i x) := by
 obtain ⟨J, rfl, h1, h2, h3, h4⟩ := h
 have hj : j < es.length := (List.getElem?_eq_some_iff.1 hx).1
 have e : es[j] = x := by rw [List.getElem?_eq_getElem hj] at hx; exact Option.some.inj hx
 have hf : (es.take (j + 1)).filter (fun x => !p x) = (es.take j).filter (fun x => !p x) ++ [x] := by
  rw [List.take_succ_eq_append_getElem hj, List.filter_append]; simp [e, hp]
 cases J with
 | nil => simp at h2; omega
 | cons y J' =>
  refine ⟨J' ++ [x], ?_, by rw [hf, List.length_append, h1]; rfl, by simp at h2 ⊢; omega, by omega, hj⟩
  rw [hf, List.drop_eq_getElem_cons hj, e, List.cons_append, set_mid _ _ _ _ h1.symm]
  simp
theorem DInv.done {α : Type} {p : α → Bool} {es R : List α} {i : Nat} (h : DInv p es es.length i R) : R.take i = es.filter (fun x => !p x) ∧ i = (es.filter fun x => !p x).length := by
 obtain ⟨J, rfl, h1, h2, h3, h4⟩ := h
 rw [List.take_length] at h1 ⊢
 exact ⟨by rw [List.take_left' h1], h1.symm⟩
theorem Sl.partsV {w : World} {v : Value} {xs : List Value} (h : Sl w 1 v xs.length xs) : ∃ a c, v = .slice a xs.length c ∧ xs.length ≤ c ∧ c ≤ 9223372036854775807 ∧
 Hid (∀ k x, xs[k]? = some x → ∃ b off, a = some ⟨b, off, none⟩ ∧ w.cell? ⟨b, off + k, none⟩ = some x) := by
 obtain ⟨a, c, rfl, h1, h2, h3, h4⟩ := h
 refine ⟨a, c, rfl, h1, by unfold maxLen at h2; omega, fun k x hk => ?_⟩
 have hlt : k < xs.length := (List.getElem?_eq_some_iff.1 hk).1
 obtain ⟨b, off, rfl, hc⟩ := h4 (by omega)
 exact ⟨b, off, rfl, by rw [hc k (by omega), hk]⟩
theorem Sl.keepB {w w' : World} {size n B : Nat} {v : Value} {xs : List Value} (h : Sl w size v n xs) (hb : Below B w w') (hv : ∀ g, v.ownBlock = some g → g < B) : Sl w' size v n xs := by
 obtain ⟨a, c, rfl, h1, h2, h3, h4⟩ := h
 refine ⟨a, c, rfl, h1, h2, h3, fun hn => ?_⟩
 obtain ⟨b, off, rfl, hc⟩ := h4 hn
 refine ⟨b, off, rfl, fun j hj => ?_⟩
 have hlt := hv b rfl
 rw [← hc j hj]
 exact hb.cell (p := ⟨b, off + j, none⟩) hlt
def RdSS (w : World) (B : Nat) (u : Value) (xss : List (List Int)) : Prop :=
 ∃ vs, vs.length = xss.length ∧ Sl w 1 u vs.length vs ∧ (∀ g, u.ownBlock = some g → g < B) ∧
  ∀ (k : Nat) (v : Value) (xs : List Int), vs[k]? = some v → xss[k]? = some xs → Ints w v xs ∧ ∀ g, v.ownBlock = some g → g < B
theorem RdSS.keep {w w' : World} {B B' : Nat} {u : Value} {xss : List (List Int)} (h : RdSS w B u xss) (hb : Below B' w w') (hB : B ≤ B') : RdSS w' B u xss := by
 obtain ⟨vs, h1, h2, h3, h4⟩ := h
 exact ⟨vs, h1, h2.keepB hb (fun g hg => Nat.lt_of_lt_of_le (h3 g hg) hB), h3, fun k v xs hv hx => ⟨Sl.keepB (h4 k v xs hv hx).1 hb (fun g hg => Nat.lt_of_lt_of_le ((h4 k v xs hv hx).2 g hg) hB), (h4 k v xs hv hx).2⟩⟩
theorem OwnSS.rd {w : World} {lo : Nat} {u : Value} {xss : List (List Int)} (h : OwnSS w lo u xss) : RdSS w w.heap.size u xss := by
 obtain ⟨vs, ho, hi⟩ := h
 exact ⟨vs, hi.1, Sl.of_own (ownsRow_cast ho hi.1.symm rfl), fun g hg => (ho.lt g hg).2, fun k v xs hv hx => ⟨Ints.of_own (hi.2.1 k v xs hv hx), fun g hg => ((hi.2.1 k v xs hv hx).lt g hg).2⟩⟩
theorem RdSS.parts {w : World} {B : Nat} {u : Value} {xss : List (List Int)} (h : RdSS w B u xss) : ∃ a c, u = .slice a xss.length c ∧ xss.length ≤ 9223372036854775807 ∧
 Hid (∀ k xs, xss[k]? = some xs → ∃ b off a' c', a = some ⟨b, off, none⟩ ∧ w.cell? ⟨b, off + k, none⟩ = some (.slice a' xs.length c') ∧ Ints w (.slice a' xs.length c') xs) := by
 obtain ⟨vs, h1, h2, h3, h4⟩ := h
 have hle := h2.le
 obtain ⟨a, c, rfl, _, _, HC⟩ := h2.partsV
 refine ⟨a, c, by rw [h1], by omega, fun k xs hk => ?_⟩
 have hlt : k < vs.length := by rw [h1]; exact (List.getElem?_eq_some_iff.1 hk).1
 have hv : vs[k]? = some vs[k] := List.getElem?_eq_getElem hlt
 obtain ⟨b, off, e, hc⟩ := HC.out k _ hv
 have hI := (h4 k _ xs hv hk).1
 obtain ⟨a', c', e2, _⟩ := hI.parts
 exact ⟨b, off, a', c', e, by rw [hc, e2], by rw [← e2]; exact hI⟩
/-! marks -/
theorem Inn.set {w w' : World} {lo : Nat} {vs : List Value} {xss : List (List Int)} {i : Nat} {v : Value} {ys : List Int} (h : Inn w lo vs xss) (hv : vs[i]? = some v) (hi : i < xss.length)
 (ho : w'.ownsRow lo 3 1 v ys.length (ints ys)) (hg : w.grownBy w' v.ownBlock) : Inn w' lo vs (xss.set i ys) := by
 refine ⟨by rw [List.length_set]; exact h.1, fun k a xs ha hx => ?_, h.2.2⟩
 by_cases hk : k = i
 · subst hk
   rw [List.getElem?_set_self hi] at hx
   rw [hv] at ha
   obtain rfl := Option.some.inj ha
   obtain rfl := Option.some.inj hx
   exact ho
 · rw [List.getElem?_set_ne (by omega)] at hx
   have h1 := h.2.1 k a xs ha hx
   refine h1.kept hg ?_
   by_cases hlt : k < i
   · rcases h.2.2 k i a v hlt ha hv with h2 | h2
     · rw [h2]; cases a.ownBlock <;> simp
     · exact .inr (fun e => h2 e.symm)
   · rcases h.2.2 i k v a (by omega) hv ha with h2 | h2
     · exact .inl h2
     · exact .inr h2
theorem Inn.tail {w : World} {lo : Nat} {v : Value} {vs : List Value} {xs : List Int} {xss : List (List Int)} (h : Inn w lo (v :: vs) (xs :: xss)) : Inn w lo vs xss :=
 ⟨by have := h.1; simpa using this, fun k a ys ha hy => h.2.1 (k + 1) a ys (by simpa using ha) (by simpa using hy), fun i j a b hij ha hb => h.2.2 (i + 1) (j + 1) a b (by omega) (by simpa using ha) (by simpa using hb)⟩
theorem Inn.head {w : World} {lo : Nat} {v : Value} {vs : List Value} {xs : List Int} {xss : List (List Int)} (h : Inn w lo (v :: vs) (xs :: xss)) : w.ownsRow lo 3 1 v xs.length (ints xs) ∧ ∀ b ∈ vs, b.ownBlock = none ∨ b.ownBlock ≠ v.ownBlock :=
 ⟨h.2.1 0 v xs rfl rfl, fun b hb => by obtain ⟨j, hj, rfl⟩ := List.getElem_of_mem hb; exact h.2.2 0 (j + 1) v vs[j] (by omega) rfl (by simp [hj])⟩
theorem Inn.cons {w : World} {lo : Nat} {v : Value} {vs : List Value} {xs : List Int} {xss : List (List Int)} (h : Inn w lo vs xss) (ho : w.ownsRow lo 3 1 v xs.length (ints xs)) (hd : ∀ b ∈ vs, b.ownBlock = none ∨ b.ownBlock ≠ v.ownBlock) : Inn w lo (v :: vs) (xs :: xss) := by
 refine ⟨by simp [h.1], fun k a ys ha hy => ?_, fun i j a b hij ha hb => ?_⟩
 · cases k with
   | zero => simp at ha hy; subst ha hy; exact ho
   | succ k => exact h.2.1 k a ys (by simpa using ha) (by simpa using hy)
 · cases i with
   | zero =>
    cases j with
    | zero => omega
    | succ j => simp at ha hb; subst ha; exact hd b (List.mem_of_getElem? hb)
   | succ i =>
    cases j with
    | zero => omega
    | succ j => exact h.2.2 i j a b (by omega) (by simpa using ha) (by simpa using hb)
theorem Inn.filter {w : World} {lo : Nat} {q : Value → Bool} {q' : List Int → Bool} : ∀ {vs : List Value} {xss : List (List Int)}, Inn w lo vs xss → (∀ (k : Nat) v xs, vs[k]? = some v → xss[k]? = some xs → q v = q' xs) → Inn w lo (vs.filter q) (xss.filter q')
 | [], [], h, _ => Inn.nil_ _ _
 | [], _ :: _, h, _ => by have := h.1; simp at this
 | _ :: _, [], h, _ => by have := h.1; simp at this
 | v :: vs, xs :: xss, h, hq => by
  have ih := Inn.filter h.tail (fun k a b ha hb => hq (k + 1) a b (by simpa using ha) (by simpa using hb))
  have h0 := hq 0 v xs rfl rfl
  cases hv : q v
  · rw [hv] at h0
    rw [List.filter_cons_of_neg (by simp [hv]), List.filter_cons_of_neg (by simp [← h0])]
    exact ih
  · rw [hv] at h0
    rw [List.filter_cons_of_pos hv, List.filter_cons_of_pos h0.symm]
    exact ih.cons h.head.1 (fun b hb => h.head.2 b (List.mem_filter.1 hb).1)
def SSPost (w : World) (L : List (List Int)) (b : Bool) (e : Ending) (w' : World) : Prop :=
 ∃ u, e = .returned (.tuple #[u, .bool b]) ∧ OwnSS w' w.heap.size u L ∧ Below w.heap.size w w'
theorem SSPost.mk' {w w' : World} {L L' : List (List Int)} {b b' : Bool} {u : Value} (hL : L = L') (hbb : b = b') (ho : OwnSS w' w.heap.size u L') (hb : Below w.heap.size w w') : SSPost w L b (.returned (.tuple #[u, .bool b'])) w' := by
 subst hL hbb; exact ⟨u, rfl, ho, hb⟩
theorem OwnSS.nil_ (w : World) (lo : Nat) : OwnSS w lo (.slice none 0 0) [] := ⟨[], World.ownsRow_nil _ _ _ _, Inn.nil_ _ _⟩
theorem Inn.lo' {w : World} {lo lo' : Nat} {vs : List Value} {xss : List (List Int)} (h : Inn w lo vs xss) (hl : lo' ≤ lo) : Inn w lo' vs xss := ⟨h.1, fun k v xs h1 h2 => own_lo (h.2.1 k v xs h1 h2) hl, h.2.2⟩
theorem Inn.slices {w : World} {lo : Nat} {vs : List Value} {xss : List (List Int)} (h : Inn w lo vs xss) : ∀ x ∈ vs, ∃ a n c, x = Value.slice a n c := by
 intro x hx
 obtain ⟨k, hk, rfl⟩ := List.getElem_of_mem hx
 obtain ⟨a, c, e, _⟩ := (Sl.of_own (h.2.1 k vs[k] (xss[k]'(by rw [← h.1]; exact hk)) (List.getElem?_eq_getElem hk) (List.getElem?_eq_getElem (by rw [← h.1]; exact hk)))).slice
 exact ⟨a, _, c, e⟩
def fitsTo (d l : Int) (ds cs : List Int) (k : Nat) : Bool := ((ds.zip cs).take k).all fun p => shC d l (dg p.1) == p.2
def fitsB (d l : Int) (ds cs : List Int) : Bool := fitsTo d l ds cs ds.length
def readSt (ds cs : List Int) : List (Int × Int) := allSt.filter fun s => fitsB (stD s.1 s.2) (stL s.1 s.2) ds cs
def readOk (ds cs : List Int) : Bool := testB ds && (decide (cs.length = ds.length) && cs.all cellB)
def readL (ds cs : List Int) : List (Int × Int) := if readOk ds cs then readSt ds cs else []
def RdPost (w : World) (ds cs : List Int) (e : Ending) (w' : World) : Prop :=
 ∃ u, e = .returned (.tuple #[u, .bool (readOk ds cs)]) ∧ w'.ownsRow w.heap.size 261 2 u (readL ds cs).length (flat2 (readL ds cs)) ∧ Below w.heap.size w w'
theorem RdPost.no {w w' : World} {ds cs : List Int} {u : Value} (ht : readOk ds cs = false) (ho : w'.ownsRow w.heap.size 261 2 u 0 []) (hb : Below w.heap.size w w') : RdPost w ds cs (.returned (.tuple #[u, .bool false])) w' := by
 refine ⟨u, by rw [ht], ?_, hb⟩
 simpa [readL, ht, flat2_nil] using ho
theorem RdPost.yes {w w' : World} {ds cs : List Int} {u : Value} (ht : readOk ds cs = true) (ho : w'.ownsRow w.heap.size 261 2 u (readSt ds cs).length (flat2 (readSt ds cs))) (hb : Below w.heap.size w w') : RdPost w ds cs (.returned (.tuple #[u, .bool true])) w' := by
 refine ⟨u, by rw [ht], ?_, hb⟩
 simpa [readL, ht] using ho
def FsPost (w : World) (L : List (Int × Int)) (b : Bool) (e : Ending) (w' : World) : Prop :=
 ∃ u, e = .returned (.tuple #[u, .bool b]) ∧ w'.ownsRow w.heap.size 46 2 u L.length (flat2 L) ∧ Below w.heap.size w w'
theorem FsPost.mk' {w w' : World} {L L' : List (Int × Int)} {b b' : Bool} {u : Value} (hL : L = L') (hbb : b = b') (ho : w'.ownsRow w.heap.size 46 2 u L'.length (flat2 L')) (hb : Below w.heap.size w w') : FsPost w L b (.returned (.tuple #[u, .bool b'])) w' := by
 subst hL hbb; exact ⟨u, rfl, ho, hb⟩
def nDig (f : Int × Int) (c : Int) : Nat := (digL f.1 f.2 c).length
theorem nDig_le (f : Int × Int) (c : Int) : nDig f c ≤ 10 := digL_le _ _ _
def prodTo (fs : List (Int × Int)) (r : List Int) (k : Nat) : Nat := ((fs.zip r).take k).foldl (fun m p => m * nDig p.1 p.2) 1
theorem prodTo_zero (fs : List (Int × Int)) (r : List Int) : prodTo fs r 0 = 1 := rfl
theorem prodTo_succ {fs : List (Int × Int)} {r : List Int} {k : Nat} {f : Int × Int} {c : Int} (hf : fs[k]? = some f) (hc : r[k]? = some c) : prodTo fs r (k + 1) = prodTo fs r k * nDig f c := by
 have h : (fs.zip r)[k]? = some (f, c) := by rw [List.getElem?_zip_eq_some]; exact ⟨hf, hc⟩
 unfold prodTo
 rw [take_snoc h, List.foldl_append]; rfl
theorem prodTo_le (fs : List (Int × Int)) (r : List Int) (k : Nat) : prodTo fs r k ≤ 10 ^ k := by
 induction k with
 | zero => simp [prodTo_zero]
 | succ k ih =>
  cases h : (fs.zip r)[k]? with
  | none =>
   have : prodTo fs r (k + 1) = prodTo fs r k := by
    unfold prodTo
    have hl := List.getElem?_eq_none_iff.1 h
    rw [List.take_of_length_le (by omega), List.take_of_length_le hl]
   rw [this]; exact Nat.le_trans ih (Nat.pow_le_pow_right (by omega) (by omega))
  | some p =>
   obtain ⟨f, c⟩ := p
   rw [List.getElem?_zip_eq_some] at h
   rw [prodTo_succ h.1 h.2, Nat.pow_succ]
   exact Nat.mul_le_mul ih (nDig_le _ _)
def cnOk (fs : List (Int × Int)) (r : List Int) : Bool := areB fs r && !decide (r.length = 0)
def cnN (fs : List (Int × Int)) (r : List Int) : Int := if cnOk fs r then (prodTo fs r r.length : Int) else 0
def cnV (fs : List (Int × Int)) (r : List Int) : Value := .tuple #[.int .i64 (cnN fs r), .bool (cnOk fs r)]
theorem wrap_mul {a b : Nat} (ha : a ≤ 100000) (hb : b ≤ 10) : wrap64 ((a : Int) * (b : Int)) = ((a * b : Nat) : Int) ∧ IntKind.i64.wrap ((a : Int) * (b : Int)) = ((a * b : Nat) : Int) := by
 have h : a * b ≤ 100000 * 10 := Nat.mul_le_mul ha hb
 have e : (a : Int) * (b : Int) = ((a * b : Nat) : Int) := by simp
 rw [e]
 exact ⟨by simp only [wrap64]; omega, wrap_i64_small _ (by omega)⟩
theorem pow_le_five {k : Nat} (hk : k ≤ 5) : 10 ^ k ≤ 100000 := Nat.le_trans (Nat.pow_le_pow_right (by omega) hk) (by decide)
theorem CountNumbers_c (v1 v2 : Value) (fs : List (Int × Int)) (r : List Int) (w : World) (h1 : Pairs w v1 fs) (h2 : Ints w v2 r) :
 Calls Tryz.prog 249 #[v1, v2] w fun e w' => e = .returned (cnV fs r) ∧ Below w.heap.size w w' := by
 obtain ⟨a1, c1, rfl, _, _, H1⟩ := h1.parts
 obtain ⟨a2, c2, rfl, _, _, H2⟩ := h2.parts
 rcases ha : areB fs r with _ | _
 · have HF0 : cnV fs r = .tuple #[.int .i64 0, .bool false] := by simp [cnV, cnN, cnOk, ha]
   have HF := Lib.hid HF0; clear HF0; have HA := Lib.hid ha; clear ha
   go_enter Tryz.func249, Tryz.ntmps249
   go_wp2_with fail
   refine (areFaults_c _ _ fs r _ h1 h2).mono ?_
   rintro e w1 ⟨rfl, hb1⟩
   rw [HA.out]
   go_wp2
   go_ret2
   exact ⟨by rw [HF.out]; rfl, hb1⟩
 · have hr6 := rowB_le (areB_row ha)
   by_cases hz : r.length = 0
   · have HF0 : cnV fs r = .tuple #[.int .i64 0, .bool false] := by simp [cnV, cnN, cnOk, hz]
     have hzb : ((r.length : Int) == 0) = true := by simp [hz]
     have HF := Lib.hid HF0; have HZ := Lib.hid hz; clear HF0 hz; have HA := Lib.hid ha; clear ha
     go_enter Tryz.func249, Tryz.ntmps249
     go_wp2_with fail
     refine (areFaults_c _ _ fs r _ h1 h2).mono ?_
     rintro e w1 ⟨rfl, hb1⟩
     rw [HA.out]
     go_wp2
     go_ret2
     exact ⟨by rw [HF.out]; rfl, hb1⟩
   · have HF0 : cnV fs r = .tuple #[.int .i64 (prodTo fs r r.length : Int), .bool true] := by simp [cnV, cnN, cnOk, hz, ha]
     have hzb : ((r.length : Int) == 0) = false := by simp [hz]
     have HF := Lib.hid HF0; have HZ := Lib.hid hz; clear HF0 hz; have HA := Lib.hid ha; clear ha
     go_enter Tryz.func249, Tryz.ntmps249
     go_wp2_with fail
     refine (areFaults_c _ _ fs r _ h1 h2).mono ?_
     rintro e w1 ⟨rfl, hb1⟩
     rw [HA.out]
     clear h1 h2
     go_wp2
     go_loopw [6, 7, 8, 20] (fun m _ _ j wr => ∃ k : Nat, k ≤ r.length ∧ j = .int .i64 (k : Int) ∧ m = .int .i64 (prodTo fs r k : Int) ∧ Below w.heap.size w wr) (fun _ _ _ j _ => r.length - (intOf j).toNat)
     case atStart => exact ⟨0, by omega, rfl, rfl, hb1⟩
     case round =>
      obtain ⟨k, hk, rfl, rfl, hb⟩ := hrel
      clear hb1
      by_cases hlt : k < r.length
      · have hd : decide ((k : Int) < (r.length : Int)) = true := by simp; omega
        have hlf : k < fs.length := by rw [areB_len HA.out]; exact hlt
        obtain ⟨f, hf⟩ := elem_at hlf
        obtain ⟨c, hc⟩ := elem_at hlt
        obtain ⟨b1, o1, rfl, f0, f1⟩ := H1.out k _ hf.out
        obtain ⟨b2, o2, rfl, f2⟩ := H2.out k _ hc.out
        have g0 := cell_later hb f0
        have g1 := cell_later hb f1
        have g2 := cell_later hb f2
        have bd := areB_fault HA.out hf.out
        have hS := prodTo_succ hf.out hc.out
        have hle := Nat.le_trans (prodTo_le fs r k) (pow_le_five (by omega))
        have hnd := nDig_le f c
        have hwm := wrap_mul hle hnd
        have hw1 := hwm.1
        generalize prodTo fs r k = P at *
        have HS := Lib.hid hS; clear hS f0 f1 f2 hwm
        go_wp2_with fail
        refine (digits_c f.1 f.2 c _ bd.1 bd.2.1 bd.2.2.1 bd.2.2.2).mono ?_
        rintro e w2 ⟨u, rfl, ho, hb2⟩
        obtain ⟨a3, c3, rfl, _⟩ := (Sl.of_own ho).slice
        have hb3 := Below.chain hb hb2
        rw [show (digL f.1 f.2 c).length = nDig f c from rfl] at *
        clear ho hb hb2 g0 g1 g2
        go_wp2
        go_roundw
        case rel => exact ⟨k + 1, by omega, by go_num, by rw [HS.out]; exact int_val (by first | exact hw1 | simp), hb3⟩
        case measure => simp [intOf]; omega
      · obtain rfl : k = r.length := by omega
        go_wp2
        go_ret2
        exact ⟨by rw [HF.out]; rfl, hb⟩
def headDig (f : Int × Int) (c : Int) : Int := (digL f.1 f.2 c).headD 0
def firstTo (fs : List (Int × Int)) (r : List Int) (k : Nat) : List Int := ((fs.zip r).take k).map fun p => headDig p.1 p.2
theorem firstTo_le (fs : List (Int × Int)) (r : List Int) (k : Nat) : (firstTo fs r k).length ≤ k := by simp [firstTo, List.length_take]; omega
theorem firstTo_succ {fs : List (Int × Int)} {r : List Int} {k : Nat} {f : Int × Int} {c : Int} (hf : fs[k]? = some f) (hc : r[k]? = some c) : firstTo fs r (k + 1) = firstTo fs r k ++ [headDig f c] := by
 have h : (fs.zip r)[k]? = some (f, c) := by rw [List.getElem?_zip_eq_some]; exact ⟨hf, hc⟩
 unfold firstTo
 rw [take_snoc h]; simp
theorem head_at {f : Int × Int} {c : Int} (h : nDig f c ≠ 0) : (digL f.1 f.2 c)[0]? = some (headDig f c) := by
 unfold nDig at h
 unfold headDig
 cases hd : digL f.1 f.2 c with
 | nil => rw [hd] at h; simp at h
 | cons a l => simp
theorem prodTo_zero_of {fs : List (Int × Int)} {r : List Int} {k n : Nat} {f : Int × Int} {c : Int} (hf : fs[k]? = some f) (hc : r[k]? = some c) (h0 : nDig f c = 0) (hn : k < n) : prodTo fs r n = 0 := by
 have h1 : prodTo fs r (k + 1) = 0 := by rw [prodTo_succ hf hc, h0, Nat.mul_zero]
 have : ∀ m, prodTo fs r (k + 1 + m) = 0 := by
  intro m
  induction m with
  | zero => exact h1
  | succ m ih =>
   cases h : (fs.zip r)[k + 1 + m]? with
   | none =>
    have e : prodTo fs r (k + 1 + (m + 1)) = prodTo fs r (k + 1 + m) := by
     unfold prodTo
     have hl := List.getElem?_eq_none_iff.1 h
     rw [List.take_of_length_le (by omega), List.take_of_length_le hl]
    rw [e]; exact ih
   | some p =>
    obtain ⟨f', c'⟩ := p
    rw [List.getElem?_zip_eq_some] at h
    rw [show k + 1 + (m + 1) = (k + 1 + m) + 1 by omega, prodTo_succ h.1 h.2, ih, Nat.zero_mul]
 have e := this (n - (k + 1))
 rw [show k + 1 + (n - (k + 1)) = n by omega] at e
 exact e
def fnOk (fs : List (Int × Int)) (r : List Int) : Bool := cnOk fs r && !decide (prodTo fs r r.length = 0)
def fnL (fs : List (Int × Int)) (r : List Int) : List Int := if fnOk fs r then firstTo fs r r.length else []
theorem fnOk_len {fs : List (Int × Int)} {r : List Int} (h : cnOk fs r = true) : r.length ≤ 6 := by
 simp only [cnOk, Bool.and_eq_true] at h; exact rowB_le (areB_row h.1)
theorem cnOk_are {fs : List (Int × Int)} {r : List Int} (h : cnOk fs r = true) : areB fs r = true := by
 simp only [cnOk, Bool.and_eq_true] at h; exact h.1
theorem fnL_le (fs : List (Int × Int)) (r : List Int) : (fnL fs r).length ≤ 6 := by
 unfold fnL; split
 · rename_i h; simp only [fnOk, Bool.and_eq_true] at h; exact Nat.le_trans (firstTo_le _ _ _) (fnOk_len h.1)
 · simp
theorem FirstNumber_c (v1 v2 : Value) (fs : List (Int × Int)) (r : List Int) (w : World) (h1 : Pairs w v1 fs) (h2 : Ints w v2 r) :
 Calls Tryz.prog 193 #[v1, v2] w (IntsPost w (fnL fs r) (fnOk fs r)) := by
 obtain ⟨a1, c1, rfl, _, _, H1⟩ := h1.parts
 obtain ⟨a2, c2, rfl, _, _, H2⟩ := h2.parts
 obtain ⟨i, hi, hz0, hz1, hz2⟩ := info_parts info_int
 rcases ha : cnOk fs r with _ | _
 · have hok : fnOk fs r = false := by simp [fnOk, ha]
   have HL := Lib.hid (show fnL fs r = [] by simp [fnL, hok])
   have HK := Lib.hid hok; have HA := Lib.hid ha; clear ha hok
   go_enter Tryz.func193, Tryz.ntmps193
   go_wp2_with fail
   refine (CountNumbers_c _ _ fs r _ h1 h2).mono ?_
   rintro e w1 ⟨rfl, hb1⟩
   unfold cnV
   rw [HA.out]
   go_wp2
   go_ret2
   exact IntsPost.mk' HL.out HK.out (World.ownsRow_nil _ _ _ _) hb1
 · have hN : cnN fs r = (prodTo fs r r.length : Int) := by simp [cnN, ha]
   have hr6 := fnOk_len ha
   by_cases hz : prodTo fs r r.length = 0
   · have hok : fnOk fs r = false := by simp [fnOk, hz]
     have HL := Lib.hid (show fnL fs r = [] by simp [fnL, hok])
     have HN := Lib.hid (show cnN fs r = 0 by rw [hN, hz]; rfl)
     have HK := Lib.hid hok; have HA := Lib.hid ha; clear ha hok hN hz
     go_enter Tryz.func193, Tryz.ntmps193
     go_wp2_with fail
     refine (CountNumbers_c _ _ fs r _ h1 h2).mono ?_
     rintro e w1 ⟨rfl, hb1⟩
     unfold cnV
     rw [HA.out, HN.out]
     go_wp2
     go_ret2
     exact IntsPost.mk' HL.out HK.out (World.ownsRow_nil _ _ _ _) hb1
   · have hok : fnOk fs r = true := by simp [fnOk, hz, ha]
     have HL := Lib.hid (show fnL fs r = firstTo fs r r.length by simp [fnL, hok])
     have hzb : (cnN fs r == 0) = false := by rw [hN]; simp [hz]
     have HZ := Lib.hid hz
     have HK := Lib.hid hok; have HA := Lib.hid ha; clear ha hok hN hz
     go_enter Tryz.func193, Tryz.ntmps193
     go_wp2_with fail
     refine (CountNumbers_c _ _ fs r _ h1 h2).mono ?_
     rintro e w1 ⟨rfl, hb1⟩
     unfold cnV
     rw [HA.out]
     clear h1 h2
     go_wp2
     go_loopw [8, 9, 10, 25] (fun o _ _ j wr => ∃ k : Nat, k ≤ r.length ∧ j = .int .i64 (k : Int) ∧ wr.ownsRow w.heap.size 3 1 o (firstTo fs r k).length ((firstTo fs r k).map (Value.int .i64)) ∧ Below w.heap.size w wr) (fun _ _ _ j _ => r.length - (intOf j).toNat)
     case atStart => exact ⟨0, by omega, rfl, World.ownsRow_nil _ _ _ _, hb1⟩
     case round =>
      obtain ⟨k, hk, rfl, ho, hb⟩ := hrel
      clear hb1
      by_cases hlt : k < r.length
      · have hd : decide ((k : Int) < (r.length : Int)) = true := by simp; omega
        have hlf : k < fs.length := by rw [areB_len (cnOk_are HA.out)]; exact hlt
        obtain ⟨f, hf⟩ := elem_at hlf
        obtain ⟨c, hc⟩ := elem_at hlt
        obtain ⟨b1, o1, rfl, f0, f1⟩ := H1.out k _ hf.out
        obtain ⟨b2, o2, rfl, f2⟩ := H2.out k _ hc.out
        have g0 := cell_later hb f0
        have g1 := cell_later hb f1
        have g2 := cell_later hb f2
        have bd := areB_fault (cnOk_are HA.out) hf.out
        have hne : nDig f c ≠ 0 := fun h => HZ.out (prodTo_zero_of hf.out hc.out h hlt)
        have hh := head_at hne
        have hS := firstTo_succ hf.out hc.out
        have hle := firstTo_le fs r k
        generalize firstTo fs r k = cur at *
        have HS := Lib.hid hS; clear hS f0 f1 f2
        go_wp2_with fail
        refine (digits_c f.1 f.2 c _ bd.1 bd.2.1 bd.2.2.1 bd.2.2.2).mono ?_
        rintro e w2 ⟨u, rfl, hod, hb2⟩
        obtain ⟨a3, c3, hu3, hc3, hcm3, H3⟩ := (Ints.of_own hod).parts
        obtain ⟨b3, o3, e3, g3⟩ := H3.out 0 _ hh
        subst hu3 e3
        simp only [Nat.add_zero] at g3
        have hpos : 0 < (digL f.1 f.2 c).length := (List.getElem?_eq_some_iff.1 hh).1
        have ho2 := own_keep ho hb2
        have hb3 := Below.chain hb hb2
        generalize headDig f c = X at *
        generalize (digL f.1 f.2 c).length = nn at *
        clear ho hb hb2 g0 g1 g2 hod H3 hh
        have hposI : (0 : Int) < (nn : Int) := by omega
        go_wp2_with (at_builtin; refine wpList_append_own_at _ rfl _ _ 37 rfl w.heap.size 3 i (.int .i64 0) 1 8 Tryz.underlying37 hi hz0 hz1 hz2 rfl (by decide) _ cur.length (cur.map (Value.int .i64)) rfl (ho2.alloc _) ⟨w2.heap.size, 0, none⟩ 1 1 [.int .i64 X] rfl rfl (news_new _ [.int .i64 X] _) (by simp [Value.oneCell']) (by unfold maxLen; omega) (by omega) (by have := hb3.size; simp; omega) ?_)
        intro v' w3 ho5 hg5 _ _
        have hb7 : Below w.heap.size w w3 := (Below.alc hb3 _).grown hg5 (by have := hb3.size; simp; omega) (fun g hg => (ho2.lt g hg).1)
        clear ho2 hb3 hg5 g3
        go_wp2
        go_roundw
        case rel => exact ⟨k + 1, by omega, by go_num, by rw [HS.out]; exact ownsRow_cast ho5 (by simp) (by simp), hb7⟩
        case measure => simp [intOf]; omega
      · obtain rfl : k = r.length := by omega
        go_wp2
        go_ret2
        exact IntsPost.mk' HL.out HK.out ho hb
theorem sFirstNumber_c (v1 v2 : Value) (fs : List (Int × Int)) (r : List Int) (w : World) (h1 : Pairs w v1 fs) (h2 : Ints w v2 r) :
 Calls Tryz.prog 177 #[v1, v2] w (IntsPost w (fnL fs r) (fnOk fs r)) := by
 obtain ⟨a1, c1, rfl, _, _, H1⟩ := h1.parts
 obtain ⟨a2, c2, rfl, _, _, H2⟩ := h2.parts
 obtain ⟨i, hi, hz0, hz1, hz2⟩ := info_parts info_int
 have lit : ∀ wx : World, w.heap.size ≤ wx.heap.size → (wx.alloc (.cells #[] 3)).ownsRow w.heap.size 3 1 (.slice (some ⟨wx.heap.size, 0, none⟩) 0 0) 0 [] := fun wx h => World.ownsRow_lit (e := 3) (size := 1) (base := w.heap.size) wx #[] 0 h (by decide) rfl
 rcases ha : areB fs r with _ | _
 · have hok : fnOk fs r = false := by simp [fnOk, cnOk, ha]
   have HL := Lib.hid (show fnL fs r = [] by simp [fnL, hok])
   have HK := Lib.hid hok; have HA := Lib.hid ha; clear ha hok
   go_enter Tryz.func177, Tryz.ntmps177
   go_wp2_with fail
   refine (l3Faults_c _ _ fs r _ h1 h2).mono ?_
   rintro e w1 ⟨rfl, hb1⟩
   rw [HA.out]
   have hl := lit w1 hb1.size
   go_wp2
   go_ret2
   exact IntsPost.mk' HL.out HK.out hl (Below.alc hb1 _)
 · have hr6 := rowB_le (areB_row ha)
   by_cases hz : r.length = 0
   · have hok : fnOk fs r = false := by simp [fnOk, cnOk, hz]
     have hzb : ((r.length : Int) == 0) = true := by simp [hz]
     have HL := Lib.hid (show fnL fs r = [] by simp [fnL, hok])
     have HZ := Lib.hid hz; have HK := Lib.hid hok; have HA := Lib.hid ha; clear ha hok hz
     go_enter Tryz.func177, Tryz.ntmps177
     go_wp2_with fail
     refine (l3Faults_c _ _ fs r _ h1 h2).mono ?_
     rintro e w1 ⟨rfl, hb1⟩
     rw [HA.out]
     have hl := lit w1 hb1.size
     go_wp2
     go_ret2
     exact IntsPost.mk' HL.out HK.out hl (Below.alc hb1 _)
   · have hcn : cnOk fs r = true := by simp [cnOk, ha, hz]
     have hzb : ((r.length : Int) == 0) = false := by simp [hz]
     have HC := Lib.hid hcn; have HZ := Lib.hid hz; have HA := Lib.hid ha; clear ha hcn hz
     go_enter Tryz.func177, Tryz.ntmps177
     go_wp2_with fail
     refine (l3Faults_c _ _ fs r _ h1 h2).mono ?_
     rintro e w1 ⟨rfl, hb1⟩
     rw [HA.out]
     have ho1 := lit w1 hb1.size
     have hb01 := Below.alc hb1 (.cells #[] 3)
     clear h1 h2 hb1
     go_wp2
     go_loopw [6, 7, 8] (fun o j _ wr => ∃ k : Nat, k ≤ r.length ∧ j = .int .i64 (k : Int) ∧ wr.ownsRow w.heap.size 3 1 o (firstTo fs r k).length ((firstTo fs r k).map (Value.int .i64)) ∧ Below w.heap.size w wr ∧ Hid (prodTo fs r k ≠ 0)) (fun _ j _ _ => r.length - (intOf j).toNat)
     case atStart => exact ⟨0, by omega, rfl, ho1, hb01, by simp [Hid, prodTo_zero]⟩
     case round =>
      obtain ⟨k, hk, rfl, ho, hb, hnz⟩ := hrel
      clear ho1 hb01
      by_cases hlt : k < r.length
      · have hd : decide ((k : Int) < (r.length : Int)) = true := by simp; omega
        have hlf : k < fs.length := by rw [areB_len HA.out]; exact hlt
        have hlf2 : (k : Int) < (fs.length : Int) := by omega
        obtain ⟨f, hf⟩ := elem_at hlf
        obtain ⟨c, hc⟩ := elem_at hlt
        obtain ⟨b1, o1, rfl, f0, f1⟩ := H1.out k _ hf.out
        obtain ⟨b2, o2, rfl, f2⟩ := H2.out k _ hc.out
        have g0 := cell_later hb f0
        have g1 := cell_later hb f1
        have g2 := cell_later hb f2
        have bd := areB_fault HA.out hf.out
        have hS := firstTo_succ hf.out hc.out
        have hP := prodTo_succ hf.out hc.out
        have hle := firstTo_le fs r k
        generalize firstTo fs r k = cur at *
        have HS := Lib.hid hS; have HP := Lib.hid hP; clear hS hP f0 f1 f2
        go_wp2_with fail
        go_region_held3 (fun w' => w'.cell? ⟨b1, o1 + k * 2, none⟩ = some (.int .i64 f.1) ∧ w'.cell? ⟨b1, o1 + k * 2 + 1, none⟩ = some (.int .i64 f.2) ∧ w'.cell? ⟨b2, o2 + k, none⟩ = some (.int .i64 c))
         (first | go_keep | (go_split_ands; exact ⟨cell_later hb2 (by assumption), cell_later hb2 (by assumption), cell_later hb2 (by assumption)⟩))
         (first | (go_at_call 223; refine (l3Digits_c f.1 f.2 c _ bd.1 bd.2.1 bd.2.2.1 bd.2.2.2).mono ?_; rintro e w' ⟨u, rfl, hod, hb2⟩))
        have ho2 := own_keep ho.drew hb2
        have hb3 := Below.chain hb.drew hb2
        by_cases hne : nDig f c = 0
        · have hok : fnOk fs r = false := by simp [fnOk, HC.out, prodTo_zero_of hf.out hc.out hne hlt]
          have HL := Lib.hid (show fnL fs r = [] by simp [fnL, hok])
          have HK := Lib.hid hok
          have hl := lit _ hb3.size
          obtain ⟨a3, c3, hu3, _⟩ := (Sl.of_own hod).slice
          have hlen : (digL f.1 f.2 c).length = 0 := hne
          rw [hlen] at hu3
          subst hu3
          clear hok hod ho ho2 hb hb2 g0 g1 g2 hlen hne
          go_wp2
          go_ret2
          exact IntsPost.mk' HL.out HK.out hl (Below.alc hb3 _)
        · have hh := head_at hne
          obtain ⟨a3, c3, hu3, hc3, hcm3, H3⟩ := (Ints.of_own hod).parts
          obtain ⟨b3, o3, e3, g3⟩ := H3.out 0 _ hh
          subst hu3 e3
          simp only [Nat.add_zero] at g3
          have hpos : 0 < (digL f.1 f.2 c).length := (List.getElem?_eq_some_iff.1 hh).1
          have hprod : prodTo fs r (k + 1) ≠ 0 := by rw [HP.out]; exact Nat.mul_ne_zero hnz.out hne
          have HPr := Lib.hid hprod
          generalize headDig f c = X at *
          generalize (digL f.1 f.2 c).length = nn at *
          clear ho hb hb2 g0 g1 g2 hod H3 hh hprod
          have hposI : (0 : Int) < (nn : Int) := by omega
          have hnb : ((nn : Int) == 0) = false := by simp; omega
          go_wp2_with (at_builtin; refine wpList_append_own_at _ rfl _ _ 37 rfl w.heap.size 3 i (.int .i64 0) 1 8 Tryz.underlying37 hi hz0 hz1 hz2 rfl (by decide) _ cur.length (cur.map (Value.int .i64)) rfl (ho2.alloc _) ⟨w'.heap.size, 0, none⟩ 1 1 [.int .i64 X] rfl rfl (news_new _ [.int .i64 X] _) (by simp [Value.oneCell']) (by unfold maxLen; omega) (by omega) (by have := hb3.size; simp; omega) ?_)
          intro v' w3 ho5 hg5 _ _
          have hb7 : Below w.heap.size w w3 := (Below.alc hb3 _).grown hg5 (by have := hb3.size; simp; omega) (fun g hg => (ho2.lt g hg).1)
          clear ho2 hb3 hg5 g3
          go_wp2
          go_roundw
          case rel => exact ⟨k + 1, by omega, by go_num, by rw [HS.out]; exact ownsRow_cast ho5 (by simp) (by simp), hb7, HPr.out⟩
          case measure => simp [intOf]; omega
      · obtain rfl : k = r.length := by omega
        have hok : fnOk fs r = true := by simp [fnOk, HC.out, hnz.out]
        have HL := Lib.hid (show fnL fs r = firstTo fs r r.length by simp [fnL, hok])
        have HK := Lib.hid hok; clear hok
        go_wp2
        go_ret2
        exact IntsPost.mk' HL.out HK.out ho hb
def permC (p : List Nat) (c : Int) : Int := (((List.range 7).foldl (fun o k => o + c.toNat / 2 ^ (p.getD k 0) % 2 * 2 ^ k) 0 : Nat) : Int)
def mvC (t : Bool) (c : Int) : Int := permC (if t then [3, 4, 5, 0, 1, 2, 6] else [0, 5, 4, 3, 2, 1, 6]) c
theorem mvC_all : ∀ n : Fin 128, ∀ t : Bool, 0 ≤ mvC t (n.1 : Int) ∧ mvC t (n.1 : Int) ≤ 127 := by decide +kernel
theorem mvC_bd {c : Int} (t : Bool) (h0 : 0 ≤ c) (h1 : c ≤ 127) : 0 ≤ mvC t c ∧ mvC t c ≤ 127 := by
 obtain ⟨n, rfl⟩ := Int.eq_ofNat_of_zero_le h0
 exact mvC_all ⟨n, by omega⟩ t
theorem index7_0 (x0 x1 x2 x3 x4 x5 x6 : Int) (w : World) : (Instr.index 208 (.agg #[.int .i64 x0, .int .i64 x1, .int .i64 x2, .int .i64 x3, .int .i64 x4, .int .i64 x5, .int .i64 x6]) (.int .i64 0)).run Tryz.prog w = .ok (.int .i64 x0) w := by kernel_rfl
theorem index7_1 (x0 x1 x2 x3 x4 x5 x6 : Int) (w : World) : (Instr.index 208 (.agg #[.int .i64 x0, .int .i64 x1, .int .i64 x2, .int .i64 x3, .int .i64 x4, .int .i64 x5, .int .i64 x6]) (.int .i64 1)).run Tryz.prog w = .ok (.int .i64 x1) w := by kernel_rfl
theorem index7_2 (x0 x1 x2 x3 x4 x5 x6 : Int) (w : World) : (Instr.index 208 (.agg #[.int .i64 x0, .int .i64 x1, .int .i64 x2, .int .i64 x3, .int .i64 x4, .int .i64 x5, .int .i64 x6]) (.int .i64 2)).run Tryz.prog w = .ok (.int .i64 x2) w := by kernel_rfl
theorem index7_3 (x0 x1 x2 x3 x4 x5 x6 : Int) (w : World) : (Instr.index 208 (.agg #[.int .i64 x0, .int .i64 x1, .int .i64 x2, .int .i64 x3, .int .i64 x4, .int .i64 x5, .int .i64 x6]) (.int .i64 3)).run Tryz.prog w = .ok (.int .i64 x3) w := by kernel_rfl
theorem index7_4 (x0 x1 x2 x3 x4 x5 x6 : Int) (w : World) : (Instr.index 208 (.agg #[.int .i64 x0, .int .i64 x1, .int .i64 x2, .int .i64 x3, .int .i64 x4, .int .i64 x5, .int .i64 x6]) (.int .i64 4)).run Tryz.prog w = .ok (.int .i64 x4) w := by kernel_rfl
theorem index7_5 (x0 x1 x2 x3 x4 x5 x6 : Int) (w : World) : (Instr.index 208 (.agg #[.int .i64 x0, .int .i64 x1, .int .i64 x2, .int .i64 x3, .int .i64 x4, .int .i64 x5, .int .i64 x6]) (.int .i64 5)).run Tryz.prog w = .ok (.int .i64 x5) w := by kernel_rfl
theorem index7_6 (x0 x1 x2 x3 x4 x5 x6 : Int) (w : World) : (Instr.index 208 (.agg #[.int .i64 x0, .int .i64 x1, .int .i64 x2, .int .i64 x3, .int .i64 x4, .int .i64 x5, .int .i64 x6]) (.int .i64 6)).run Tryz.prog w = .ok (.int .i64 x6) w := by kernel_rfl
theorem mvT_i : ∀ n : Nat, n < 128 → (bits BinOp.or IntKind.i64 (bits BinOp.or IntKind.i64 (bits BinOp.or IntKind.i64 (bits BinOp.or IntKind.i64 (bits BinOp.or IntKind.i64 (bits BinOp.or IntKind.i64 (bits BinOp.or IntKind.i64 0 (wrap64 (bits BinOp.and IntKind.i64 (n : Int) 1 * 8))) (wrap64 (bits BinOp.and IntKind.i64 ((n : Int) / 2) 1 * 16))) (wrap64 (bits BinOp.and IntKind.i64 ((n : Int) / 4) 1 * 32))) (wrap64 (bits BinOp.and IntKind.i64 ((n : Int) / 8) 1))) (wrap64 (bits BinOp.and IntKind.i64 ((n : Int) / 16) 1 * 2))) (wrap64 (bits BinOp.and IntKind.i64 ((n : Int) / 32) 1 * 4))) (wrap64 (bits BinOp.and IntKind.i64 ((n : Int) / 64) 1 * 64))) = mvC true (n : Int) := by decide +kernel
theorem mvM_i : ∀ n : Nat, n < 128 → (bits BinOp.or IntKind.i64 (bits BinOp.or IntKind.i64 (bits BinOp.or IntKind.i64 (bits BinOp.or IntKind.i64 (bits BinOp.or IntKind.i64 (bits BinOp.or IntKind.i64 (bits BinOp.or IntKind.i64 0 (wrap64 (bits BinOp.and IntKind.i64 (n : Int) 1))) (wrap64 (bits BinOp.and IntKind.i64 ((n : Int) / 2) 1 * 32))) (wrap64 (bits BinOp.and IntKind.i64 ((n : Int) / 4) 1 * 16))) (wrap64 (bits BinOp.and IntKind.i64 ((n : Int) / 8) 1 * 8))) (wrap64 (bits BinOp.and IntKind.i64 ((n : Int) / 16) 1 * 4))) (wrap64 (bits BinOp.and IntKind.i64 ((n : Int) / 32) 1 * 2))) (wrap64 (bits BinOp.and IntKind.i64 ((n : Int) / 64) 1 * 64))) = mvC false (n : Int) := by decide +kernel
theorem mvT_s : ∀ n : Nat, n < 128 → (bits BinOp.or IntKind.i64 (bits BinOp.or IntKind.i64 (bits BinOp.or IntKind.i64 (bits BinOp.or IntKind.i64 (bits BinOp.or IntKind.i64 (bits BinOp.or IntKind.i64 (bits BinOp.or IntKind.i64 0 (wrap64 (bits BinOp.and IntKind.i64 ((n : Int) / 8) 1))) (wrap64 (bits BinOp.and IntKind.i64 ((n : Int) / 16) 1 * 2))) (wrap64 (bits BinOp.and IntKind.i64 ((n : Int) / 32) 1 * 4))) (wrap64 (bits BinOp.and IntKind.i64 (n : Int) 1 * 8))) (wrap64 (bits BinOp.and IntKind.i64 ((n : Int) / 2) 1 * 16))) (wrap64 (bits BinOp.and IntKind.i64 ((n : Int) / 4) 1 * 32))) (wrap64 (bits BinOp.and IntKind.i64 ((n : Int) / 64) 1 * 64))) = mvC true (n : Int) := by decide +kernel
theorem mvM_s : ∀ n : Nat, n < 128 → (bits BinOp.or IntKind.i64 (bits BinOp.or IntKind.i64 (bits BinOp.or IntKind.i64 (bits BinOp.or IntKind.i64 (bits BinOp.or IntKind.i64 (bits BinOp.or IntKind.i64 (bits BinOp.or IntKind.i64 0 (wrap64 (bits BinOp.and IntKind.i64 (n : Int) 1))) (wrap64 (bits BinOp.and IntKind.i64 ((n : Int) / 32) 1 * 2))) (wrap64 (bits BinOp.and IntKind.i64 ((n : Int) / 16) 1 * 4))) (wrap64 (bits BinOp.and IntKind.i64 ((n : Int) / 8) 1 * 8))) (wrap64 (bits BinOp.and IntKind.i64 ((n : Int) / 4) 1 * 16))) (wrap64 (bits BinOp.and IntKind.i64 ((n : Int) / 2) 1 * 32))) (wrap64 (bits BinOp.and IntKind.i64 ((n : Int) / 64) 1 * 64))) = mvC false (n : Int) := by decide +kernel
theorem movedT_c (c : Int) (w : World) (h0 : 0 ≤ c) (h1 : c ≤ 127) : Calls Tryz.prog 203 #[.int .i64 c, .agg #[.int .i64 3, .int .i64 4, .int .i64 5, .int .i64 0, .int .i64 1, .int .i64 2, .int .i64 6]] w fun e w' => e = .returned (.int .i64 (mvC true c)) ∧ Below w.heap.size w w' := by
 obtain ⟨n, rfl⟩ := Int.eq_ofNat_of_zero_le h0
 have hn : n < 128 := by omega
 have i0 := index7_0 3 4 5 0 1 2 6
 have i1 := index7_1 3 4 5 0 1 2 6
 have i2 := index7_2 3 4 5 0 1 2 6
 have i3 := index7_3 3 4 5 0 1 2 6
 have i4 := index7_4 3 4 5 0 1 2 6
 have i5 := index7_5 3 4 5 0 1 2 6
 have i6 := index7_6 3 4 5 0 1 2 6
 go_enter Tryz.func203, Tryz.ntmps203
 go_wp2
 refine wp_loop_rounds 8 ?_
 rw [rounds_succ]
 go_wp2
 rw [rounds_succ]
 go_wp2
 rw [rounds_succ]
 go_wp2
 rw [rounds_succ]
 go_wp2
 rw [rounds_succ]
 go_wp2
 rw [rounds_succ]
 go_wp2
 rw [rounds_succ]
 go_wp2
 rw [rounds_succ]
 go_wp2
 go_ret
 exact ⟨int_ret (mvT_i n hn), by (repeat (first | exact Below.refl _ _ | exact (Below.refl _ _).drew | assumption | exact below_one _ | refine Below.chain ?_ (by assumption) | refine Below.drew ?_ | refine Below.alc ?_ _ | refine below_drewN ?_ | (refine Below.setCell ?_ ?_ _) | exact Nat.le_refl _ | (simp; done) | (simp; omega)))⟩
theorem movedM_c (c : Int) (w : World) (h0 : 0 ≤ c) (h1 : c ≤ 127) : Calls Tryz.prog 203 #[.int .i64 c, .agg #[.int .i64 0, .int .i64 5, .int .i64 4, .int .i64 3, .int .i64 2, .int .i64 1, .int .i64 6]] w fun e w' => e = .returned (.int .i64 (mvC false c)) ∧ Below w.heap.size w w' := by
 obtain ⟨n, rfl⟩ := Int.eq_ofNat_of_zero_le h0
 have hn : n < 128 := by omega
 have i0 := index7_0 0 5 4 3 2 1 6
 have i1 := index7_1 0 5 4 3 2 1 6
 have i2 := index7_2 0 5 4 3 2 1 6
 have i3 := index7_3 0 5 4 3 2 1 6
 have i4 := index7_4 0 5 4 3 2 1 6
 have i5 := index7_5 0 5 4 3 2 1 6
 have i6 := index7_6 0 5 4 3 2 1 6
 go_enter Tryz.func203, Tryz.ntmps203
 go_wp2
 refine wp_loop_rounds 8 ?_
 rw [rounds_succ]
 go_wp2
 rw [rounds_succ]
 go_wp2
 rw [rounds_succ]
 go_wp2
 rw [rounds_succ]
 go_wp2
 rw [rounds_succ]
 go_wp2
 rw [rounds_succ]
 go_wp2
 rw [rounds_succ]
 go_wp2
 rw [rounds_succ]
 go_wp2
 go_ret
 exact ⟨int_ret (mvM_i n hn), by (repeat (first | exact Below.refl _ _ | exact (Below.refl _ _).drew | assumption | exact below_one _ | refine Below.chain ?_ (by assumption) | refine Below.drew ?_ | refine Below.alc ?_ _ | refine below_drewN ?_ | (refine Below.setCell ?_ ?_ _) | exact Nat.le_refl _ | (simp; done) | (simp; omega)))⟩
theorem turned_c (c : Int) (w : World) (h0 : 0 ≤ c) (h1 : c ≤ 127) : Calls Tryz.prog 155 #[.int .i64 c] w fun e w' => e = .returned (.int .i64 (mvC true c)) ∧ Below w.heap.size w w' := by
 go_enter Tryz.func155, Tryz.ntmps155
 go_wp2_with fail
 refine (movedT_c c _ h0 h1).mono ?_
 rintro e w1 ⟨rfl, hb1⟩
 go_wp2
 go_ret
 exact ⟨rfl, hb1⟩
theorem mirrored_c (c : Int) (w : World) (h0 : 0 ≤ c) (h1 : c ≤ 127) : Calls Tryz.prog 156 #[.int .i64 c] w fun e w' => e = .returned (.int .i64 (mvC false c)) ∧ Below w.heap.size w w' := by
 go_enter Tryz.func156, Tryz.ntmps156
 go_wp2_with fail
 refine (movedM_c c _ h0 h1).mono ?_
 rintro e w1 ⟨rfl, hb1⟩
 go_wp2
 go_ret
 exact ⟨rfl, hb1⟩
theorem l2Turn_c (c : Int) (w : World) (h0 : 0 ≤ c) (h1 : c ≤ 127) : Calls Tryz.prog 242 #[.int .i64 c] w fun e w' => e = .returned (.int .i64 (mvC true c)) ∧ Below w.heap.size w w' := by
 obtain ⟨n, rfl⟩ := Int.eq_ofNat_of_zero_le h0
 have hn : n < 128 := by omega
 go_enter Tryz.func242, Tryz.ntmps242
 go_wp2
 refine wp_loop_rounds 8 ?_
 rw [rounds_succ]
 go_wp2
 rw [rounds_succ]
 go_wp2
 rw [rounds_succ]
 go_wp2
 rw [rounds_succ]
 go_wp2
 rw [rounds_succ]
 go_wp2
 rw [rounds_succ]
 go_wp2
 rw [rounds_succ]
 go_wp2
 rw [rounds_succ]
 go_wp2
 go_ret
 exact ⟨int_ret (mvT_s n hn), by (repeat (first | exact Below.refl _ _ | exact (Below.refl _ _).drew | assumption | exact below_one _ | refine Below.chain ?_ (by assumption) | refine Below.drew ?_ | refine Below.alc ?_ _ | refine below_drewN ?_ | (refine Below.setCell ?_ ?_ _) | exact Nat.le_refl _ | (simp; done) | (simp; omega)))⟩
theorem l2Mirror_c (c : Int) (w : World) (h0 : 0 ≤ c) (h1 : c ≤ 127) : Calls Tryz.prog 243 #[.int .i64 c] w fun e w' => e = .returned (.int .i64 (mvC false c)) ∧ Below w.heap.size w w' := by
 obtain ⟨n, rfl⟩ := Int.eq_ofNat_of_zero_le h0
 have hn : n < 128 := by omega
 go_enter Tryz.func243, Tryz.ntmps243
 go_wp2
 refine wp_loop_rounds 8 ?_
 rw [rounds_succ]
 go_wp2
 rw [rounds_succ]
 go_wp2
 rw [rounds_succ]
 go_wp2
 rw [rounds_succ]
 go_wp2
 rw [rounds_succ]
 go_wp2
 rw [rounds_succ]
 go_wp2
 rw [rounds_succ]
 go_wp2
 rw [rounds_succ]
 go_wp2
 go_ret
 exact ⟨int_ret (mvM_s n hn), by (repeat (first | exact Below.refl _ _ | exact (Below.refl _ _).drew | assumption | exact below_one _ | refine Below.chain ?_ (by assumption) | refine Below.drew ?_ | refine Below.alc ?_ _ | refine below_drewN ?_ | (refine Below.setCell ?_ ?_ _) | exact Nat.le_refl _ | (simp; done) | (simp; omega)))⟩
end Go.Proofs.YtohgjfdbnkjefaaGreatDoor
