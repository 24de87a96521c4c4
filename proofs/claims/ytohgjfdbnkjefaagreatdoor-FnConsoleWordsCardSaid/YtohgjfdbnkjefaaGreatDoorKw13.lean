/- Texts of this claim, gathered: Cwf, Cwu, Cwv, Cww, Lts3. -/
import Derived.Test.YtohgjfdbnkjefaaGreatDoorKw12
import Derived.Lib.AppendZerosOnto
import Derived.Deep.RegionHeld3
import Derived.Deep.DrawnRows
namespace Go.Proofs.YtohgjfdbnkjefaaGreatDoor
open Go.RowKit
set_option linter.unusedVariables false
set_option linter.unusedSimpArgs false
set_option maxRecDepth 100000
theorem zc_two : ∀ k, k ≤ 2 → Builtin.zeroCells #[Value.int .i64 0] k = (List.replicate k (Value.int .i64 0)).toArray
 | 0, _ => by kernel_rfl
 | 1, _ => by kernel_rfl
 | 2, _ => by kernel_rfl
 | k + 3, h => by omega
theorem rep_one {k : Nat} : ∀ u ∈ List.replicate k (Value.int .i64 0), u.oneCell' = true := fun u hu => by
 rw [(List.mem_replicate.1 hu).2]; rfl
theorem run_zeros_own (w : World) (base n k : Nat) (v : Value) (xs : List Value) (ty : TypeId) (hown : w.ownsRow base 3 1 v n xs) (hk : k ≤ 2) (hs : n + k ≤ 1000) (hbase : base ≤ w.heap.size) :
 ∃ v' w', (Builtin.append_ #[37, 3] ty #[v, .int .i64 (k : Int)]).run Tryz.prog w = .ok v' w' ∧ w'.ownsRow base 3 1 v' (n + k) (xs ++ List.replicate k (.int .i64 0)) ∧ w.grownBy w' v.ownBlock := by
 obtain ⟨i, hi, hz0, hz1, hz2⟩ := info_parts info_int
 have ht := Tryz.underlying37
 have htn := Tryz.underlying3
 have hlen : (xs ++ List.replicate k (Value.int .i64 0)).length = (n + k) * 1 := by rw [List.length_append, hown.1, List.length_replicate]; omega
 have hw : IntKind.i64.wrap (k : Int) = k := by rw [IntKind.wrap_i64]; omega
 have hneg : ¬ ((k : Int) < 0) := by omega
 have hw0 : IntKind.i64.wrap 0 = 0 := by decide
 have h48i : ¬ (281474976710656 < (k : Int) * (i.bytes : Int)) := by rw [hz2]; omega
 have grown : ∀ (old : Nat) (row : Option Nat),
  (w.drew.alloc (.cells (xs.toArray ++ Builtin.zeroCells #[Value.int .i64 0] k ++ Builtin.zeroCells #[Value.int .i64 0] (grownCap w (n + k) old 3 - (n + k))) 3)).ownsRow base 3 1
   (.slice (some ⟨w.heap.size, 0, none⟩) (n + k) (grownCap w (n + k) old 3)) (n + k) (xs ++ List.replicate k (.int .i64 0)) ∧
  w.grownBy (w.drew.alloc (.cells (xs.toArray ++ Builtin.zeroCells #[Value.int .i64 0] k ++ Builtin.zeroCells #[Value.int .i64 0] (grownCap w (n + k) old 3 - (n + k))) 3)) row := by
  intro old row
  have hge := grownCap_ge w (n + k) old 3
  have hcm : grownCap w (n + k) old 3 ≤ maxLen := grownCap_le_maxLen w (n + k) old _ (by unfold maxLen; omega)
  refine ⟨⟨hlen, .inr ⟨w.heap.size, _, _, rfl, hbase, heap_alloc_new w.drew _, hge, hcm, ?_, ?_⟩⟩, ⟨rfl, rfl, rfl, by simp, fun q hq _ => heap_alloc_old w.drew _ hq⟩⟩
  · have hx := hown.1
    have hz : (#[Value.int .i64 0] : Array Value).size = 1 := rfl
    simp only [Array.size_append, List.size_toArray, size_zeroCells, hx, Nat.mul_one, hz]
    omega
  · rw [zc_two k hk]
    simp only [Array.toList_append, List.append_assoc]
    rw [← List.append_assoc, ← hlen]
    exact List.take_left
 rcases hown.2 with ⟨rfl, rfl⟩ | ⟨g, cap, cur, rfl, hbg, hg, hnc, hcm, hcs, htake⟩
 · have hx : xs = [] := List.eq_nil_of_length_eq_zero (by simpa using hown.1)
   subst hx
   by_cases hk0 : k = 0
   · subst hk0
     refine ⟨.slice none 0 0, w, ?_, World.ownsRow_nil w base _ 1, ⟨rfl, rfl, rfl, Nat.le_refl _, fun _ _ _ => rfl⟩⟩
     simp [Builtin.append_, run_underlying ht, run_underlying htn, sizeOf, typeInfo, zeroValue, hi, hz0, asInt, asIntOf, hw0]
   · have hr := Lib.run_append_nil_zeros (P := Tryz.prog) w _ _ ty _ i _ .i64 .i64 ht htn hi hz0 k (by omega) (by omega) (by omega) (by rw [hz2]; omega)
     have hgr := grown 0 none
     simp only [Nat.zero_add, List.nil_append, Array.empty_append] at hgr ⊢
     exact ⟨_, _, hr, hgr.1, hgr.2⟩
 · by_cases hroom : n + k ≤ cap
   · by_cases hk0 : k = 0
     · subst hk0
       refine ⟨.slice (some ⟨g, 0, none⟩) n cap, w, ?_, by simpa using hown, ⟨rfl, rfl, rfl, Nat.le_refl _, fun _ _ _ => rfl⟩⟩
       simp [Builtin.append_, run_underlying ht, run_underlying htn, sizeOf, typeInfo, zeroValue, hi, hz0, asInt, asIntOf, hw0, hnc, storeCells]
     · have hfit : n * 1 + 0 + (List.replicate k (Value.int .i64 0)).length ≤ cur.size := by rw [List.length_replicate, hcs]; omega
       have hst := run_storeCells_at Tryz.prog g (n * 1) 3 (List.replicate k (.int .i64 0)) 0 cur w hg hfit rep_one
       have hns : ¬ (k * i.size = 0) := by rw [hz1]; omega
       have hr : (Builtin.append_ #[37, 3] ty #[.slice (some ⟨g, 0, none⟩) n cap, .int .i64 (k : Int)]).run Tryz.prog w =
        .ok (.slice (some ⟨g, 0, none⟩) (n + k) cap) (w.setRow g (cur.toList.take (n * 1 + 0) ++ List.replicate k (Value.int .i64 0) ++ cur.toList.drop (n * 1 + 0 + (List.replicate k (Value.int .i64 0)).length)).toArray) := by
        simp only [hz1] at hns
        have hzc := zc_two k hk
        simp only [Nat.mul_one, Nat.add_zero] at hst
        simp [Builtin.append_, run_underlying ht, run_underlying htn, sizeOf, typeInfo, zeroValue, hi, hz0, hz1, asInt, asIntOf, hw, hneg, h48i, hns, hroom, Value.cells, hzc, Addr.add_lit, hst, hk0]
       refine ⟨_, _, hr, ⟨hlen, .inr ⟨g, cap, _, rfl, hbg, setRow_heap w g cur _ _ _ hg, hroom, hcm, ?_, ?_⟩⟩, ⟨rfl, rfl, rfl, by simp, fun j _ hj => setRow_other w g j _ (fun e => hj (by simp [Value.ownBlock, e]))⟩⟩
       · simp only [List.size_toArray, List.length_append, List.length_take, List.length_drop, Array.length_toList, List.length_replicate, Nat.mul_one, Nat.add_zero]
         omega
       · simp only [Nat.mul_one, Nat.add_zero] at htake hlen ⊢
         rw [htake, ← hlen]
         exact List.take_left
   · have holds : ∀ j u, xs[j]? = some u → w.cell? ((⟨g, 0, none⟩ : Addr).add j) = some u := hown.cells (g := g) rfl
     have hold := run_firstCells_some (P := Tryz.prog) w.drew i.size n ⟨g, 0, none⟩ n cap xs (by rw [hz1]; exact hown.1) (fun j u hu => holds j u hu)
     have hr := Lib.run_append_grow_zeros (P := Tryz.prog) w _ _ ty _ i _ .i64 .i64 ht htn hi hz0 (some ⟨g, 0, none⟩) n cap xs hold k (by omega) (by omega) (by omega) (by omega) (by rw [hz2]; omega) (by
      have := growslice_fits (old := cap) (need := n + k) (bytes := i.bytes) (by omega) (by rw [hz2]; omega)
      omega)
     have hgr := grown cap (Value.ownBlock (.slice (some ⟨g, 0, none⟩) n cap))
     exact ⟨_, _, hr, hgr.1, hgr.2⟩
-- GEN
def padL (xs : List Int) : List Int := [xs.getD 0 0, xs.getD 1 0]
theorem padded_c (v : Value) (xs : List Int) (w : World) (hv : Ints w v xs) (hn : xs.length ≤ 2) :
 Calls Tryz.prog 146 #[v, .int .i64 2] w fun e w' => ∃ u, e = .returned u ∧ w'.ownsRow w.heap.size 3 1 u 2 (ints (padL xs)) ∧ Below w.heap.size w w' := by
 have HCL := Lib.hid (Clone_c v xs w hv (by omega))
 obtain ⟨a, c, rfl, _, _, _⟩ := hv.parts
 clear hv
 rcases xs with _ | ⟨x, _ | ⟨y, _ | ⟨z, t⟩⟩⟩
 · as_aux_lemma =>
    go_enter Tryz.func146, Tryz.ntmps146
    go_wp2_with fail
    refine HCL.out.mono ?_
    rintro e w1 ⟨u, rfl, ho, hb⟩
    obtain ⟨v', w2, hr, ho2, hg2⟩ := run_zeros_own w1 w.heap.size 0 2 u _ 37 ho (by decide) (by decide) hb.size
    have HB2 := Lib.hid (hb.grown hg2 hb.size (fun g hg => (ho.lt g hg).1))
    have HO2 := Lib.hid ho2
    clear ho2 hg2 hb
    obtain ⟨ua, uc, rfl, _⟩ := (Sl.of_own ho).slice
    clear ho
    go_wp2_with (at_builtin; refine Lib.wpList_append_run _ rfl _ _ _ _ rfl _ _ rfl rfl _ _ hr ?_)
    go_wp2
    go_ret
    exact ⟨_, rfl, ownsRow_cast HO2.out rfl rfl, HB2.out⟩
 · as_aux_lemma =>
    go_enter Tryz.func146, Tryz.ntmps146
    go_wp2_with fail
    refine HCL.out.mono ?_
    rintro e w1 ⟨u, rfl, ho, hb⟩
    obtain ⟨v', w2, hr, ho2, hg2⟩ := run_zeros_own w1 w.heap.size 1 1 u _ 37 ho (by decide) (by decide) hb.size
    have HB2 := Lib.hid (hb.grown hg2 hb.size (fun g hg => (ho.lt g hg).1))
    have HO2 := Lib.hid ho2
    clear ho2 hg2 hb
    obtain ⟨ua, uc, rfl, _⟩ := (Sl.of_own ho).slice
    clear ho
    go_wp2_with (at_builtin; refine Lib.wpList_append_run _ rfl _ _ _ _ rfl _ _ rfl rfl _ _ hr ?_)
    go_wp2
    go_ret
    exact ⟨_, rfl, ownsRow_cast HO2.out rfl rfl, HB2.out⟩
 · as_aux_lemma =>
    go_enter Tryz.func146, Tryz.ntmps146
    go_wp2_with fail
    refine HCL.out.mono ?_
    rintro e w1 ⟨u, rfl, ho, hb⟩
    obtain ⟨v', w2, hr, ho2, hg2⟩ := run_zeros_own w1 w.heap.size 2 0 u _ 37 ho (by decide) (by decide) hb.size
    have HB2 := Lib.hid (hb.grown hg2 hb.size (fun g hg => (ho.lt g hg).1))
    have HO2 := Lib.hid ho2
    clear ho2 hg2 hb
    obtain ⟨ua, uc, rfl, _⟩ := (Sl.of_own ho).slice
    clear ho
    go_wp2_with (at_builtin; refine Lib.wpList_append_run _ rfl _ _ _ _ rfl _ _ rfl rfl _ _ hr ?_)
    go_wp2
    go_ret
    exact ⟨_, rfl, ownsRow_cast HO2.out rfl rfl, HB2.out⟩
 · exact absurd hn (by simp)
def jobR (w : Bs) (l : List Int) : (Int × Int × Int) × Int := match kindM w with
 | some (k, 2) => ((k, l.getD 0 0, l.getD 1 0), 2)
 | some (k, 1) => ((k, l.getD 0 0, 0), 1)
 | some (k, _) => ((k, 0, 0), 0)
 | none => ((0, 0, 0), -1)
def wdsL : List Bs := [wShow, wClear, wDark, wLit, wMend, wTurn, wMirror]
def manyL : List Nat := [2, 1, 2, 2, 1, 0, 0]
theorem kind_of {w : Bs} {k : Int} {n : Nat} (h : kindM w = some (k, n)) : ∃ j, j < 7 ∧ w = wdsL.getD j [] ∧ k = (j : Int) + 1 ∧ n = manyL.getD j 0 := by
 unfold kindM at h
 split at h
 · rename_i e
   obtain ⟨rfl, rfl⟩ := Prod.mk.inj (Option.some.inj h)
   exact ⟨0, by decide, e, rfl, rfl⟩
 split at h
 · rename_i e
   obtain ⟨rfl, rfl⟩ := Prod.mk.inj (Option.some.inj h)
   exact ⟨1, by decide, e, rfl, rfl⟩
 split at h
 · rename_i e
   obtain ⟨rfl, rfl⟩ := Prod.mk.inj (Option.some.inj h)
   exact ⟨2, by decide, e, rfl, rfl⟩
 split at h
 · rename_i e
   obtain ⟨rfl, rfl⟩ := Prod.mk.inj (Option.some.inj h)
   exact ⟨3, by decide, e, rfl, rfl⟩
 split at h
 · rename_i e
   obtain ⟨rfl, rfl⟩ := Prod.mk.inj (Option.some.inj h)
   exact ⟨4, by decide, e, rfl, rfl⟩
 split at h
 · rename_i e
   obtain ⟨rfl, rfl⟩ := Prod.mk.inj (Option.some.inj h)
   exact ⟨5, by decide, e, rfl, rfl⟩
 split at h
 · rename_i e
   obtain ⟨rfl, rfl⟩ := Prod.mk.inj (Option.some.inj h)
   exact ⟨6, by decide, e, rfl, rfl⟩
 cases h
theorem jobR_kind {w : Bs} {l : List Int} {k : Int} {n : Nat} (h : kindM w = some (k, n)) : (jobR w l).2 = (n : Int) ∧ (l.length = n → (jobR w l).1 = (k, l.getD 0 0, l.getD 1 0)) := by
 have hn : n = 2 ∨ n = 1 ∨ n = 0 := by
  obtain ⟨j, hj, _, _, rfl⟩ := kind_of h
  have : ∀ i : Fin 7, manyL.getD i.1 0 = 2 ∨ manyL.getD i.1 0 = 1 ∨ manyL.getD i.1 0 = 0 := by decide
  exact this ⟨j, hj⟩
 unfold jobR
 rw [h]
 rcases hn with rfl | rfl | rfl
 · exact ⟨rfl, fun _ => rfl⟩
 · refine ⟨rfl, fun hl => ?_⟩
   obtain ⟨x, rfl⟩ := List.length_eq_one_iff.1 hl
   rfl
 · refine ⟨rfl, fun hl => ?_⟩
   obtain rfl := List.eq_nil_of_length_eq_zero hl
   rfl
theorem jobR_none {w : Bs} {l : List Int} (h : kindM w = none) : jobR w l = ((0, 0, 0), -1) := by unfold jobR; rw [h]
set_option maxHeartbeats 20000000 in
theorem jobOf_c (s : ByteArray) (v : Value) (xs : List Int) (w : World) (hv : Ints w v xs) (hn : xs.length ≤ 2) :
 Calls Tryz.prog 101 #[.string s, v] w fun e w' => e = .returned (.tuple #[jobV (jobR s.data.toList xs).1.1 (jobR s.data.toList xs).1.2.1 (jobR s.data.toList xs).1.2.2, .int .i64 (jobR s.data.toList xs).2]) ∧ Below w.heap.size w w' := by
 have HPD := Lib.hid (fun (W : World) (hb : Below w.heap.size w W) => padded_c v xs W (hv.below hb) hn)
 have Z0 := Lib.hid (Bk.new w 123 #[.int .i64 0, .int .i64 0, .int .i64 0])
 obtain ⟨a, c, rfl, _, _, _⟩ := hv.parts
 clear hv
 by_cases e0 : s.data.toList = wShow
 · as_aux_lemma =>
    have f0 : (s.toList == [115, 104, 111, 119]) = true := by rw [Lib.toList_data, e0]; rfl
    have HM := Lib.hid (show jobR s.data.toList xs = ((1, xs.getD 0 0, xs.getD 1 0), 2) by unfold jobR kindM;  rw [if_pos e0]; rfl)
    rw [HM.out]
    unfold jobV
    clear e0 HM
    go_enter Tryz.func101, Tryz.ntmps101
    go_wp2_with fail
    refine (HPD.out _ (below_one _)).mono ?_
    rintro e w1 ⟨u, rfl, ho, hb⟩
    have Z1 := Lib.hid (Z0.out.below hb)
    have HB1 := Lib.hid (Below.chain (below_one _) hb)
    obtain ⟨ua, uc, rfl, _, _, HC⟩ := (show Ints w1 u (padL xs) from Ints.of_own ho).parts
    obtain ⟨ub, uo, rfl, c0⟩ := HC.out 0 (xs.getD 0 0) rfl
    obtain ⟨ub2, uo2, hu, c1⟩ := HC.out 1 (xs.getD 1 0) rfl
    have c0 : w1.cell? ⟨ub, uo, none⟩ = some (.int .i64 (xs.getD 0 0)) := c0
    obtain ⟨e1, e2⟩ : ub2 = ub ∧ uo2 = uo := by injection hu with h1; injection h1 with h2 h3; exact ⟨h2.symm, h3.symm⟩
    subst e1 e2
    rw [show (padL xs).length = 2 from rfl] at *
    clear hb ho HC hu Z0 HPD
    have z0 : w1.cell? ⟨w.heap.size, 0, none⟩ = some (.int .i64 0) := Z1.out.cell 0
    have z1 : w1.cell? ⟨w.heap.size, 1, none⟩ = some (.int .i64 0) := Z1.out.cell 1
    have z2 : w1.cell? ⟨w.heap.size, 2, none⟩ = some (.int .i64 0) := Z1.out.cell 2
    have g0 : w1.frozen? ⟨w.heap.size, 0, none⟩ = false := Z1.out.frozen 0
    have g1 : w1.frozen? ⟨w.heap.size, 1, none⟩ = false := Z1.out.frozen 1
    have g2 : w1.frozen? ⟨w.heap.size, 2, none⟩ = false := Z1.out.frozen 2
    obtain ⟨p, hp⟩ : ∃ p, xs.getD 0 0 = p := ⟨_, rfl⟩
    obtain ⟨q, hq⟩ : ∃ q, xs.getD 1 0 = q := ⟨_, rfl⟩
    rw [hp] at c0
    rw [hq] at c1
    have HP := Lib.hid hp
    have HQ := Lib.hid hq
    clear hp hq
    go_wp2
    go_region
    go_wp2
    exact bodyPost_ret (v := .tuple #[.agg #[.int .i64 1, .int .i64 p, .int .i64 q], .int .i64 2]) (by simp [results, Tryz.results101, go_sem, z0, z1, z2]) rfl ⟨by simp only [HP.out, HQ.out], by have hb := HB1.out; (repeat (first | exact Below.refl _ _ | exact (Below.refl _ _).drew | assumption | exact below_one _ | refine Below.chain ?_ (by assumption) | refine Below.drew ?_ | refine Below.alc ?_ _ | refine below_drewN ?_ | (refine Below.setCell ?_ ?_ _) | exact Nat.le_refl _ | (simp; done) | (simp; omega)))⟩
 · skip
   by_cases e1 : s.data.toList = wClear
   · as_aux_lemma =>
      have f0 : (s.toList == [115, 104, 111, 119]) = false := by rw [Lib.toList_data]; exact beq_false_of_ne e0
      have f1 : (s.toList == [99, 108, 101, 97, 114]) = true := by rw [Lib.toList_data, e1]; rfl
      have HM := Lib.hid (show jobR s.data.toList xs = ((2, xs.getD 0 0, 0), 1) by unfold jobR kindM; rw [if_neg e0]; rw [if_pos e1]; rfl)
      rw [HM.out]
      unfold jobV
      clear e0 e1 HM
      go_enter Tryz.func101, Tryz.ntmps101
      go_wp2_with fail
      refine (HPD.out _ (below_one _)).mono ?_
      rintro e w1 ⟨u, rfl, ho, hb⟩
      have Z1 := Lib.hid (Z0.out.below hb)
      have HB1 := Lib.hid (Below.chain (below_one _) hb)
      obtain ⟨ua, uc, rfl, _, _, HC⟩ := (show Ints w1 u (padL xs) from Ints.of_own ho).parts
      obtain ⟨ub, uo, rfl, c0⟩ := HC.out 0 (xs.getD 0 0) rfl
      obtain ⟨ub2, uo2, hu, c1⟩ := HC.out 1 (xs.getD 1 0) rfl
      have c0 : w1.cell? ⟨ub, uo, none⟩ = some (.int .i64 (xs.getD 0 0)) := c0
      obtain ⟨e1, e2⟩ : ub2 = ub ∧ uo2 = uo := by injection hu with h1; injection h1 with h2 h3; exact ⟨h2.symm, h3.symm⟩
      subst e1 e2
      rw [show (padL xs).length = 2 from rfl] at *
      clear hb ho HC hu Z0 HPD
      have z0 : w1.cell? ⟨w.heap.size, 0, none⟩ = some (.int .i64 0) := Z1.out.cell 0
      have z1 : w1.cell? ⟨w.heap.size, 1, none⟩ = some (.int .i64 0) := Z1.out.cell 1
      have z2 : w1.cell? ⟨w.heap.size, 2, none⟩ = some (.int .i64 0) := Z1.out.cell 2
      have g0 : w1.frozen? ⟨w.heap.size, 0, none⟩ = false := Z1.out.frozen 0
      have g1 : w1.frozen? ⟨w.heap.size, 1, none⟩ = false := Z1.out.frozen 1
      have g2 : w1.frozen? ⟨w.heap.size, 2, none⟩ = false := Z1.out.frozen 2
      obtain ⟨p, hp⟩ : ∃ p, xs.getD 0 0 = p := ⟨_, rfl⟩
      obtain ⟨q, hq⟩ : ∃ q, xs.getD 1 0 = q := ⟨_, rfl⟩
      rw [hp] at c0
      rw [hq] at c1
      have HP := Lib.hid hp
      have HQ := Lib.hid hq
      clear hp hq
      go_wp2
      exact bodyPost_ret (v := .tuple #[.agg #[.int .i64 2, .int .i64 p, .int .i64 0], .int .i64 1]) (by simp [results, Tryz.results101, go_sem, z0, z1, z2]) rfl ⟨by simp only [HP.out, HQ.out], by have hb := HB1.out; (repeat (first | exact Below.refl _ _ | exact (Below.refl _ _).drew | assumption | exact below_one _ | refine Below.chain ?_ (by assumption) | refine Below.drew ?_ | refine Below.alc ?_ _ | refine below_drewN ?_ | (refine Below.setCell ?_ ?_ _) | exact Nat.le_refl _ | (simp; done) | (simp; omega)))⟩
   · skip
     by_cases e2 : s.data.toList = wDark
     · as_aux_lemma =>
        have f0 : (s.toList == [115, 104, 111, 119]) = false := by rw [Lib.toList_data]; exact beq_false_of_ne e0
        have f1 : (s.toList == [99, 108, 101, 97, 114]) = false := by rw [Lib.toList_data]; exact beq_false_of_ne e1
        have f2 : (s.toList == [100, 97, 114, 107]) = true := by rw [Lib.toList_data, e2]; rfl
        have HM := Lib.hid (show jobR s.data.toList xs = ((3, xs.getD 0 0, xs.getD 1 0), 2) by unfold jobR kindM; rw [if_neg e0]; rw [if_neg e1]; rw [if_pos e2]; rfl)
        rw [HM.out]
        unfold jobV
        clear e0 e1 e2 HM
        go_enter Tryz.func101, Tryz.ntmps101
        go_wp2_with fail
        refine (HPD.out _ (below_one _)).mono ?_
        rintro e w1 ⟨u, rfl, ho, hb⟩
        have Z1 := Lib.hid (Z0.out.below hb)
        have HB1 := Lib.hid (Below.chain (below_one _) hb)
        obtain ⟨ua, uc, rfl, _, _, HC⟩ := (show Ints w1 u (padL xs) from Ints.of_own ho).parts
        obtain ⟨ub, uo, rfl, c0⟩ := HC.out 0 (xs.getD 0 0) rfl
        obtain ⟨ub2, uo2, hu, c1⟩ := HC.out 1 (xs.getD 1 0) rfl
        have c0 : w1.cell? ⟨ub, uo, none⟩ = some (.int .i64 (xs.getD 0 0)) := c0
        obtain ⟨e1, e2⟩ : ub2 = ub ∧ uo2 = uo := by injection hu with h1; injection h1 with h2 h3; exact ⟨h2.symm, h3.symm⟩
        subst e1 e2
        rw [show (padL xs).length = 2 from rfl] at *
        clear hb ho HC hu Z0 HPD
        have z0 : w1.cell? ⟨w.heap.size, 0, none⟩ = some (.int .i64 0) := Z1.out.cell 0
        have z1 : w1.cell? ⟨w.heap.size, 1, none⟩ = some (.int .i64 0) := Z1.out.cell 1
        have z2 : w1.cell? ⟨w.heap.size, 2, none⟩ = some (.int .i64 0) := Z1.out.cell 2
        have g0 : w1.frozen? ⟨w.heap.size, 0, none⟩ = false := Z1.out.frozen 0
        have g1 : w1.frozen? ⟨w.heap.size, 1, none⟩ = false := Z1.out.frozen 1
        have g2 : w1.frozen? ⟨w.heap.size, 2, none⟩ = false := Z1.out.frozen 2
        obtain ⟨p, hp⟩ : ∃ p, xs.getD 0 0 = p := ⟨_, rfl⟩
        obtain ⟨q, hq⟩ : ∃ q, xs.getD 1 0 = q := ⟨_, rfl⟩
        rw [hp] at c0
        rw [hq] at c1
        have HP := Lib.hid hp
        have HQ := Lib.hid hq
        clear hp hq
        go_wp2
        go_region
        go_wp2
        exact bodyPost_ret (v := .tuple #[.agg #[.int .i64 3, .int .i64 p, .int .i64 q], .int .i64 2]) (by simp [results, Tryz.results101, go_sem, z0, z1, z2]) rfl ⟨by simp only [HP.out, HQ.out], by have hb := HB1.out; (repeat (first | exact Below.refl _ _ | exact (Below.refl _ _).drew | assumption | exact below_one _ | refine Below.chain ?_ (by assumption) | refine Below.drew ?_ | refine Below.alc ?_ _ | refine below_drewN ?_ | (refine Below.setCell ?_ ?_ _) | exact Nat.le_refl _ | (simp; done) | (simp; omega)))⟩
     · skip
       by_cases e3 : s.data.toList = wLit
       · as_aux_lemma =>
          have f0 : (s.toList == [115, 104, 111, 119]) = false := by rw [Lib.toList_data]; exact beq_false_of_ne e0
          have f1 : (s.toList == [99, 108, 101, 97, 114]) = false := by rw [Lib.toList_data]; exact beq_false_of_ne e1
          have f2 : (s.toList == [100, 97, 114, 107]) = false := by rw [Lib.toList_data]; exact beq_false_of_ne e2
          have f3 : (s.toList == [108, 105, 116]) = true := by rw [Lib.toList_data, e3]; rfl
          have HM := Lib.hid (show jobR s.data.toList xs = ((4, xs.getD 0 0, xs.getD 1 0), 2) by unfold jobR kindM; rw [if_neg e0]; rw [if_neg e1]; rw [if_neg e2]; rw [if_pos e3]; rfl)
          rw [HM.out]
          unfold jobV
          clear e0 e1 e2 e3 HM
          go_enter Tryz.func101, Tryz.ntmps101
          go_wp2_with fail
          refine (HPD.out _ (below_one _)).mono ?_
          rintro e w1 ⟨u, rfl, ho, hb⟩
          have Z1 := Lib.hid (Z0.out.below hb)
          have HB1 := Lib.hid (Below.chain (below_one _) hb)
          obtain ⟨ua, uc, rfl, _, _, HC⟩ := (show Ints w1 u (padL xs) from Ints.of_own ho).parts
          obtain ⟨ub, uo, rfl, c0⟩ := HC.out 0 (xs.getD 0 0) rfl
          obtain ⟨ub2, uo2, hu, c1⟩ := HC.out 1 (xs.getD 1 0) rfl
          have c0 : w1.cell? ⟨ub, uo, none⟩ = some (.int .i64 (xs.getD 0 0)) := c0
          obtain ⟨e1, e2⟩ : ub2 = ub ∧ uo2 = uo := by injection hu with h1; injection h1 with h2 h3; exact ⟨h2.symm, h3.symm⟩
          subst e1 e2
          rw [show (padL xs).length = 2 from rfl] at *
          clear hb ho HC hu Z0 HPD
          have z0 : w1.cell? ⟨w.heap.size, 0, none⟩ = some (.int .i64 0) := Z1.out.cell 0
          have z1 : w1.cell? ⟨w.heap.size, 1, none⟩ = some (.int .i64 0) := Z1.out.cell 1
          have z2 : w1.cell? ⟨w.heap.size, 2, none⟩ = some (.int .i64 0) := Z1.out.cell 2
          have g0 : w1.frozen? ⟨w.heap.size, 0, none⟩ = false := Z1.out.frozen 0
          have g1 : w1.frozen? ⟨w.heap.size, 1, none⟩ = false := Z1.out.frozen 1
          have g2 : w1.frozen? ⟨w.heap.size, 2, none⟩ = false := Z1.out.frozen 2
          obtain ⟨p, hp⟩ : ∃ p, xs.getD 0 0 = p := ⟨_, rfl⟩
          obtain ⟨q, hq⟩ : ∃ q, xs.getD 1 0 = q := ⟨_, rfl⟩
          rw [hp] at c0
          rw [hq] at c1
          have HP := Lib.hid hp
          have HQ := Lib.hid hq
          clear hp hq
          go_wp2
          go_region
          go_wp2
          exact bodyPost_ret (v := .tuple #[.agg #[.int .i64 4, .int .i64 p, .int .i64 q], .int .i64 2]) (by simp [results, Tryz.results101, go_sem, z0, z1, z2]) rfl ⟨by simp only [HP.out, HQ.out], by have hb := HB1.out; (repeat (first | exact Below.refl _ _ | exact (Below.refl _ _).drew | assumption | exact below_one _ | refine Below.chain ?_ (by assumption) | refine Below.drew ?_ | refine Below.alc ?_ _ | refine below_drewN ?_ | (refine Below.setCell ?_ ?_ _) | exact Nat.le_refl _ | (simp; done) | (simp; omega)))⟩
       · skip
         by_cases e4 : s.data.toList = wMend
         · as_aux_lemma =>
            have f0 : (s.toList == [115, 104, 111, 119]) = false := by rw [Lib.toList_data]; exact beq_false_of_ne e0
            have f1 : (s.toList == [99, 108, 101, 97, 114]) = false := by rw [Lib.toList_data]; exact beq_false_of_ne e1
            have f2 : (s.toList == [100, 97, 114, 107]) = false := by rw [Lib.toList_data]; exact beq_false_of_ne e2
            have f3 : (s.toList == [108, 105, 116]) = false := by rw [Lib.toList_data]; exact beq_false_of_ne e3
            have f4 : (s.toList == [109, 101, 110, 100]) = true := by rw [Lib.toList_data, e4]; rfl
            have HM := Lib.hid (show jobR s.data.toList xs = ((5, xs.getD 0 0, 0), 1) by unfold jobR kindM; rw [if_neg e0]; rw [if_neg e1]; rw [if_neg e2]; rw [if_neg e3]; rw [if_pos e4]; rfl)
            rw [HM.out]
            unfold jobV
            clear e0 e1 e2 e3 e4 HM
            go_enter Tryz.func101, Tryz.ntmps101
            go_wp2_with fail
            refine (HPD.out _ (below_one _)).mono ?_
            rintro e w1 ⟨u, rfl, ho, hb⟩
            have Z1 := Lib.hid (Z0.out.below hb)
            have HB1 := Lib.hid (Below.chain (below_one _) hb)
            obtain ⟨ua, uc, rfl, _, _, HC⟩ := (show Ints w1 u (padL xs) from Ints.of_own ho).parts
            obtain ⟨ub, uo, rfl, c0⟩ := HC.out 0 (xs.getD 0 0) rfl
            obtain ⟨ub2, uo2, hu, c1⟩ := HC.out 1 (xs.getD 1 0) rfl
            have c0 : w1.cell? ⟨ub, uo, none⟩ = some (.int .i64 (xs.getD 0 0)) := c0
            obtain ⟨e1, e2⟩ : ub2 = ub ∧ uo2 = uo := by injection hu with h1; injection h1 with h2 h3; exact ⟨h2.symm, h3.symm⟩
            subst e1 e2
            rw [show (padL xs).length = 2 from rfl] at *
            clear hb ho HC hu Z0 HPD
            have z0 : w1.cell? ⟨w.heap.size, 0, none⟩ = some (.int .i64 0) := Z1.out.cell 0
            have z1 : w1.cell? ⟨w.heap.size, 1, none⟩ = some (.int .i64 0) := Z1.out.cell 1
            have z2 : w1.cell? ⟨w.heap.size, 2, none⟩ = some (.int .i64 0) := Z1.out.cell 2
            have g0 : w1.frozen? ⟨w.heap.size, 0, none⟩ = false := Z1.out.frozen 0
            have g1 : w1.frozen? ⟨w.heap.size, 1, none⟩ = false := Z1.out.frozen 1
            have g2 : w1.frozen? ⟨w.heap.size, 2, none⟩ = false := Z1.out.frozen 2
            obtain ⟨p, hp⟩ : ∃ p, xs.getD 0 0 = p := ⟨_, rfl⟩
            obtain ⟨q, hq⟩ : ∃ q, xs.getD 1 0 = q := ⟨_, rfl⟩
            rw [hp] at c0
            rw [hq] at c1
            have HP := Lib.hid hp
            have HQ := Lib.hid hq
            clear hp hq
            go_wp2
            exact bodyPost_ret (v := .tuple #[.agg #[.int .i64 5, .int .i64 p, .int .i64 0], .int .i64 1]) (by simp [results, Tryz.results101, go_sem, z0, z1, z2]) rfl ⟨by simp only [HP.out, HQ.out], by have hb := HB1.out; (repeat (first | exact Below.refl _ _ | exact (Below.refl _ _).drew | assumption | exact below_one _ | refine Below.chain ?_ (by assumption) | refine Below.drew ?_ | refine Below.alc ?_ _ | refine below_drewN ?_ | (refine Below.setCell ?_ ?_ _) | exact Nat.le_refl _ | (simp; done) | (simp; omega)))⟩
         · skip
           by_cases e5 : s.data.toList = wTurn
           · as_aux_lemma =>
              have f0 : (s.toList == [115, 104, 111, 119]) = false := by rw [Lib.toList_data]; exact beq_false_of_ne e0
              have f1 : (s.toList == [99, 108, 101, 97, 114]) = false := by rw [Lib.toList_data]; exact beq_false_of_ne e1
              have f2 : (s.toList == [100, 97, 114, 107]) = false := by rw [Lib.toList_data]; exact beq_false_of_ne e2
              have f3 : (s.toList == [108, 105, 116]) = false := by rw [Lib.toList_data]; exact beq_false_of_ne e3
              have f4 : (s.toList == [109, 101, 110, 100]) = false := by rw [Lib.toList_data]; exact beq_false_of_ne e4
              have f5 : (s.toList == [116, 117, 114, 110]) = true := by rw [Lib.toList_data, e5]; rfl
              have HM := Lib.hid (show jobR s.data.toList xs = ((6, 0, 0), 0) by unfold jobR kindM; rw [if_neg e0]; rw [if_neg e1]; rw [if_neg e2]; rw [if_neg e3]; rw [if_neg e4]; rw [if_pos e5]; rfl)
              rw [HM.out]
              unfold jobV
              clear e0 e1 e2 e3 e4 e5 HM
              go_enter Tryz.func101, Tryz.ntmps101
              go_wp2_with fail
              refine (HPD.out _ (below_one _)).mono ?_
              rintro e w1 ⟨u, rfl, ho, hb⟩
              have Z1 := Lib.hid (Z0.out.below hb)
              have HB1 := Lib.hid (Below.chain (below_one _) hb)
              obtain ⟨ua, uc, rfl, _, _, HC⟩ := (show Ints w1 u (padL xs) from Ints.of_own ho).parts
              obtain ⟨ub, uo, rfl, c0⟩ := HC.out 0 (xs.getD 0 0) rfl
              obtain ⟨ub2, uo2, hu, c1⟩ := HC.out 1 (xs.getD 1 0) rfl
              have c0 : w1.cell? ⟨ub, uo, none⟩ = some (.int .i64 (xs.getD 0 0)) := c0
              obtain ⟨e1, e2⟩ : ub2 = ub ∧ uo2 = uo := by injection hu with h1; injection h1 with h2 h3; exact ⟨h2.symm, h3.symm⟩
              subst e1 e2
              rw [show (padL xs).length = 2 from rfl] at *
              clear hb ho HC hu Z0 HPD
              have z0 : w1.cell? ⟨w.heap.size, 0, none⟩ = some (.int .i64 0) := Z1.out.cell 0
              have z1 : w1.cell? ⟨w.heap.size, 1, none⟩ = some (.int .i64 0) := Z1.out.cell 1
              have z2 : w1.cell? ⟨w.heap.size, 2, none⟩ = some (.int .i64 0) := Z1.out.cell 2
              have g0 : w1.frozen? ⟨w.heap.size, 0, none⟩ = false := Z1.out.frozen 0
              have g1 : w1.frozen? ⟨w.heap.size, 1, none⟩ = false := Z1.out.frozen 1
              have g2 : w1.frozen? ⟨w.heap.size, 2, none⟩ = false := Z1.out.frozen 2
              obtain ⟨p, hp⟩ : ∃ p, xs.getD 0 0 = p := ⟨_, rfl⟩
              obtain ⟨q, hq⟩ : ∃ q, xs.getD 1 0 = q := ⟨_, rfl⟩
              rw [hp] at c0
              rw [hq] at c1
              have HP := Lib.hid hp
              have HQ := Lib.hid hq
              clear hp hq
              go_wp2
              exact bodyPost_ret (v := .tuple #[.agg #[.int .i64 6, .int .i64 0, .int .i64 0], .int .i64 0]) (by simp [results, Tryz.results101, go_sem, z0, z1, z2]) rfl ⟨by simp only [HP.out, HQ.out], by have hb := HB1.out; (repeat (first | exact Below.refl _ _ | exact (Below.refl _ _).drew | assumption | exact below_one _ | refine Below.chain ?_ (by assumption) | refine Below.drew ?_ | refine Below.alc ?_ _ | refine below_drewN ?_ | (refine Below.setCell ?_ ?_ _) | exact Nat.le_refl _ | (simp; done) | (simp; omega)))⟩
           · skip
             by_cases e6 : s.data.toList = wMirror
             · as_aux_lemma =>
                have f0 : (s.toList == [115, 104, 111, 119]) = false := by rw [Lib.toList_data]; exact beq_false_of_ne e0
                have f1 : (s.toList == [99, 108, 101, 97, 114]) = false := by rw [Lib.toList_data]; exact beq_false_of_ne e1
                have f2 : (s.toList == [100, 97, 114, 107]) = false := by rw [Lib.toList_data]; exact beq_false_of_ne e2
                have f3 : (s.toList == [108, 105, 116]) = false := by rw [Lib.toList_data]; exact beq_false_of_ne e3
                have f4 : (s.toList == [109, 101, 110, 100]) = false := by rw [Lib.toList_data]; exact beq_false_of_ne e4
                have f5 : (s.toList == [116, 117, 114, 110]) = false := by rw [Lib.toList_data]; exact beq_false_of_ne e5
                have f6 : (s.toList == [109, 105, 114, 114, 111, 114]) = true := by rw [Lib.toList_data, e6]; rfl
                have HM := Lib.hid (show jobR s.data.toList xs = ((7, 0, 0), 0) by unfold jobR kindM; rw [if_neg e0]; rw [if_neg e1]; rw [if_neg e2]; rw [if_neg e3]; rw [if_neg e4]; rw [if_neg e5]; rw [if_pos e6]; rfl)
                rw [HM.out]
                unfold jobV
                clear e0 e1 e2 e3 e4 e5 e6 HM
                go_enter Tryz.func101, Tryz.ntmps101
                go_wp2_with fail
                refine (HPD.out _ (below_one _)).mono ?_
                rintro e w1 ⟨u, rfl, ho, hb⟩
                have Z1 := Lib.hid (Z0.out.below hb)
                have HB1 := Lib.hid (Below.chain (below_one _) hb)
                obtain ⟨ua, uc, rfl, _, _, HC⟩ := (show Ints w1 u (padL xs) from Ints.of_own ho).parts
                obtain ⟨ub, uo, rfl, c0⟩ := HC.out 0 (xs.getD 0 0) rfl
                obtain ⟨ub2, uo2, hu, c1⟩ := HC.out 1 (xs.getD 1 0) rfl
                have c0 : w1.cell? ⟨ub, uo, none⟩ = some (.int .i64 (xs.getD 0 0)) := c0
                obtain ⟨e1, e2⟩ : ub2 = ub ∧ uo2 = uo := by injection hu with h1; injection h1 with h2 h3; exact ⟨h2.symm, h3.symm⟩
                subst e1 e2
                rw [show (padL xs).length = 2 from rfl] at *
                clear hb ho HC hu Z0 HPD
                have z0 : w1.cell? ⟨w.heap.size, 0, none⟩ = some (.int .i64 0) := Z1.out.cell 0
                have z1 : w1.cell? ⟨w.heap.size, 1, none⟩ = some (.int .i64 0) := Z1.out.cell 1
                have z2 : w1.cell? ⟨w.heap.size, 2, none⟩ = some (.int .i64 0) := Z1.out.cell 2
                have g0 : w1.frozen? ⟨w.heap.size, 0, none⟩ = false := Z1.out.frozen 0
                have g1 : w1.frozen? ⟨w.heap.size, 1, none⟩ = false := Z1.out.frozen 1
                have g2 : w1.frozen? ⟨w.heap.size, 2, none⟩ = false := Z1.out.frozen 2
                obtain ⟨p, hp⟩ : ∃ p, xs.getD 0 0 = p := ⟨_, rfl⟩
                obtain ⟨q, hq⟩ : ∃ q, xs.getD 1 0 = q := ⟨_, rfl⟩
                rw [hp] at c0
                rw [hq] at c1
                have HP := Lib.hid hp
                have HQ := Lib.hid hq
                clear hp hq
                go_wp2
                exact bodyPost_ret (v := .tuple #[.agg #[.int .i64 7, .int .i64 0, .int .i64 0], .int .i64 0]) (by simp [results, Tryz.results101, go_sem, z0, z1, z2]) rfl ⟨by simp only [HP.out, HQ.out], by have hb := HB1.out; (repeat (first | exact Below.refl _ _ | exact (Below.refl _ _).drew | assumption | exact below_one _ | refine Below.chain ?_ (by assumption) | refine Below.drew ?_ | refine Below.alc ?_ _ | refine below_drewN ?_ | (refine Below.setCell ?_ ?_ _) | exact Nat.le_refl _ | (simp; done) | (simp; omega)))⟩
             · skip
               as_aux_lemma =>
                have f0 : (s.toList == [115, 104, 111, 119]) = false := by rw [Lib.toList_data]; exact beq_false_of_ne e0
                have f1 : (s.toList == [99, 108, 101, 97, 114]) = false := by rw [Lib.toList_data]; exact beq_false_of_ne e1
                have f2 : (s.toList == [100, 97, 114, 107]) = false := by rw [Lib.toList_data]; exact beq_false_of_ne e2
                have f3 : (s.toList == [108, 105, 116]) = false := by rw [Lib.toList_data]; exact beq_false_of_ne e3
                have f4 : (s.toList == [109, 101, 110, 100]) = false := by rw [Lib.toList_data]; exact beq_false_of_ne e4
                have f5 : (s.toList == [116, 117, 114, 110]) = false := by rw [Lib.toList_data]; exact beq_false_of_ne e5
                have f6 : (s.toList == [109, 105, 114, 114, 111, 114]) = false := by rw [Lib.toList_data]; exact beq_false_of_ne e6
                have HM := Lib.hid (show jobR s.data.toList xs = ((0, 0, 0), (-1)) by unfold jobR kindM; rw [if_neg e0]; rw [if_neg e1]; rw [if_neg e2]; rw [if_neg e3]; rw [if_neg e4]; rw [if_neg e5]; rw [if_neg e6])
                rw [HM.out]
                unfold jobV
                clear e0 e1 e2 e3 e4 e5 e6 HM
                go_enter Tryz.func101, Tryz.ntmps101
                go_wp2_with fail
                refine (HPD.out _ (below_one _)).mono ?_
                rintro e w1 ⟨u, rfl, ho, hb⟩
                have Z1 := Lib.hid (Z0.out.below hb)
                have HB1 := Lib.hid (Below.chain (below_one _) hb)
                obtain ⟨ua, uc, rfl, _, _, HC⟩ := (show Ints w1 u (padL xs) from Ints.of_own ho).parts
                obtain ⟨ub, uo, rfl, c0⟩ := HC.out 0 (xs.getD 0 0) rfl
                obtain ⟨ub2, uo2, hu, c1⟩ := HC.out 1 (xs.getD 1 0) rfl
                have c0 : w1.cell? ⟨ub, uo, none⟩ = some (.int .i64 (xs.getD 0 0)) := c0
                obtain ⟨e1, e2⟩ : ub2 = ub ∧ uo2 = uo := by injection hu with h1; injection h1 with h2 h3; exact ⟨h2.symm, h3.symm⟩
                subst e1 e2
                rw [show (padL xs).length = 2 from rfl] at *
                clear hb ho HC hu Z0 HPD
                have z0 : w1.cell? ⟨w.heap.size, 0, none⟩ = some (.int .i64 0) := Z1.out.cell 0
                have z1 : w1.cell? ⟨w.heap.size, 1, none⟩ = some (.int .i64 0) := Z1.out.cell 1
                have z2 : w1.cell? ⟨w.heap.size, 2, none⟩ = some (.int .i64 0) := Z1.out.cell 2
                have g0 : w1.frozen? ⟨w.heap.size, 0, none⟩ = false := Z1.out.frozen 0
                have g1 : w1.frozen? ⟨w.heap.size, 1, none⟩ = false := Z1.out.frozen 1
                have g2 : w1.frozen? ⟨w.heap.size, 2, none⟩ = false := Z1.out.frozen 2
                obtain ⟨p, hp⟩ : ∃ p, xs.getD 0 0 = p := ⟨_, rfl⟩
                obtain ⟨q, hq⟩ : ∃ q, xs.getD 1 0 = q := ⟨_, rfl⟩
                rw [hp] at c0
                rw [hq] at c1
                have HP := Lib.hid hp
                have HQ := Lib.hid hq
                clear hp hq
                go_wp2
                exact bodyPost_ret (v := .tuple #[.agg #[.int .i64 0, .int .i64 0, .int .i64 0], .int .i64 (-1)]) (by simp [results, Tryz.results101, go_sem, z0, z1, z2]) rfl ⟨by simp only [HP.out, HQ.out], by have hb := HB1.out; (repeat (first | exact Below.refl _ _ | exact (Below.refl _ _).drew | assumption | exact below_one _ | refine Below.chain ?_ (by assumption) | refine Below.drew ?_ | refine Below.alc ?_ _ | refine below_drewN ?_ | (refine Below.setCell ?_ ?_ _) | exact Nat.le_refl _ | (simp; done) | (simp; omega)))⟩
theorem take_map {α β : Type} (f : α → β) {xs : List α} {k : Nat} {x : α} (h : xs[k]? = some x) : (xs.take (k + 1)).map f = (xs.take k).map f ++ [f x] := by
 rw [take_snoc h, List.map_append]; rfl
set_option maxHeartbeats 1000000 in
theorem rowText_c (v : Value) (xs : List Int) (w : World) (hv : Ints w v xs) (hl : xs.length ≤ 1000) (hx : ∀ x ∈ xs, 0 ≤ x ∧ x ≤ 127) :
 Calls Tryz.prog 59 #[v] w fun e w' => e = .returned (.string (bs (rowTx xs))) ∧ Below w.heap.size w w' := by
 obtain ⟨i, hi, hz0, hz1, hz2⟩ := info_parts info_strx
 obtain ⟨a, c, rfl, _, _, HC⟩ := hv.parts
 have HX := Lib.hid hx
 clear hx hv
 go_enter Tryz.func59, Tryz.ntmps59
 go_wp2
 go_loopw [3, 5, 8] (fun o _ j wr => ∃ k : Nat, k ≤ xs.length ∧ j = .int .i64 (k : Int) ∧ wr.ownsRow w.heap.size 9 1 o k (strsV ((xs.take k).map rowW)) ∧ Below w.heap.size w wr) (fun _ _ j _ => xs.length + 1 - (intOf j).toNat)
 case atStart => exact ⟨0, by omega, rfl, World.ownsRow_nil _ _ _ _, Below.refl _ _⟩
 case round =>
  obtain ⟨k, hk, rfl, ho, hb⟩ := hrel
  have HO := Lib.hid ho
  have HB := Lib.hid hb
  clear ho hb
  by_cases hlt : k < xs.length
  · have hd : decide ((k : Int) < (xs.length : Int)) = true := by simp; omega
    obtain ⟨x, hxx⟩ := elem_at hlt
    obtain ⟨b, off, rfl, hc0⟩ := HC.out k x hxx.out
    have hc := cell_later HB.out hc0
    obtain ⟨x0, x1⟩ := HX.out x (List.mem_of_getElem? hxx.out)
    have HS := Lib.hid (take_map rowW hxx.out)
    clear hc0
    generalize hcur : (xs.take k).map rowW = cur at *
    clear hcur
    by_cases hz : x = 0
    · subst hz
      have HW : Hid (rowW 0 = [45]) := rfl
      rw [HW.out] at HS
      go_wp2_with (at_builtin; refine wpList_append_own_at _ rfl _ _ 48 rfl w.heap.size 9 i (.string ⟨#[]⟩) 1 16 Tryz.underlying48 hi hz0 hz1 hz2 rfl (by decide) _ k (strsV cur) rfl (HO.out.alloc _) ⟨wr.heap.size, 0, none⟩ 1 1 [.string ⟨#[45]⟩] rfl rfl (news_new _ [.string ⟨#[45]⟩] _) (by simp [Value.oneCell']) (by unfold maxLen; omega) (by omega) (by have := HB.out.size; simp; omega) ?_)
      intro v' w3 ho5 hg5 _ _
      have hb7 : Below w.heap.size w w3 := (Below.alc HB.out _).grown hg5 (by have := HB.out.size; simp; omega) (fun g hg => (HO.out.lt g hg).1)
      have HO5 := Lib.hid ho5
      have HB7 := Lib.hid hb7
      clear ho5 hg5 hb7
      go_wp2
      go_roundw
      case rel => exact ⟨k + 1, by omega, by go_num, ownsRow_cast HO5.out rfl (by rw [HS.out, strsV_snoc] <;> rfl), HB7.out⟩
      case measure => first | (simp [intOf]; done) | (simp [intOf]; omega)
    · have HW : Hid (rowW x = barsTo x 7) := by show _ = _; unfold rowW; rw [if_neg hz]
      rw [HW.out] at HS
      have hzz : (x == 0) = false := by simp; exact hz
      go_wp2_with fail
      refine (barsOf_c x x0 x1 _).mono ?_
      rintro e w2 ⟨rfl, rfl⟩
      go_wp2_with (at_builtin; refine wpList_append_own_at _ rfl _ _ 48 rfl w.heap.size 9 i (.string ⟨#[]⟩) 1 16 Tryz.underlying48 hi hz0 hz1 hz2 rfl (by decide) _ k (strsV cur) rfl (HO.out.alloc _) ⟨wr.heap.size, 0, none⟩ 1 1 [.string (bs (barsTo x 7))] rfl rfl (news_new _ [.string (bs (barsTo x 7))] _) (by simp [Value.oneCell']) (by unfold maxLen; omega) (by omega) (by have := HB.out.size; simp; omega) ?_)
      intro v' w3 ho5 hg5 _ _
      have hb7 : Below w.heap.size w w3 := (Below.alc HB.out _).grown hg5 (by have := HB.out.size; simp; omega) (fun g hg => (HO.out.lt g hg).1)
      have HO5 := Lib.hid ho5
      have HB7 := Lib.hid hb7
      clear ho5 hg5 hb7
      go_wp2
      go_roundw
      case rel => exact ⟨k + 1, by omega, by go_num, ownsRow_cast HO5.out rfl (by rw [HS.out, strsV_snoc] <;> rfl), HB7.out⟩
      case measure => first | (simp [intOf]; done) | (simp [intOf]; omega)
  · obtain rfl : k = xs.length := by omega
    have hd : decide ((xs.length : Int) < (xs.length : Int)) = false := by simp
    have hsl := Sl.of_own HO.out
    obtain ⟨a2, c2, rfl, _⟩ := hsl.slice
    have HJ := Lib.hid (Join_c _ ((xs.take xs.length).map rowW) wr (by rw [List.length_map, List.take_length]; rw [List.take_length] at hsl; exact hsl) (by rw [List.length_map, List.take_length]; omega) (fun y hy => by obtain ⟨z, _, rfl⟩ := List.mem_map.1 hy; have := rowW_len z; omega))
    rw [List.take_length] at HJ
    clear hsl
    go_wp2_with fail
    refine HJ.out.mono ?_
    rintro e w4 ⟨rfl, hb⟩
    have HB4 := Lib.hid (Below.chain HB.out hb)
    clear hb
    go_wp2
    go_ret
    exact ⟨rfl, HB4.out⟩
set_option maxHeartbeats 1000000 in
theorem listText_c (v : Value) (xs : List Int) (w : World) (hv : Ints w v xs) (hl : xs.length ≤ 1000) (hx : ∀ x ∈ xs, 0 ≤ x ∧ x ≤ 999999) (ht : Tab w) :
 Calls Tryz.prog 194 #[v] w fun e w' => e = .returned (.string (bs (listT xs))) ∧ Below w.heap.size w w' := by
 obtain ⟨i, hi, hz0, hz1, hz2⟩ := info_parts info_strx
 obtain ⟨a, c, rfl, _, _, HC⟩ := hv.parts
 have HX := Lib.hid hx
 clear hx hv
 have HT := Lib.hid ht
 clear ht
 by_cases hnil : xs = []
 · subst hnil
   go_enter Tryz.func194, Tryz.ntmps194
   go_wp2
   go_ret
   exact ⟨rfl, Below.refl _ _⟩
 have hpos : 0 < xs.length := List.length_pos_iff.2 hnil
 have hne : ((xs.length : Int) == 0) = false := by simp; omega
 have HN := Lib.hid hnil
 clear hnil
 go_enter Tryz.func194, Tryz.ntmps194
 go_wp2
 go_loopw [3, 5, 11] (fun o _ j wr => ∃ k : Nat, k ≤ xs.length ∧ j = .int .i64 (k : Int) ∧ wr.ownsRow w.heap.size 9 1 o k (strsV ((xs.take k).map Lib.itoa)) ∧ Below w.heap.size w wr) (fun _ _ j _ => xs.length + 1 - (intOf j).toNat)
 case atStart => exact ⟨0, by omega, rfl, World.ownsRow_nil _ _ _ _, Below.refl _ _⟩
 case round =>
  obtain ⟨k, hk, rfl, ho, hb⟩ := hrel
  have HO := Lib.hid ho
  have HB := Lib.hid hb
  clear ho hb
  by_cases hlt : k < xs.length
  · have hd : decide ((k : Int) < (xs.length : Int)) = true := by simp; omega
    obtain ⟨x, hxx⟩ := elem_at hlt
    obtain ⟨b, off, rfl, hc0⟩ := HC.out k x hxx.out
    have hc := cell_later HB.out hc0
    obtain ⟨x0, x1⟩ := HX.out x (List.mem_of_getElem? hxx.out)
    have HS := Lib.hid (take_map Lib.itoa hxx.out)
    clear hc0
    generalize hcur : (xs.take k).map Lib.itoa = cur at *
    clear hcur
    go_wp2_with fail
    refine (Itoa_c x x0 (by omega) _ (HT.out.on HB.out)).mono ?_
    rintro e w2 ⟨rfl, hb2⟩
    have HO2 := Lib.hid (own_keep HO.out hb2)
    have HB2 := Lib.hid (Below.chain HB.out hb2)
    clear hb2 HO HB
    have HO := HO2
    have HB := HB2
    clear HO2 HB2
    go_wp2_with (at_builtin; refine wpList_append_own_at _ rfl _ _ 48 rfl w.heap.size 9 i (.string ⟨#[]⟩) 1 16 Tryz.underlying48 hi hz0 hz1 hz2 rfl (by decide) _ k (strsV cur) rfl (HO.out.alloc _) ⟨w2.heap.size, 0, none⟩ 1 1 [.string (bs (Lib.itoa x))] rfl rfl (news_new _ [.string (bs (Lib.itoa x))] _) (by simp [Value.oneCell']) (by unfold maxLen; omega) (by omega) (by have := HB.out.size; simp; omega) ?_)
    intro v' w3 ho5 hg5 _ _
    have hb7 : Below w.heap.size w w3 := (Below.alc HB.out _).grown hg5 (by have := HB.out.size; simp; omega) (fun g hg => (HO.out.lt g hg).1)
    have HO5 := Lib.hid ho5
    have HB7 := Lib.hid hb7
    clear ho5 hg5 hb7
    go_wp2
    go_roundw
    case rel => exact ⟨k + 1, by omega, by go_num, ownsRow_cast HO5.out rfl (by rw [HS.out, strsV_snoc] <;> rfl), HB7.out⟩
    case measure => first | (simp [intOf]; done) | (simp [intOf]; omega)
  · obtain rfl : k = xs.length := by omega
    have hd : decide ((xs.length : Int) < (xs.length : Int)) = false := by simp
    have hsl := Sl.of_own HO.out
    obtain ⟨a2, c2, rfl, _⟩ := hsl.slice
    have HJ := Lib.hid (Join_c _ ((xs.take xs.length).map Lib.itoa) wr (by rw [List.length_map, List.take_length]; rw [List.take_length] at hsl; exact hsl) (by rw [List.length_map, List.take_length]; omega) (fun y hy => by obtain ⟨z, hz, rfl⟩ := List.mem_map.1 hy; have hz2 := HX.out z (List.mem_of_mem_take hz); have := itoa_len hz2.1 (by omega); omega))
    rw [List.take_length] at HJ
    clear hsl
    go_wp2_with fail
    refine HJ.out.mono ?_
    rintro e w4 ⟨rfl, hb⟩
    have HB4 := Lib.hid (Below.chain HB.out hb)
    clear hb
    go_wp2
    go_ret
    exact ⟨by unfold listT; rw [if_neg HN.out]; rfl, HB4.out⟩
theorem back_chain {w a b : World} (k : Below a.heap.size a b) (h : Below w.heap.size w a) : Below w.heap.size w b := Below.chain h k
theorem reportText_c (b : Bool) (w : World) : Calls Tryz.prog 149 #[.bool b] w fun e w' => e = .returned (.string (bs (yesT b))) ∧ w = w' := by
 cases b
 · go_enter Tryz.func149, Tryz.ntmps149
   go_wp2
   go_ret
   exact ⟨rfl, rfl⟩
 · go_enter Tryz.func149, Tryz.ntmps149
   go_wp2
   go_ret
   exact ⟨rfl, rfl⟩
theorem ItoaN_c (n : Nat) (h1 : n ≤ 999999) (w : World) (ht : Tab w) : Calls Tryz.prog 116 #[.int .i64 (n : Int)] w fun e w' => e = .returned (.string (bs (Lib.decDigits n))) ∧ Below w.heap.size w w' := by
 have h := ItoaI_c (n : Int) (by omega) (by omega) w ht
 rw [itoa_nat] at h; exact h
set_option maxHeartbeats 1000000 in
theorem fractionText_c (a b : Nat) (ha : a ≤ 999999) (hb : b ≤ 999999) (w : World) (ht : Tab w) :
 Calls Tryz.prog 151 #[.agg #[.int .i64 (a : Int), .int .i64 (b : Int)]] w fun e w' => e = .returned (.string (bs (partT a b))) ∧ Below w.heap.size w w' := by
 have q0 : (w.alloc (.cells #[.int .i64 (a : Int), .int .i64 (b : Int)] 174)).cell? ⟨w.heap.size, 0, none⟩ = some (.int .i64 (a : Int)) := (Bk.new w 174 #[.int .i64 (a : Int), .int .i64 (b : Int)]).cell 0
 have q1 : (w.alloc (.cells #[.int .i64 (a : Int), .int .i64 (b : Int)] 174)).cell? ⟨w.heap.size, 1, none⟩ = some (.int .i64 (b : Int)) := (Bk.new w 174 #[.int .i64 (a : Int), .int .i64 (b : Int)]).cell 1
 have HB0 := Lib.hid (below_one (w := w) (.cells #[.int .i64 (a : Int), .int .i64 (b : Int)] 174))
 have hsa := dec_size ha
 have hsb := dec_size hb
 have HE := Lib.hid (show bs (Lib.decDigits a) ++ ⟨#[47]⟩ ++ bs (Lib.decDigits b) = bs (partT a b) from ByteArray.ext (by simp [bs, partT]))
 have HT := Lib.hid (ht.on HB0.out)
 have HA := Lib.hid (fun W h => ItoaN_c a ha W h)
 have HB := Lib.hid (fun W h => ItoaN_c b hb W h)
 clear ht
 generalize bs (Lib.decDigits a) = X at *
 generalize bs (Lib.decDigits b) = Y at *
 have s1 : ¬ 9223372036854775807 < X.size + 1 := by omega
 have s2 : ¬ 9223372036854775807 < X.size + 1 + Y.size := by omega
 go_enter Tryz.func151, Tryz.ntmps151
 go_wp2_with fail
 generalize World.alloc w (.cells #[.int .i64 (a : Int), .int .i64 (b : Int)] 174) = wz at *
 refine wp_region_noPanic ?_
 refine wp_region_held_drew (S := fun w' : World => Below wz.heap.size wz w') (by kernel_rfl) (Below.refl _ _).drew (fun hHeld => ?_)
 refine' tkY 0 hHeld ?r_1
 try simp only [Act.put, xqA, xqB, xqC]
 refine' tkX 1 hHeld ?y_2 ?r_2
 case y_2 => exact Or.inl ⟨by rfl, by (intro w hSw; have h0 := cell_later hSw q0; have h1 := cell_later hSw q1; go_simp; first | done | with_reducible rfl)⟩
 try simp only [Act.put, xqA, xqB, xqC]
 refine' tkY 4 hHeld ?r_3
 try simp only [Act.put, xqA, xqB, xqC]
 refine' tkX 5 hHeld ?y_4 ?r_4
 case y_4 => exact Or.inl ⟨by rfl, by (intro w hSw; have h0 := cell_later hSw q0; have h1 := cell_later hSw q1; go_simp; first | done | with_reducible rfl)⟩
 try simp only [Act.put, xqA, xqB, xqC]
 refine wpAnyH_ready (rs := [2]) (by kernel_rfl) (by simp) ?_
 refine' AllReadyH.cons (o := _) ?e_5 ?st_5 AllReadyH.nil
 case e_5 => (simp only [xeA, xeB, xeC]; exact rfl)
 intro K hK
 go_simp
 have lB := hHeld
 refine (HA.out _ (HT.out.on lB)).mono ?_
 rintro e c1 ⟨rfl, hb1⟩
 go_wp2_with fail
 refine hK.out _ _ (back_chain hb1 lB) (fun hHeld => ?_)
 clear lB hb1
 clear hK K
 try simp only [Act.put, xqA, xqB, xqC]
 refine' tkY 3 hHeld ?r_6
 try simp only [Act.put, xqA, xqB, xqC]
 refine wpAnyH_ready (rs := [6]) (by kernel_rfl) (by simp) ?_
 refine' AllReadyH.cons (o := _) ?e_7 ?st_7 AllReadyH.nil
 case e_7 => (simp only [xeA, xeB, xeC]; exact rfl)
 intro K hK
 go_simp
 have lB := hHeld
 refine (HB.out _ (HT.out.on lB)).mono ?_
 rintro e c2 ⟨rfl, hb2⟩
 go_wp2_with fail
 refine hK.out _ _ (back_chain hb2 lB) (fun hHeld => ?_)
 clear lB hb2
 clear hK K
 try simp only [Act.put, xqA, xqB, xqC]
 refine' tkY 7 hHeld ?r_8
 try simp only [Act.put, xqA, xqB, xqC]
 refine' tkY 8 hHeld ?r_9
 try simp only [Act.put, xqA, xqB, xqC]
 refine wpAnyH_done (by kernel_rfl) ?_ _
 refine NoPanic.normal ?_
 have HBZ := Lib.hid (Below.chain HB0.out hHeld)
 clear hHeld
 go_wp2
 go_ret
 exact ⟨by rw [HE.out]; rfl, HBZ.out⟩
theorem Index_c (v : Value) (xs : List Int) (x : Int) (w : World) (hv : Ints w v xs) :
 Calls Tryz.prog 113 #[v, .int .i64 x] w fun e w' => e = .returned (.int .i64 (firstAt (fun y => decide (x = y)) xs)) ∧ w = w' := by
 obtain ⟨a, c, rfl, hc1, hc2, HC⟩ := hv.parts
 have hlen := hv.le
 clear hv
 go_enter Tryz.func113, Tryz.ntmps113
 go_wp2
 go_loopw [5, 8] (fun _ i wr => ∃ k : Nat, k ≤ xs.length ∧ i = .int .i64 k ∧ Hid (∀ j y, j < k → xs[j]? = some y → decide (x = y) = false) ∧ w = wr) (fun _ i _ => xs.length + 1 - (intOf i).toNat)
 case atStart => exact ⟨0, by omega, rfl, (fun j y hj => by omega), by trivial⟩
 case round =>
  obtain ⟨k, hk, rfl, hbef, rfl⟩ := hrel
  by_cases hlt : k < xs.length
  · have hd : decide ((k : Int) < (xs.length : Int)) = true := by simp; omega
    obtain ⟨y, hy⟩ := elem_at hlt
    obtain ⟨b, off, rfl, g0⟩ := HC.out k y hy.out
    by_cases hxy : x = y
    · subst hxy
      have HV := Lib.hid (firstAt_some (p := fun y => decide (x = y)) hy.out (by simp) hbef.out)
      have hee : (x == x) = true := by simp
      go_wp2
      go_ret
      exact ⟨by rw [HV.out]; rfl, rfl⟩
    · have hee : (x == y) = false := by simp; exact hxy
      have HX := Lib.hid hxy
      clear hxy
      go_wp2
      go_roundw
      case rel => exact ⟨k + 1, by omega, by go_num, (fun j z hj hz => by
       by_cases hj2 : j < k
       · exact hbef.out j z hj2 hz
       · obtain rfl : j = k := by omega
         rw [hy.out] at hz; obtain rfl := Option.some.inj hz; exact decide_eq_false HX.out), by trivial⟩
      case measure => first | (simp [intOf]; done) | (simp [intOf]; omega)
  · have hd : decide ((k : Int) < (xs.length : Int)) = false := by simp; omega
    have HV := Lib.hid (firstAt_none (p := fun y => decide (x = y)) (by omega) hbef.out)
    go_wp2
    go_ret
    exact ⟨by rw [HV.out]; rfl, rfl⟩
theorem digs_at {j : Nat} {y : Int} (h : dig[j]? = some y) : j < 10 ∧ y = dg (j : Int) := by
 have hl := (List.getElem?_eq_some_iff.1 h).1
 refine ⟨hl, ?_⟩
 unfold dg
 rw [Int.toNat_natCast, List.getD_eq_getElem?_getD, h]; rfl
theorem digs_get {j : Nat} (h : j < 10) : dig[j]? = some (dg (j : Int)) := by
 have hl : j < dig.length := h
 unfold dg
 rw [Int.toNat_natCast, List.getD_eq_getElem?_getD, List.getElem?_eq_getElem hl]; rfl
theorem first_dig (c : Int) : firstAt (fun y => decide (c = y)) dig = dgI c := by
 unfold dgI
 cases h : digO c with
 | none =>
  have hn : ∀ (j : Nat) y, j < 10 → dig[j]? = some y → decide (c = y) = false := fun j y hj hy => by
   obtain ⟨_, rfl⟩ := digs_at hy
   unfold digO at h
   rw [List.find?_eq_none] at h
   have := h j (by simpa using hj)
   exact decide_eq_false fun e => this (by simp [e])
  exact firstAt_none (by decide) hn
 | some d =>
  unfold digO at h
  rw [List.find?_eq_some_iff_getElem] at h
  obtain ⟨h1, i, hi, he, hb⟩ := h
  simp only [List.getElem_range] at he
  subst he
  have hi10 : i < 10 := by simpa using hi
  exact firstAt_some (digs_get hi10) (by simp at h1; simp [h1]) (fun j y hj hy => by
   obtain ⟨hj10, rfl⟩ := digs_at hy
   have := hb j hj
   simp at this
   exact decide_eq_false fun e => this e.symm)
theorem ints_bk {w : World} {g t : Nat} {xs : List Int} (h : Bk w g t (xs.map (Value.int .i64)).toArray) (hl : xs.length ≤ 1000) : Ints w (.slice (some ⟨g, 0, none⟩) xs.length xs.length) xs :=
 ⟨_, _, rfl, Nat.le_refl _, by unfold maxLen; omega, by simp, fun _ => ⟨g, 0, rfl, fun j hj => by rw [Nat.zero_add, h.cell j]; simp⟩⟩
theorem digitOf_c (c : Int) (w : World) : Calls Tryz.prog 60 #[.int .i64 c] w fun e w' => e = .returned (.int .i64 (dgI c)) ∧ Below w.heap.size w w' := by
 have HD := Lib.hid (first_dig c)
 go_enter Tryz.func60, Tryz.ntmps60
 go_wp2_with fail
 refine (digitCells_c _).mono ?_
 rintro e w1 ⟨rfl, hb1⟩
 have HB := Lib.hid (Below.alc hb1 (.cells #[.int .i64 63, .int .i64 6, .int .i64 91, .int .i64 79, .int .i64 102, .int .i64 109, .int .i64 125, .int .i64 7, .int .i64 127, .int .i64 111] 140))
 have HI := Lib.hid (ints_bk (xs := dig) (Bk.new w1 140 #[.int .i64 63, .int .i64 6, .int .i64 91, .int .i64 79, .int .i64 102, .int .i64 109, .int .i64 125, .int .i64 7, .int .i64 127, .int .i64 111]) (by decide))
 clear hb1
 unfold digA
 go_wp2_with fail
 refine (Index_c _ dig c _ HI.out).mono ?_
 rintro e w2 ⟨rfl, rfl⟩
 rw [HD.out]
 go_wp2
 go_ret
 exact ⟨rfl, HB.out⟩
def numV (xs : List Int) : Value := .tuple #[.int .i64 (((numO xs).getD 0 : Nat) : Int), .bool (numO xs).isSome]
theorem numV_no {xs : List Int} (h : numO xs = none) : numV xs = .tuple #[.int .i64 0, .bool false] := by unfold numV; rw [h]; rfl
theorem numV_yes {xs : List Int} {n : Nat} (h : numO xs = some n) : numV xs = .tuple #[.int .i64 (n : Int), .bool true] := by unfold numV; rw [h]; rfl
theorem num_step {xs : List Int} {k m : Nat} {x : Int} (hx : xs[k]? = some x) (hm : numTo (xs.take k) = some m) : numTo (xs.take (k + 1)) = (digO x).map fun d => 10 * m + d := by
 rw [take_snoc hx, numTo_snoc, hm]; rfl
theorem num_fail {xs : List Int} {k m : Nat} {x : Int} (hx : xs[k]? = some x) (hm : numTo (xs.take k) = some m) (hd : digO x = none) : numO xs = none := by
 have h := num_step hx hm
 rw [hd] at h
 have h2 := numTo_stop (t := xs.drop (k + 1)) h
 rw [List.take_append_drop] at h2
 unfold numO
 split
 · rfl
 · exact h2
-- NUMBERS
set_option maxHeartbeats 1000000 in
theorem NumberOf_c (v : Value) (xs : List Int) (w : World) (hv : Ints w v xs) (hr : rowB xs = true) :
 Calls Tryz.prog 17 #[v] w fun e w' => e = .returned (numV xs) ∧ Below w.heap.size w w' := by
 have hn6 : xs.length ≤ 6 := rowB_le hr
 have HR := Lib.hid (IsRow_c v xs w hv)
 rw [hr] at HR
 obtain ⟨a, c, rfl, _, _, HC⟩ := hv.parts
 clear hv hr
 by_cases hnil : xs = []
 · subst hnil
   go_enter Tryz.func17, Tryz.ntmps17
   go_wp2_with fail
   refine HR.out.mono ?_
   rintro e w1 ⟨rfl, hb1⟩
   have HB1 := Lib.hid hb1
   clear hb1
   go_wp2
   exact bodyPost_ret (v := .tuple #[.int .i64 0, .bool false]) (by simp [results, Tryz.results17, go_sem]) rfl ⟨rfl, HB1.out⟩
 have hpos : 0 < xs.length := List.length_pos_iff.2 hnil
 have hne : ((xs.length : Int) == 0) = false := by simp; omega
 have HNE := Lib.hid hnil
 clear hnil
 go_enter Tryz.func17, Tryz.ntmps17
 go_wp2_with fail
 refine HR.out.mono ?_
 rintro e w1 ⟨rfl, hb1⟩
 have HB1 := Lib.hid hb1
 clear hb1
 go_wp2
 go_loopw [4, 6, 7, 18] (fun n _ _ i wr => ∃ k m : Nat, k ≤ xs.length ∧ i = .int .i64 (k : Int) ∧ n = .int .i64 (m : Int) ∧ Hid (numTo (xs.take k) = some m) ∧ m ≤ 1000000 ∧ Below w.heap.size w wr) (fun _ _ _ i _ => xs.length + 1 - (intOf i).toNat)
 case atStart => exact ⟨0, 0, by omega, rfl, rfl, rfl, by omega, HB1.out⟩
 case round =>
  obtain ⟨k, m, hk, rfl, rfl, hnum, hm6, hb⟩ := hrel
  have HB := Lib.hid hb
  clear hb
  by_cases hlt : k < xs.length
  · have hd : decide ((k : Int) < (xs.length : Int)) = true := by simp; omega
    obtain ⟨x, hxx⟩ := elem_at hlt
    obtain ⟨b, off, rfl, hc0⟩ := HC.out k x hxx.out
    have hc := cell_later HB.out hc0
    have HL := Lib.hid (fun W => digitOf_c x W)
    have HS := Lib.hid (num_step hxx.out hnum.out)
    have hml : (xs.take k).length ≤ 5 := by rw [List.length_take]; omega
    have hmb : m < 1000000 := by
     have h1 := numTo_lt _ m hnum.out
     have h2 : 10 ^ (xs.take k).length ≤ 10 ^ 5 := Nat.pow_le_pow_right (by decide) hml
     omega
    clear hc0 hml
    cases hdx : digO x with
    | none =>
     have HV := Lib.hid (numV_no (num_fail hxx.out hnum.out hdx))
     have HI := Lib.hid (show dgI x = -1 by unfold dgI; rw [hdx])
     clear hdx
     go_wp2_with fail
     refine (HL.out _).mono ?_
     rintro e w2 ⟨rfl, hb2⟩
     rw [HI.out]
     have HB2 := Lib.hid (Below.chain HB.out hb2)
     clear hb2
     go_wp2
     exact bodyPost_ret (v := .tuple #[.int .i64 0, .bool false]) (by simp [results, Tryz.results17, go_sem]) rfl ⟨by rw [HV.out], HB2.out⟩
    | some d =>
     have hd10 := digO_lt hdx
     have HI := Lib.hid (show dgI x = (d : Int) by unfold dgI; rw [hdx])
     have HS2 : Hid (numTo (xs.take (k + 1)) = some (10 * m + d)) := by show _ = _; rw [HS.out, hdx]; rfl
     have hmb2 : 10 * m + d ≤ 1000000 := by
      have h1 := numTo_lt _ _ HS2.out
      have h2 : 10 ^ (xs.take (k + 1)).length ≤ 10 ^ 6 := Nat.pow_le_pow_right (by decide) (by rw [List.length_take]; omega)
      omega
     have hw1 : IntKind.i64.wrap (10 * (m : Int)) = 10 * (m : Int) := IntWalk.i64_in _ (by omega)
     have hw2 : IntKind.i64.wrap (10 * (m : Int) + (d : Int)) = 10 * (m : Int) + (d : Int) := IntWalk.i64_in _ (by omega)
     clear hdx
     go_wp2_with fail
     refine (HL.out _).mono ?_
     rintro e w2 ⟨rfl, hb2⟩
     rw [HI.out]
     have HB2 := Lib.hid (Below.chain HB.out hb2)
     clear hb2
     go_wp2
     go_roundw
     case rel => exact ⟨k + 1, 10 * m + d, by omega, by go_num, by congr 1, HS2, hmb2, HB2.out⟩
     case measure => first | (simp [intOf]; done) | (simp [intOf]; omega)
  · obtain rfl : k = xs.length := by omega
    have hd : decide ((xs.length : Int) < (xs.length : Int)) = false := by simp
    have HN : Hid (numTo xs = some m) := by show _ = _; have := hnum.out; rw [List.take_length] at this; exact this
    have HV := Lib.hid (numV_yes (xs := xs) (n := m) (by unfold numO; rw [if_neg HNE.out]; exact HN.out))
    go_wp2
    exact bodyPost_ret (v := .tuple #[.int .i64 (m : Int), .bool true]) (by simp [results, Tryz.results17, go_sem]) rfl ⟨by rw [HV.out], HB.out⟩
end Go.Proofs.YtohgjfdbnkjefaaGreatDoor
namespace Go.Proofs.YtohgjfdbnkjefaaGreatDoor
open Go.RowKit
set_option linter.unusedVariables false
set_option linter.unusedSimpArgs false
set_option maxRecDepth 100000
attribute [local go_sem ↓] Go.wp_at_zero Go.wp_at_succ
end Go.Proofs.YtohgjfdbnkjefaaGreatDoor
namespace Go.Proofs.YtohgjfdbnkjefaaGreatDoor
end Go.Proofs.YtohgjfdbnkjefaaGreatDoor
