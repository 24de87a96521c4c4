/- Texts of this claim, gathered: Cwf. -/
import Derived.Test.YtohgjfdbnkjefaaGreatDoorKx16
import Derived.Lib.AppendZerosOnto
namespace Go.Proofs.YtohgjfdbnkjefaaGreatDoor
open Go.RowKit
set_option linter.unusedVariables false
set_option linter.unusedSimpArgs false
set_option maxRecDepth 100000
theorem zc_two : ∀ k, k ≤ 2 → Builtin.zeroCells #[Value.int .i64 0] k = (List.replicate k (Value.int .i64 0)).toArray
 | 0, _ => by kernel_rfl
 | 1, _ => by kernel_rfl
 | 2, _ => by kernel_rfl
 | k + 3, h => by omega
theorem rep_one {k : Nat} : ∀ u ∈ List.replicate k (Value.int .i64 0), u.oneCell' = true := fun u hu => by
 rw [(List.mem_replicate.1 hu).2]; rfl
theorem run_zeros_own (w : World) (base n k : Nat) (v : Value) (xs : List Value) (ty : TypeId) (hown : w.ownsRow base 3 1 v n xs) (hk : k ≤ 2) (hs : n + k ≤ 1000) (hbase : base ≤ w.heap.size) :
 ∃ v' w', (Builtin.append_ #[37, 3] ty #[v, .int .i64 (k : Int)]).run Tryz.prog w = .ok v' w' ∧ w'.ownsRow base 3 1 v' (n + k) (xs ++ List.replicate k (.int .i64 0)) ∧ w.grownBy w' v.ownBlock := by
 obtain ⟨i, hi, hz0, hz1, hz2⟩ := info_parts info_int
 have ht := Tryz.underlying37
 have htn := Tryz.underlying3
 have hlen : (xs ++ List.replicate k (Value.int .i64 0)).length = (n + k) * 1 := by rw [List.length_append, hown.1, List.length_replicate]; omega
 have hw : IntKind.i64.wrap (k : Int) = k := by rw [IntKind.wrap_i64]; omega
 have hneg : ¬ ((k : Int) < 0) := by omega
 have hw0 : IntKind.i64.wrap 0 = 0 := by decide
 have h48i : ¬ (281474976710656 < (k : Int) * (i.bytes : Int)) := by rw [hz2]; omega
 have grown : ∀ (old : Nat) (row : Option Nat),
  (w.drew.alloc (.cells (xs.toArray ++ Builtin.zeroCells #[Value.int .i64 0] k ++ Builtin.zeroCells #[Value.int .i64 0] (grownCap w (n + k) old 3 - (n + k))) 3)).ownsRow base 3 1
   (.slice (some ⟨w.heap.size, 0, none⟩) (n + k) (grownCap w (n + k) old 3)) (n + k) (xs ++ List.replicate k (.int .i64 0)) ∧
  w.grownBy (w.drew.alloc (.cells (xs.toArray ++ Builtin.zeroCells #[Value.int .i64 0] k ++ Builtin.zeroCells #[Value.int .i64 0] (grownCap w (n + k) old 3 - (n + k))) 3)) row := by
  intro old row
  have hge := grownCap_ge w (n + k) old 3
  have hcm : grownCap w (n + k) old 3 ≤ maxLen := grownCap_le_maxLen w (n + k) old _ (by unfold maxLen; omega)
  refine ⟨⟨hlen, .inr ⟨w.heap.size, _, _, rfl, hbase, heap_alloc_new w.drew _, hge, hcm, ?_, ?_⟩⟩, ⟨rfl, rfl, rfl, by simp, fun q hq _ => heap_alloc_old w.drew _ hq⟩⟩
  · have hx := hown.1
    have hz : (#[Value.int .i64 0] : Array Value).size = 1 := rfl
    simp only [Array.size_append, List.size_toArray, size_zeroCells, hx, Nat.mul_one, hz]
    omega
  · rw [zc_two k hk]
    simp only [Array.toList_append, List.append_assoc]
    rw [← List.append_assoc, ← hlen]
    exact List.take_left
 rcases hown.2 with ⟨rfl, rfl⟩ | ⟨g, cap, cur, rfl, hbg, hg, hnc, hcm, hcs, htake⟩
 · have hx : xs = [] := List.eq_nil_of_length_eq_zero (by simpa using hown.1)
   subst hx
   by_cases hk0 : k = 0
   · subst hk0
     refine ⟨.slice none 0 0, w, ?_, World.ownsRow_nil w base _ 1, ⟨rfl, rfl, rfl, Nat.le_refl _, fun _ _ _ => rfl⟩⟩
     simp [Builtin.append_, run_underlying ht, run_underlying htn, sizeOf, typeInfo, zeroValue, hi, hz0, asInt, asIntOf, hw0]
   · have hr := Lib.run_append_nil_zeros (P := Tryz.prog) w _ _ ty _ i _ .i64 .i64 ht htn hi hz0 k (by omega) (by omega) (by omega) (by rw [hz2]; omega)
     have hgr := grown 0 none
     simp only [Nat.zero_add, List.nil_append, Array.empty_append] at hgr ⊢
     exact ⟨_, _, hr, hgr.1, hgr.2⟩
 · by_cases hroom : n + k ≤ cap
   · by_cases hk0 : k = 0
     · subst hk0
       refine ⟨.slice (some ⟨g, 0, none⟩) n cap, w, ?_, by simpa using hown, ⟨rfl, rfl, rfl, Nat.le_refl _, fun _ _ _ => rfl⟩⟩
       simp [Builtin.append_, run_underlying ht, run_underlying htn, sizeOf, typeInfo, zeroValue, hi, hz0, asInt, asIntOf, hw0, hnc, storeCells]
     · have hfit : n * 1 + 0 + (List.replicate k (Value.int .i64 0)).length ≤ cur.size := by rw [List.length_replicate, hcs]; omega
       have hst := run_storeCells_at Tryz.prog g (n * 1) 3 (List.replicate k (.int .i64 0)) 0 cur w hg hfit rep_one
       have hns : ¬ (k * i.size = 0) := by rw [hz1]; omega
       have hr : (Builtin.append_ #[37, 3] ty #[.slice (some ⟨g, 0, none⟩) n cap, .int .i64 (k : Int)]).run Tryz.prog w =
        .ok (.slice (some ⟨g, 0, none⟩) (n + k) cap) (w.setRow g (cur.toList.take (n * 1 + 0) ++ List.replicate k (Value.int .i64 0) ++ cur.toList.drop (n * 1 + 0 + (List.replicate k (Value.int .i64 0)).length)).toArray) := by
        simp only [hz1] at hns
        have hzc := zc_two k hk
        simp only [Nat.mul_one, Nat.add_zero] at hst
        simp [Builtin.append_, run_underlying ht, run_underlying htn, sizeOf, typeInfo, zeroValue, hi, hz0, hz1, asInt, asIntOf, hw, hneg, h48i, hns, hroom, Value.cells, hzc, Addr.add_lit, hst, hk0]
       refine ⟨_, _, hr, ⟨hlen, .inr ⟨g, cap, _, rfl, hbg, setRow_heap w g cur _ _ _ hg, hroom, hcm, ?_, ?_⟩⟩, ⟨rfl, rfl, rfl, by simp, fun j _ hj => setRow_other w g j _ (fun e => hj (by simp [Value.ownBlock, e]))⟩⟩
       · simp only [List.size_toArray, List.length_append, List.length_take, List.length_drop, Array.length_toList, List.length_replicate, Nat.mul_one, Nat.add_zero]
         omega
       · simp only [Nat.mul_one, Nat.add_zero] at htake hlen ⊢
         rw [htake, ← hlen]
         exact List.take_left
   · have holds : ∀ j u, xs[j]? = some u → w.cell? ((⟨g, 0, none⟩ : Addr).add j) = some u := hown.cells (g := g) rfl
     have hold := run_firstCells_some (P := Tryz.prog) w.drew i.size n ⟨g, 0, none⟩ n cap xs (by rw [hz1]; exact hown.1) (fun j u hu => holds j u hu)
     have hr := Lib.run_append_grow_zeros (P := Tryz.prog) w _ _ ty _ i _ .i64 .i64 ht htn hi hz0 (some ⟨g, 0, none⟩) n cap xs hold k (by omega) (by omega) (by omega) (by omega) (by rw [hz2]; omega) (by
      have := growslice_fits (old := cap) (need := n + k) (bytes := i.bytes) (by omega) (by rw [hz2]; omega)
      omega)
     have hgr := grown cap (Value.ownBlock (.slice (some ⟨g, 0, none⟩) n cap))
     exact ⟨_, _, hr, hgr.1, hgr.2⟩
-- GEN
def padL (xs : List Int) : List Int := [xs.getD 0 0, xs.getD 1 0]
theorem padded_c (v : Value) (xs : List Int) (w : World) (hv : Ints w v xs) (hn : xs.length ≤ 2) :
 Calls Tryz.prog 146 #[v, .int .i64 2] w fun e w' => ∃ u, e = .returned u ∧ w'.ownsRow w.heap.size 3 1 u 2 (ints (padL xs)) ∧ Below w.heap.size w w' := by
 have HCL := Lib.hid (Clone_c v xs w hv (by omega))
 obtain ⟨a, c, rfl, _, _, _⟩ := hv.parts
 clear hv
 rcases xs with _ | ⟨x, _ | ⟨y, _ | ⟨z, t⟩⟩⟩
 · as_aux_lemma =>
    go_enter Tryz.func146, Tryz.ntmps146
    go_wp2_with fail
    refine HCL.out.mono ?_
    rintro e w1 ⟨u, rfl, ho, hb⟩
    obtain ⟨v', w2, hr, ho2, hg2⟩ := run_zeros_own w1 w.heap.size 0 2 u _ 37 ho (by decide) (by decide) hb.size
    have HB2 := Lib.hid (hb.grown hg2 hb.size (fun g hg => (ho.lt g hg).1))
    have HO2 := Lib.hid ho2
    clear ho2 hg2 hb
    obtain ⟨ua, uc, rfl, _⟩ := (Sl.of_own ho).slice
    clear ho
    go_wp2_with (at_builtin; refine Lib.wpList_append_run _ rfl _ _ _ _ rfl _ _ rfl rfl _ _ hr ?_)
    go_wp2
    go_ret
    exact ⟨_, rfl, ownsRow_cast HO2.out rfl rfl, HB2.out⟩
 · as_aux_lemma =>
    go_enter Tryz.func146, Tryz.ntmps146
    go_wp2_with fail
    refine HCL.out.mono ?_
    rintro e w1 ⟨u, rfl, ho, hb⟩
    obtain ⟨v', w2, hr, ho2, hg2⟩ := run_zeros_own w1 w.heap.size 1 1 u _ 37 ho (by decide) (by decide) hb.size
    have HB2 := Lib.hid (hb.grown hg2 hb.size (fun g hg => (ho.lt g hg).1))
    have HO2 := Lib.hid ho2
    clear ho2 hg2 hb
    obtain ⟨ua, uc, rfl, _⟩ := (Sl.of_own ho).slice
    clear ho
    go_wp2_with (at_builtin; refine Lib.wpList_append_run _ rfl _ _ _ _ rfl _ _ rfl rfl _ _ hr ?_)
    go_wp2
    go_ret
    exact ⟨_, rfl, ownsRow_cast HO2.out rfl rfl, HB2.out⟩
 · as_aux_lemma =>
    go_enter Tryz.func146, Tryz.ntmps146
    go_wp2_with fail
    refine HCL.out.mono ?_
    rintro e w1 ⟨u, rfl, ho, hb⟩
    obtain ⟨v', w2, hr, ho2, hg2⟩ := run_zeros_own w1 w.heap.size 2 0 u _ 37 ho (by decide) (by decide) hb.size
    have HB2 := Lib.hid (hb.grown hg2 hb.size (fun g hg => (ho.lt g hg).1))
    have HO2 := Lib.hid ho2
    clear ho2 hg2 hb
    obtain ⟨ua, uc, rfl, _⟩ := (Sl.of_own ho).slice
    clear ho
    go_wp2_with (at_builtin; refine Lib.wpList_append_run _ rfl _ _ _ _ rfl _ _ rfl rfl _ _ hr ?_)
    go_wp2
    go_ret
    exact ⟨_, rfl, ownsRow_cast HO2.out rfl rfl, HB2.out⟩
 · exact absurd hn (by simp)
def jobR (w : Bs) (l : List Int) : (Int × Int × Int) × Int := match kindM w with
 | some (k, 2) => ((k, l.getD 0 0, l.getD 1 0), 2)
 | some (k, 1) => ((k, l.getD 0 0, 0), 1)
 | some (k, _) => ((k, 0, 0), 0)
 | none => ((0, 0, 0), -1)
def wdsL : List Bs := [wShow, wClear, wDark, wLit, wMend, wTurn, wMirror]
def manyL : List Nat := [2, 1, 2, 2, 1, 0, 0]
theorem kind_at : ∀ j : Fin 7, kindM (wdsL.getD j.1 []) = some ((j.1 : Int) + 1, manyL.getD j.1 0) := by decide +kernel
theorem kind_of {w : Bs} {k : Int} {n : Nat} (h : kindM w = some (k, n)) : ∃ j, j < 7 ∧ w = wdsL.getD j [] ∧ k = (j : Int) + 1 ∧ n = manyL.getD j 0 := by
 unfold kindM at h
 split at h
 · rename_i e
   obtain ⟨rfl, rfl⟩ := Prod.mk.inj (Option.some.inj h)
   exact ⟨0, by decide, e, rfl, rfl⟩
 split at h
 · rename_i e
   obtain ⟨rfl, rfl⟩ := Prod.mk.inj (Option.some.inj h)
   exact ⟨1, by decide, e, rfl, rfl⟩
 split at h
 · rename_i e
   obtain ⟨rfl, rfl⟩ := Prod.mk.inj (Option.some.inj h)
   exact ⟨2, by decide, e, rfl, rfl⟩
 split at h
 · rename_i e
   obtain ⟨rfl, rfl⟩ := Prod.mk.inj (Option.some.inj h)
   exact ⟨3, by decide, e, rfl, rfl⟩
 split at h
 · rename_i e
   obtain ⟨rfl, rfl⟩ := Prod.mk.inj (Option.some.inj h)
   exact ⟨4, by decide, e, rfl, rfl⟩
 split at h
 · rename_i e
   obtain ⟨rfl, rfl⟩ := Prod.mk.inj (Option.some.inj h)
   exact ⟨5, by decide, e, rfl, rfl⟩
 split at h
 · rename_i e
   obtain ⟨rfl, rfl⟩ := Prod.mk.inj (Option.some.inj h)
   exact ⟨6, by decide, e, rfl, rfl⟩
 cases h
theorem jobR_kind {w : Bs} {l : List Int} {k : Int} {n : Nat} (h : kindM w = some (k, n)) : (jobR w l).2 = (n : Int) ∧ (l.length = n → (jobR w l).1 = (k, l.getD 0 0, l.getD 1 0)) := by
 have hn : n = 2 ∨ n = 1 ∨ n = 0 := by
  obtain ⟨j, hj, _, _, rfl⟩ := kind_of h
  have : ∀ i : Fin 7, manyL.getD i.1 0 = 2 ∨ manyL.getD i.1 0 = 1 ∨ manyL.getD i.1 0 = 0 := by decide
  exact this ⟨j, hj⟩
 unfold jobR
 rw [h]
 rcases hn with rfl | rfl | rfl
 · exact ⟨rfl, fun _ => rfl⟩
 · refine ⟨rfl, fun hl => ?_⟩
   obtain ⟨x, rfl⟩ := List.length_eq_one_iff.1 hl
   rfl
 · refine ⟨rfl, fun hl => ?_⟩
   obtain rfl := List.eq_nil_of_length_eq_zero hl
   rfl
theorem jobR_none {w : Bs} {l : List Int} (h : kindM w = none) : jobR w l = ((0, 0, 0), -1) := by unfold jobR; rw [h]
set_option maxHeartbeats 20000000 in
theorem jobOf_c (s : ByteArray) (v : Value) (xs : List Int) (w : World) (hv : Ints w v xs) (hn : xs.length ≤ 2) :
 Calls Tryz.prog 101 #[.string s, v] w fun e w' => e = .returned (.tuple #[jobV (jobR s.data.toList xs).1.1 (jobR s.data.toList xs).1.2.1 (jobR s.data.toList xs).1.2.2, .int .i64 (jobR s.data.toList xs).2]) ∧ Below w.heap.size w w' := by
 have HPD := Lib.hid (fun (W : World) (hb : Below w.heap.size w W) => padded_c v xs W (hv.below hb) hn)
 have Z0 := Lib.hid (Bk.new w 123 #[.int .i64 0, .int .i64 0, .int .i64 0])
 obtain ⟨a, c, rfl, _, _, _⟩ := hv.parts
 clear hv
 by_cases e0 : s.data.toList = wShow
 · as_aux_lemma =>
    have f0 : (s.toList == [115, 104, 111, 119]) = true := by rw [Lib.toList_data, e0]; rfl
    have HM := Lib.hid (show jobR s.data.toList xs = ((1, xs.getD 0 0, xs.getD 1 0), 2) by unfold jobR kindM;  rw [if_pos e0]; rfl)
    rw [HM.out]
    unfold jobV
    clear e0 HM
    go_enter Tryz.func101, Tryz.ntmps101
    go_wp2_with fail
    refine (HPD.out _ (below_one _)).mono ?_
    rintro e w1 ⟨u, rfl, ho, hb⟩
    have Z1 := Lib.hid (Z0.out.below hb)
    have HB1 := Lib.hid (Below.chain (below_one _) hb)
    obtain ⟨ua, uc, rfl, _, _, HC⟩ := (show Ints w1 u (padL xs) from Ints.of_own ho).parts
    obtain ⟨ub, uo, rfl, c0⟩ := HC.out 0 (xs.getD 0 0) rfl
    obtain ⟨ub2, uo2, hu, c1⟩ := HC.out 1 (xs.getD 1 0) rfl
    have c0 : w1.cell? ⟨ub, uo, none⟩ = some (.int .i64 (xs.getD 0 0)) := c0
    obtain ⟨e1, e2⟩ : ub2 = ub ∧ uo2 = uo := by injection hu with h1; injection h1 with h2 h3; exact ⟨h2.symm, h3.symm⟩
    subst e1 e2
    rw [show (padL xs).length = 2 from rfl] at *
    clear hb ho HC hu Z0 HPD
    have z0 : w1.cell? ⟨w.heap.size, 0, none⟩ = some (.int .i64 0) := Z1.out.cell 0
    have z1 : w1.cell? ⟨w.heap.size, 1, none⟩ = some (.int .i64 0) := Z1.out.cell 1
    have z2 : w1.cell? ⟨w.heap.size, 2, none⟩ = some (.int .i64 0) := Z1.out.cell 2
    have g0 : w1.frozen? ⟨w.heap.size, 0, none⟩ = false := Z1.out.frozen 0
    have g1 : w1.frozen? ⟨w.heap.size, 1, none⟩ = false := Z1.out.frozen 1
    have g2 : w1.frozen? ⟨w.heap.size, 2, none⟩ = false := Z1.out.frozen 2
    obtain ⟨p, hp⟩ : ∃ p, xs.getD 0 0 = p := ⟨_, rfl⟩
    obtain ⟨q, hq⟩ : ∃ q, xs.getD 1 0 = q := ⟨_, rfl⟩
    rw [hp] at c0
    rw [hq] at c1
    have HP := Lib.hid hp
    have HQ := Lib.hid hq
    clear hp hq
    go_wp2
    go_region
    go_wp2
    exact bodyPost_ret (v := .tuple #[.agg #[.int .i64 1, .int .i64 p, .int .i64 q], .int .i64 2]) (by simp [results, Tryz.results101, go_sem, z0, z1, z2]) rfl ⟨by simp only [HP.out, HQ.out], by have hb := HB1.out; (repeat (first | exact Below.refl _ _ | exact (Below.refl _ _).drew | assumption | exact below_one _ | refine Below.chain ?_ (by assumption) | refine Below.drew ?_ | refine Below.alc ?_ _ | refine below_drewN ?_ | (refine Below.setCell ?_ ?_ _) | exact Nat.le_refl _ | (simp; done) | (simp; omega)))⟩
 · skip
   by_cases e1 : s.data.toList = wClear
   · as_aux_lemma =>
      have f0 : (s.toList == [115, 104, 111, 119]) = false := by rw [Lib.toList_data]; exact beq_false_of_ne e0
      have f1 : (s.toList == [99, 108, 101, 97, 114]) = true := by rw [Lib.toList_data, e1]; rfl
      have HM := Lib.hid (show jobR s.data.toList xs = ((2, xs.getD 0 0, 0), 1) by unfold jobR kindM; rw [if_neg e0]; rw [if_pos e1]; rfl)
      rw [HM.out]
      unfold jobV
      clear e0 e1 HM
      go_enter Tryz.func101, Tryz.ntmps101
      go_wp2_with fail
      refine (HPD.out _ (below_one _)).mono ?_
      rintro e w1 ⟨u, rfl, ho, hb⟩
      have Z1 := Lib.hid (Z0.out.below hb)
      have HB1 := Lib.hid (Below.chain (below_one _) hb)
      obtain ⟨ua, uc, rfl, _, _, HC⟩ := (show Ints w1 u (padL xs) from Ints.of_own ho).parts
      obtain ⟨ub, uo, rfl, c0⟩ := HC.out 0 (xs.getD 0 0) rfl
      obtain ⟨ub2, uo2, hu, c1⟩ := HC.out 1 (xs.getD 1 0) rfl
      have c0 : w1.cell? ⟨ub, uo, none⟩ = some (.int .i64 (xs.getD 0 0)) := c0
      obtain ⟨e1, e2⟩ : ub2 = ub ∧ uo2 = uo := by injection hu with h1; injection h1 with h2 h3; exact ⟨h2.symm, h3.symm⟩
      subst e1 e2
      rw [show (padL xs).length = 2 from rfl] at *
      clear hb ho HC hu Z0 HPD
      have z0 : w1.cell? ⟨w.heap.size, 0, none⟩ = some (.int .i64 0) := Z1.out.cell 0
      have z1 : w1.cell? ⟨w.heap.size, 1, none⟩ = some (.int .i64 0) := Z1.out.cell 1
      have z2 : w1.cell? ⟨w.heap.size, 2, none⟩ = some (.int .i64 0) := Z1.out.cell 2
      have g0 : w1.frozen? ⟨w.heap.size, 0, none⟩ = false := Z1.out.frozen 0
      have g1 : w1.frozen? ⟨w.heap.size, 1, none⟩ = false := Z1.out.frozen 1
      have g2 : w1.frozen? ⟨w.heap.size, 2, none⟩ = false := Z1.out.frozen 2
      obtain ⟨p, hp⟩ : ∃ p, xs.getD 0 0 = p := ⟨_, rfl⟩
      obtain ⟨q, hq⟩ : ∃ q, xs.getD 1 0 = q := ⟨_, rfl⟩
      rw [hp] at c0
      rw [hq] at c1
      have HP := Lib.hid hp
      have HQ := Lib.hid hq
      clear hp hq
      go_wp2
      exact bodyPost_ret (v := .tuple #[.agg #[.int .i64 2, .int .i64 p, .int .i64 0], .int .i64 1]) (by simp [results, Tryz.results101, go_sem, z0, z1, z2]) rfl ⟨by simp only [HP.out, HQ.out], by have hb := HB1.out; (repeat (first | exact Below.refl _ _ | exact (Below.refl _ _).drew | assumption | exact below_one _ | refine Below.chain ?_ (by assumption) | refine Below.drew ?_ | refine Below.alc ?_ _ | refine below_drewN ?_ | (refine Below.setCell ?_ ?_ _) | exact Nat.le_refl _ | (simp; done) | (simp; omega)))⟩
   · skip
     by_cases e2 : s.data.toList = wDark
     · as_aux_lemma =>
        have f0 : (s.toList == [115, 104, 111, 119]) = false := by rw [Lib.toList_data]; exact beq_false_of_ne e0
        have f1 : (s.toList == [99, 108, 101, 97, 114]) = false := by rw [Lib.toList_data]; exact beq_false_of_ne e1
        have f2 : (s.toList == [100, 97, 114, 107]) = true := by rw [Lib.toList_data, e2]; rfl
        have HM := Lib.hid (show jobR s.data.toList xs = ((3, xs.getD 0 0, xs.getD 1 0), 2) by unfold jobR kindM; rw [if_neg e0]; rw [if_neg e1]; rw [if_pos e2]; rfl)
        rw [HM.out]
        unfold jobV
        clear e0 e1 e2 HM
        go_enter Tryz.func101, Tryz.ntmps101
        go_wp2_with fail
        refine (HPD.out _ (below_one _)).mono ?_
        rintro e w1 ⟨u, rfl, ho, hb⟩
        have Z1 := Lib.hid (Z0.out.below hb)
        have HB1 := Lib.hid (Below.chain (below_one _) hb)
        obtain ⟨ua, uc, rfl, _, _, HC⟩ := (show Ints w1 u (padL xs) from Ints.of_own ho).parts
        obtain ⟨ub, uo, rfl, c0⟩ := HC.out 0 (xs.getD 0 0) rfl
        obtain ⟨ub2, uo2, hu, c1⟩ := HC.out 1 (xs.getD 1 0) rfl
        have c0 : w1.cell? ⟨ub, uo, none⟩ = some (.int .i64 (xs.getD 0 0)) := c0
        obtain ⟨e1, e2⟩ : ub2 = ub ∧ uo2 = uo := by injection hu with h1; injection h1 with h2 h3; exact ⟨h2.symm, h3.symm⟩
        subst e1 e2
        rw [show (padL xs).length = 2 from rfl] at *
        clear hb ho HC hu Z0 HPD
        have z0 : w1.cell? ⟨w.heap.size, 0, none⟩ = some (.int .i64 0) := Z1.out.cell 0
        have z1 : w1.cell? ⟨w.heap.size, 1, none⟩ = some (.int .i64 0) := Z1.out.cell 1
        have z2 : w1.cell? ⟨w.heap.size, 2, none⟩ = some (.int .i64 0) := Z1.out.cell 2
        have g0 : w1.frozen? ⟨w.heap.size, 0, none⟩ = false := Z1.out.frozen 0
        have g1 : w1.frozen? ⟨w.heap.size, 1, none⟩ = false := Z1.out.frozen 1
        have g2 : w1.frozen? ⟨w.heap.size, 2, none⟩ = false := Z1.out.frozen 2
        obtain ⟨p, hp⟩ : ∃ p, xs.getD 0 0 = p := ⟨_, rfl⟩
        obtain ⟨q, hq⟩ : ∃ q, xs.getD 1 0 = q := ⟨_, rfl⟩
        rw [hp] at c0
        rw [hq] at c1
        have HP := Lib.hid hp
        have HQ := Lib.hid hq
        clear hp hq
        go_wp2
        go_region
        go_wp2
        exact bodyPost_ret (v := .tuple #[.agg #[.int .i64 3, .int .i64 p, .int .i64 q], .int .i64 2]) (by simp [results, Tryz.results101, go_sem, z0, z1, z2]) rfl ⟨by simp only [HP.out, HQ.out], by have hb := HB1.out; (repeat (first | exact Below.refl _ _ | exact (Below.refl _ _).drew | assumption | exact below_one _ | refine Below.chain ?_ (by assumption) | refine Below.drew ?_ | refine Below.alc ?_ _ | refine below_drewN ?_ | (refine Below.setCell ?_ ?_ _) | exact Nat.le_refl _ | (simp; done) | (simp; omega)))⟩
     · skip
       by_cases e3 : s.data.toList = wLit
       · as_aux_lemma =>
          have f0 : (s.toList == [115, 104, 111, 119]) = false := by rw [Lib.toList_data]; exact beq_false_of_ne e0
          have f1 : (s.toList == [99, 108, 101, 97, 114]) = false := by rw [Lib.toList_data]; exact beq_false_of_ne e1
          have f2 : (s.toList == [100, 97, 114, 107]) = false := by rw [Lib.toList_data]; exact beq_false_of_ne e2
          have f3 : (s.toList == [108, 105, 116]) = true := by rw [Lib.toList_data, e3]; rfl
          have HM := Lib.hid (show jobR s.data.toList xs = ((4, xs.getD 0 0, xs.getD 1 0), 2) by unfold jobR kindM; rw [if_neg e0]; rw [if_neg e1]; rw [if_neg e2]; rw [if_pos e3]; rfl)
          rw [HM.out]
          unfold jobV
          clear e0 e1 e2 e3 HM
          go_enter Tryz.func101, Tryz.ntmps101
          go_wp2_with fail
          refine (HPD.out _ (below_one _)).mono ?_
          rintro e w1 ⟨u, rfl, ho, hb⟩
          have Z1 := Lib.hid (Z0.out.below hb)
          have HB1 := Lib.hid (Below.chain (below_one _) hb)
          obtain ⟨ua, uc, rfl, _, _, HC⟩ := (show Ints w1 u (padL xs) from Ints.of_own ho).parts
          obtain ⟨ub, uo, rfl, c0⟩ := HC.out 0 (xs.getD 0 0) rfl
          obtain ⟨ub2, uo2, hu, c1⟩ := HC.out 1 (xs.getD 1 0) rfl
          have c0 : w1.cell? ⟨ub, uo, none⟩ = some (.int .i64 (xs.getD 0 0)) := c0
          obtain ⟨e1, e2⟩ : ub2 = ub ∧ uo2 = uo := by injection hu with h1; injection h1 with h2 h3; exact ⟨h2.symm, h3.symm⟩
          subst e1 e2
          rw [show (padL xs).length = 2 from rfl] at *
          clear hb ho HC hu Z0 HPD
          have z0 : w1.cell? ⟨w.heap.size, 0, none⟩ = some (.int .i64 0) := Z1.out.cell 0
          have z1 : w1.cell? ⟨w.heap.size, 1, none⟩ = some (.int .i64 0) := Z1.out.cell 1
          have z2 : w1.cell? ⟨w.heap.size, 2, none⟩ = some (.int .i64 0) := Z1.out.cell 2
          have g0 : w1.frozen? ⟨w.heap.size, 0, none⟩ = false := Z1.out.frozen 0
          have g1 : w1.frozen? ⟨w.heap.size, 1, none⟩ = false := Z1.out.frozen 1
          have g2 : w1.frozen? ⟨w.heap.size, 2, none⟩ = false := Z1.out.frozen 2
          obtain ⟨p, hp⟩ : ∃ p, xs.getD 0 0 = p := ⟨_, rfl⟩
          obtain ⟨q, hq⟩ : ∃ q, xs.getD 1 0 = q := ⟨_, rfl⟩
          rw [hp] at c0
          rw [hq] at c1
          have HP := Lib.hid hp
          have HQ := Lib.hid hq
          clear hp hq
          go_wp2
          go_region
          go_wp2
          exact bodyPost_ret (v := .tuple #[.agg #[.int .i64 4, .int .i64 p, .int .i64 q], .int .i64 2]) (by simp [results, Tryz.results101, go_sem, z0, z1, z2]) rfl ⟨by simp only [HP.out, HQ.out], by have hb := HB1.out; (repeat (first | exact Below.refl _ _ | exact (Below.refl _ _).drew | assumption | exact below_one _ | refine Below.chain ?_ (by assumption) | refine Below.drew ?_ | refine Below.alc ?_ _ | refine below_drewN ?_ | (refine Below.setCell ?_ ?_ _) | exact Nat.le_refl _ | (simp; done) | (simp; omega)))⟩
       · skip
         by_cases e4 : s.data.toList = wMend
         · as_aux_lemma =>
            have f0 : (s.toList == [115, 104, 111, 119]) = false := by rw [Lib.toList_data]; exact beq_false_of_ne e0
            have f1 : (s.toList == [99, 108, 101, 97, 114]) = false := by rw [Lib.toList_data]; exact beq_false_of_ne e1
            have f2 : (s.toList == [100, 97, 114, 107]) = false := by rw [Lib.toList_data]; exact beq_false_of_ne e2
            have f3 : (s.toList == [108, 105, 116]) = false := by rw [Lib.toList_data]; exact beq_false_of_ne e3
            have f4 : (s.toList == [109, 101, 110, 100]) = true := by rw [Lib.toList_data, e4]; rfl
            have HM := Lib.hid (show jobR s.data.toList xs = ((5, xs.getD 0 0, 0), 1) by unfold jobR kindM; rw [if_neg e0]; rw [if_neg e1]; rw [if_neg e2]; rw [if_neg e3]; rw [if_pos e4]; rfl)
            rw [HM.out]
            unfold jobV
            clear e0 e1 e2 e3 e4 HM
            go_enter Tryz.func101, Tryz.ntmps101
            go_wp2_with fail
            refine (HPD.out _ (below_one _)).mono ?_
            rintro e w1 ⟨u, rfl, ho, hb⟩
            have Z1 := Lib.hid (Z0.out.below hb)
            have HB1 := Lib.hid (Below.chain (below_one _) hb)
            obtain ⟨ua, uc, rfl, _, _, HC⟩ := (show Ints w1 u (padL xs) from Ints.of_own ho).parts
            obtain ⟨ub, uo, rfl, c0⟩ := HC.out 0 (xs.getD 0 0) rfl
            obtain ⟨ub2, uo2, hu, c1⟩ := HC.out 1 (xs.getD 1 0) rfl
            have c0 : w1.cell? ⟨ub, uo, none⟩ = some (.int .i64 (xs.getD 0 0)) := c0
            obtain ⟨e1, e2⟩ : ub2 = ub ∧ uo2 = uo := by injection hu with h1; injection h1 with h2 h3; exact ⟨h2.symm, h3.symm⟩
            subst e1 e2
            rw [show (padL xs).length = 2 from rfl] at *
            clear hb ho HC hu Z0 HPD
            have z0 : w1.cell? ⟨w.heap.size, 0, none⟩ = some (.int .i64 0) := Z1.out.cell 0
            have z1 : w1.cell? ⟨w.heap.size, 1, none⟩ = some (.int .i64 0) := Z1.out.cell 1
            have z2 : w1.cell? ⟨w.heap.size, 2, none⟩ = some (.int .i64 0) := Z1.out.cell 2
            have g0 : w1.frozen? ⟨w.heap.size, 0, none⟩ = false := Z1.out.frozen 0
            have g1 : w1.frozen? ⟨w.heap.size, 1, none⟩ = false := Z1.out.frozen 1
            have g2 : w1.frozen? ⟨w.heap.size, 2, none⟩ = false := Z1.out.frozen 2
            obtain ⟨p, hp⟩ : ∃ p, xs.getD 0 0 = p := ⟨_, rfl⟩
            obtain ⟨q, hq⟩ : ∃ q, xs.getD 1 0 = q := ⟨_, rfl⟩
            rw [hp] at c0
            rw [hq] at c1
            have HP := Lib.hid hp
            have HQ := Lib.hid hq
            clear hp hq
            go_wp2
            exact bodyPost_ret (v := .tuple #[.agg #[.int .i64 5, .int .i64 p, .int .i64 0], .int .i64 1]) (by simp [results, Tryz.results101, go_sem, z0, z1, z2]) rfl ⟨by simp only [HP.out, HQ.out], by have hb := HB1.out; (repeat (first | exact Below.refl _ _ | exact (Below.refl _ _).drew | assumption | exact below_one _ | refine Below.chain ?_ (by assumption) | refine Below.drew ?_ | refine Below.alc ?_ _ | refine below_drewN ?_ | (refine Below.setCell ?_ ?_ _) | exact Nat.le_refl _ | (simp; done) | (simp; omega)))⟩
         · skip
           by_cases e5 : s.data.toList = wTurn
           · as_aux_lemma =>
              have f0 : (s.toList == [115, 104, 111, 119]) = false := by rw [Lib.toList_data]; exact beq_false_of_ne e0
              have f1 : (s.toList == [99, 108, 101, 97, 114]) = false := by rw [Lib.toList_data]; exact beq_false_of_ne e1
              have f2 : (s.toList == [100, 97, 114, 107]) = false := by rw [Lib.toList_data]; exact beq_false_of_ne e2
              have f3 : (s.toList == [108, 105, 116]) = false := by rw [Lib.toList_data]; exact beq_false_of_ne e3
              have f4 : (s.toList == [109, 101, 110, 100]) = false := by rw [Lib.toList_data]; exact beq_false_of_ne e4
              have f5 : (s.toList == [116, 117, 114, 110]) = true := by rw [Lib.toList_data, e5]; rfl
              have HM := Lib.hid (show jobR s.data.toList xs = ((6, 0, 0), 0) by unfold jobR kindM; rw [if_neg e0]; rw [if_neg e1]; rw [if_neg e2]; rw [if_neg e3]; rw [if_neg e4]; rw [if_pos e5]; rfl)
              rw [HM.out]
              unfold jobV
              clear e0 e1 e2 e3 e4 e5 HM
              go_enter Tryz.func101, Tryz.ntmps101
              go_wp2_with fail
              refine (HPD.out _ (below_one _)).mono ?_
              rintro e w1 ⟨u, rfl, ho, hb⟩
              have Z1 := Lib.hid (Z0.out.below hb)
              have HB1 := Lib.hid (Below.chain (below_one _) hb)
              obtain ⟨ua, uc, rfl, _, _, HC⟩ := (show Ints w1 u (padL xs) from Ints.of_own ho).parts
              obtain ⟨ub, uo, rfl, c0⟩ := HC.out 0 (xs.getD 0 0) rfl
              obtain ⟨ub2, uo2, hu, c1⟩ := HC.out 1 (xs.getD 1 0) rfl
              have c0 : w1.cell? ⟨ub, uo, none⟩ = some (.int .i64 (xs.getD 0 0)) := c0
              obtain ⟨e1, e2⟩ : ub2 = ub ∧ uo2 = uo := by injection hu with h1; injection h1 with h2 h3; exact ⟨h2.symm, h3.symm⟩
              subst e1 e2
              rw [show (padL xs).length = 2 from rfl] at *
              clear hb ho HC hu Z0 HPD
              have z0 : w1.cell? ⟨w.heap.size, 0, none⟩ = some (.int .i64 0) := Z1.out.cell 0
              have z1 : w1.cell? ⟨w.heap.size, 1, none⟩ = some (.int .i64 0) := Z1.out.cell 1
              have z2 : w1.cell? ⟨w.heap.size, 2, none⟩ = some (.int .i64 0) := Z1.out.cell 2
              have g0 : w1.frozen? ⟨w.heap.size, 0, none⟩ = false := Z1.out.frozen 0
              have g1 : w1.frozen? ⟨w.heap.size, 1, none⟩ = false := Z1.out.frozen 1
              have g2 : w1.frozen? ⟨w.heap.size, 2, none⟩ = false := Z1.out.frozen 2
              obtain ⟨p, hp⟩ : ∃ p, xs.getD 0 0 = p := ⟨_, rfl⟩
              obtain ⟨q, hq⟩ : ∃ q, xs.getD 1 0 = q := ⟨_, rfl⟩
              rw [hp] at c0
              rw [hq] at c1
              have HP := Lib.hid hp
              have HQ := Lib.hid hq
              clear hp hq
              go_wp2
              exact bodyPost_ret (v := .tuple #[.agg #[.int .i64 6, .int .i64 0, .int .i64 0], .int .i64 0]) (by simp [results, Tryz.results101, go_sem, z0, z1, z2]) rfl ⟨by simp only [HP.out, HQ.out], by have hb := HB1.out; (repeat (first | exact Below.refl _ _ | exact (Below.refl _ _).drew | assumption | exact below_one _ | refine Below.chain ?_ (by assumption) | refine Below.drew ?_ | refine Below.alc ?_ _ | refine below_drewN ?_ | (refine Below.setCell ?_ ?_ _) | exact Nat.le_refl _ | (simp; done) | (simp; omega)))⟩
           · skip
             by_cases e6 : s.data.toList = wMirror
             · as_aux_lemma =>
                have f0 : (s.toList == [115, 104, 111, 119]) = false := by rw [Lib.toList_data]; exact beq_false_of_ne e0
                have f1 : (s.toList == [99, 108, 101, 97, 114]) = false := by rw [Lib.toList_data]; exact beq_false_of_ne e1
                have f2 : (s.toList == [100, 97, 114, 107]) = false := by rw [Lib.toList_data]; exact beq_false_of_ne e2
                have f3 : (s.toList == [108, 105, 116]) = false := by rw [Lib.toList_data]; exact beq_false_of_ne e3
                have f4 : (s.toList == [109, 101, 110, 100]) = false := by rw [Lib.toList_data]; exact beq_false_of_ne e4
                have f5 : (s.toList == [116, 117, 114, 110]) = false := by rw [Lib.toList_data]; exact beq_false_of_ne e5
                have f6 : (s.toList == [109, 105, 114, 114, 111, 114]) = true := by rw [Lib.toList_data, e6]; rfl
                have HM := Lib.hid (show jobR s.data.toList xs = ((7, 0, 0), 0) by unfold jobR kindM; rw [if_neg e0]; rw [if_neg e1]; rw [if_neg e2]; rw [if_neg e3]; rw [if_neg e4]; rw [if_neg e5]; rw [if_pos e6]; rfl)
                rw [HM.out]
                unfold jobV
                clear e0 e1 e2 e3 e4 e5 e6 HM
                go_enter Tryz.func101, Tryz.ntmps101
                go_wp2_with fail
                refine (HPD.out _ (below_one _)).mono ?_
                rintro e w1 ⟨u, rfl, ho, hb⟩
                have Z1 := Lib.hid (Z0.out.below hb)
                have HB1 := Lib.hid (Below.chain (below_one _) hb)
                obtain ⟨ua, uc, rfl, _, _, HC⟩ := (show Ints w1 u (padL xs) from Ints.of_own ho).parts
                obtain ⟨ub, uo, rfl, c0⟩ := HC.out 0 (xs.getD 0 0) rfl
                obtain ⟨ub2, uo2, hu, c1⟩ := HC.out 1 (xs.getD 1 0) rfl
                have c0 : w1.cell? ⟨ub, uo, none⟩ = some (.int .i64 (xs.getD 0 0)) := c0
                obtain ⟨e1, e2⟩ : ub2 = ub ∧ uo2 = uo := by injection hu with h1; injection h1 with h2 h3; exact ⟨h2.symm, h3.symm⟩
                subst e1 e2
                rw [show (padL xs).length = 2 from rfl] at *
                clear hb ho HC hu Z0 HPD
                have z0 : w1.cell? ⟨w.heap.size, 0, none⟩ = some (.int .i64 0) := Z1.out.cell 0
                have z1 : w1.cell? ⟨w.heap.size, 1, none⟩ = some (.int .i64 0) := Z1.out.cell 1
                have z2 : w1.cell? ⟨w.heap.size, 2, none⟩ = some (.int .i64 0) := Z1.out.cell 2
                have g0 : w1.frozen? ⟨w.heap.size, 0, none⟩ = false := Z1.out.frozen 0
                have g1 : w1.frozen? ⟨w.heap.size, 1, none⟩ = false := Z1.out.frozen 1
                have g2 : w1.frozen? ⟨w.heap.size, 2, none⟩ = false := Z1.out.frozen 2
                obtain ⟨p, hp⟩ : ∃ p, xs.getD 0 0 = p := ⟨_, rfl⟩
                obtain ⟨q, hq⟩ : ∃ q, xs.getD 1 0 = q := ⟨_, rfl⟩
                rw [hp] at c0
                rw [hq] at c1
                have HP := Lib.hid hp
                have HQ := Lib.hid hq
                clear hp hq
                go_wp2
                exact bodyPost_ret (v := .tuple #[.agg #[.int .i64 7, .int .i64 0, .int .i64 0], .int .i64 0]) (by simp [results, Tryz.results101, go_sem, z0, z1, z2]) rfl ⟨by simp only [HP.out, HQ.out], by have hb := HB1.out; (repeat (first | exact Below.refl _ _ | exact (Below.refl _ _).drew | assumption | exact below_one _ | refine Below.chain ?_ (by assumption) | refine Below.drew ?_ | refine Below.alc ?_ _ | refine below_drewN ?_ | (refine Below.setCell ?_ ?_ _) | exact Nat.le_refl _ | (simp; done) | (simp; omega)))⟩
             · skip
               as_aux_lemma =>
                have f0 : (s.toList == [115, 104, 111, 119]) = false := by rw [Lib.toList_data]; exact beq_false_of_ne e0
                have f1 : (s.toList == [99, 108, 101, 97, 114]) = false := by rw [Lib.toList_data]; exact beq_false_of_ne e1
                have f2 : (s.toList == [100, 97, 114, 107]) = false := by rw [Lib.toList_data]; exact beq_false_of_ne e2
                have f3 : (s.toList == [108, 105, 116]) = false := by rw [Lib.toList_data]; exact beq_false_of_ne e3
                have f4 : (s.toList == [109, 101, 110, 100]) = false := by rw [Lib.toList_data]; exact beq_false_of_ne e4
                have f5 : (s.toList == [116, 117, 114, 110]) = false := by rw [Lib.toList_data]; exact beq_false_of_ne e5
                have f6 : (s.toList == [109, 105, 114, 114, 111, 114]) = false := by rw [Lib.toList_data]; exact beq_false_of_ne e6
                have HM := Lib.hid (show jobR s.data.toList xs = ((0, 0, 0), (-1)) by unfold jobR kindM; rw [if_neg e0]; rw [if_neg e1]; rw [if_neg e2]; rw [if_neg e3]; rw [if_neg e4]; rw [if_neg e5]; rw [if_neg e6])
                rw [HM.out]
                unfold jobV
                clear e0 e1 e2 e3 e4 e5 e6 HM
                go_enter Tryz.func101, Tryz.ntmps101
                go_wp2_with fail
                refine (HPD.out _ (below_one _)).mono ?_
                rintro e w1 ⟨u, rfl, ho, hb⟩
                have Z1 := Lib.hid (Z0.out.below hb)
                have HB1 := Lib.hid (Below.chain (below_one _) hb)
                obtain ⟨ua, uc, rfl, _, _, HC⟩ := (show Ints w1 u (padL xs) from Ints.of_own ho).parts
                obtain ⟨ub, uo, rfl, c0⟩ := HC.out 0 (xs.getD 0 0) rfl
                obtain ⟨ub2, uo2, hu, c1⟩ := HC.out 1 (xs.getD 1 0) rfl
                have c0 : w1.cell? ⟨ub, uo, none⟩ = some (.int .i64 (xs.getD 0 0)) := c0
                obtain ⟨e1, e2⟩ : ub2 = ub ∧ uo2 = uo := by injection hu with h1; injection h1 with h2 h3; exact ⟨h2.symm, h3.symm⟩
                subst e1 e2
                rw [show (padL xs).length = 2 from rfl] at *
                clear hb ho HC hu Z0 HPD
                have z0 : w1.cell? ⟨w.heap.size, 0, none⟩ = some (.int .i64 0) := Z1.out.cell 0
                have z1 : w1.cell? ⟨w.heap.size, 1, none⟩ = some (.int .i64 0) := Z1.out.cell 1
                have z2 : w1.cell? ⟨w.heap.size, 2, none⟩ = some (.int .i64 0) := Z1.out.cell 2
                have g0 : w1.frozen? ⟨w.heap.size, 0, none⟩ = false := Z1.out.frozen 0
                have g1 : w1.frozen? ⟨w.heap.size, 1, none⟩ = false := Z1.out.frozen 1
                have g2 : w1.frozen? ⟨w.heap.size, 2, none⟩ = false := Z1.out.frozen 2
                obtain ⟨p, hp⟩ : ∃ p, xs.getD 0 0 = p := ⟨_, rfl⟩
                obtain ⟨q, hq⟩ : ∃ q, xs.getD 1 0 = q := ⟨_, rfl⟩
                rw [hp] at c0
                rw [hq] at c1
                have HP := Lib.hid hp
                have HQ := Lib.hid hq
                clear hp hq
                go_wp2
                exact bodyPost_ret (v := .tuple #[.agg #[.int .i64 0, .int .i64 0, .int .i64 0], .int .i64 (-1)]) (by simp [results, Tryz.results101, go_sem, z0, z1, z2]) rfl ⟨by simp only [HP.out, HQ.out], by have hb := HB1.out; (repeat (first | exact Below.refl _ _ | exact (Below.refl _ _).drew | assumption | exact below_one _ | refine Below.chain ?_ (by assumption) | refine Below.drew ?_ | refine Below.alc ?_ _ | refine below_drewN ?_ | (refine Below.setCell ?_ ?_ _) | exact Nat.le_refl _ | (simp; done) | (simp; omega)))⟩
theorem l1OwnI_c (v : Value) (xs : List Int) (w : World) (hv : Ints w v xs) (hn : xs.length ≤ 1000) :
 Calls Tryz.prog 170 #[v] w fun e w' => ∃ u, e = .returned u ∧ w'.ownsRow w.heap.size 3 1 u xs.length (ints xs) ∧ Below w.heap.size w w' := by
 obtain ⟨i, hi, hz0, hz1, hz2⟩ := info_parts info_int
 have hv0 := hv
 obtain ⟨a, c, rfl, _, _, _⟩ := hv.parts
 cases a with
 | none =>
  have hx : xs = [] := by
   obtain ⟨a', c', e, _, _, HC⟩ := hv0.parts
   cases xs with
   | nil => rfl
   | cons x t =>
    obtain ⟨b, off, e2, _⟩ := HC.out 0 x rfl
    injection e with e1
    rw [e2] at e1; cases e1
  subst hx
  have ho0 := World.ownsRow_lit (e := 3) (size := 1) (base := w.heap.size) w #[] 0 (Nat.le_refl _) (by decide) rfl
  simp only [List.length_nil, List.map_nil]
  go_enter Tryz.func170, Tryz.ntmps170
  go_wp2
  go_ret
  exact ⟨_, rfl, ho0, by (repeat (first | exact Below.refl _ _ | exact (Below.refl _ _).drew | assumption | exact below_one _ | refine Below.chain ?_ (by assumption) | refine Below.drew ?_ | refine Below.alc ?_ _ | refine below_drewN ?_ | (refine Below.setCell ?_ ?_ _) | exact Nat.le_refl _ | (simp; done) | (simp; omega)))⟩
 | some ad => exact l1Own_c ad xs.length c xs w (ints_cells hv) rfl hn
theorem wds_at : ∀ j, j < 7 → (#[.string ⟨#[115, 104, 111, 119]⟩, .string ⟨#[99, 108, 101, 97, 114]⟩, .string ⟨#[100, 97, 114, 107]⟩, .string ⟨#[108, 105, 116]⟩, .string ⟨#[109, 101, 110, 100]⟩, .string ⟨#[116, 117, 114, 110]⟩, .string ⟨#[109, 105, 114, 114, 111, 114]⟩] : Array Value)[j]? = some (.string (bs (wdsL.getD j [])))
 | 0, _ => rfl
 | 1, _ => rfl
 | 2, _ => rfl
 | 3, _ => rfl
 | 4, _ => rfl
 | 5, _ => rfl
 | 6, _ => rfl
 | j + 7, h => by omega
theorem many_at : ∀ j, j < 7 → (#[.int .i64 2, .int .i64 1, .int .i64 2, .int .i64 2, .int .i64 1, .int .i64 0, .int .i64 0] : Array Value)[j]? = some (.int .i64 ((manyL.getD j 0 : Nat) : Int))
 | 0, _ => rfl
 | 1, _ => rfl
 | 2, _ => rfl
 | 3, _ => rfl
 | 4, _ => rfl
 | 5, _ => rfl
 | 6, _ => rfl
 | j + 7, h => by omega
def jobE (w : Bs) (l : List Int) : Int × Int × Int := match kindM w with
 | some (k, n) => if l.length = n then (k, l.getD 0 0, l.getD 1 0) else (0, 0, 0)
 | none => (0, 0, 0)
theorem jobE_yes {w : Bs} {l : List Int} {k : Nat} (hk : k < 7) (hw : w = wdsL.getD k []) (hl : l.length = manyL.getD k 0) : jobE w l = ((k : Int) + 1, l.getD 0 0, l.getD 1 0) := by
 have h := kind_at ⟨k, hk⟩
 unfold jobE
 rw [hw, h]
 simp only
 rw [if_pos hl]
theorem jobE_no {w : Bs} {l : List Int} (h : ∀ j, j < 7 → ¬ (w = wdsL.getD j [] ∧ l.length = manyL.getD j 0)) : jobE w l = (0, 0, 0) := by
 unfold jobE
 cases hk : kindM w with
 | none => rfl
 | some p =>
  obtain ⟨k, n⟩ := p
  obtain ⟨j, hj, hw, _, hn⟩ := kind_of hk
  simp only
  rw [if_neg (fun hl => h j hj ⟨hw, by rw [hl, hn]⟩)]
theorem pad_at (xs : List Int) : (xs ++ [0, 0])[0]? = some (xs.getD 0 0) ∧ (xs ++ [0, 0])[1]? = some (xs.getD 1 0) := by
 rcases xs with _ | ⟨x, _ | ⟨y, t⟩⟩ <;> exact ⟨rfl, rfl⟩
set_option maxHeartbeats 20000000 in
theorem l12Job_c (s : ByteArray) (v : Value) (xs : List Int) (w : World) (hv : Ints w v xs) (hn : xs.length ≤ 900) :
 Calls Tryz.prog 127 #[.string s, v] w fun e w' => e = .returned (jobV (jobE s.data.toList xs).1 (jobE s.data.toList xs).2.1 (jobE s.data.toList xs).2.2) ∧ Below w.heap.size w w' := by
 obtain ⟨i, hi, hz0, hz1, hz2⟩ := info_parts info_int
 have HOW := Lib.hid (fun (W : World) (hb : Below w.heap.size w W) => l1OwnI_c v xs W (hv.below hb) (by omega))
 have Z0 := Lib.hid (((Bk.new w 123 #[.int .i64 0, .int .i64 0, .int .i64 0]).alloc (.cells #[.string ⟨#[115, 104, 111, 119]⟩, .string ⟨#[99, 108, 101, 97, 114]⟩, .string ⟨#[100, 97, 114, 107]⟩, .string ⟨#[108, 105, 116]⟩, .string ⟨#[109, 101, 110, 100]⟩, .string ⟨#[116, 117, 114, 110]⟩, .string ⟨#[109, 105, 114, 114, 111, 114]⟩] 9)).alloc (.cells #[.int .i64 2, .int .i64 1, .int .i64 2, .int .i64 2, .int .i64 1, .int .i64 0, .int .i64 0] 3))
 have A0 := (Bk.new (w.alloc (.cells #[.int .i64 0, .int .i64 0, .int .i64 0] 123)) 9 #[.string ⟨#[115, 104, 111, 119]⟩, .string ⟨#[99, 108, 101, 97, 114]⟩, .string ⟨#[100, 97, 114, 107]⟩, .string ⟨#[108, 105, 116]⟩, .string ⟨#[109, 101, 110, 100]⟩, .string ⟨#[116, 117, 114, 110]⟩, .string ⟨#[109, 105, 114, 114, 111, 114]⟩]).alloc (.cells #[.int .i64 2, .int .i64 1, .int .i64 2, .int .i64 2, .int .i64 1, .int .i64 0, .int .i64 0] 3)
 have M0 := Bk.new ((w.alloc (.cells #[.int .i64 0, .int .i64 0, .int .i64 0] 123)).alloc (.cells #[.string ⟨#[115, 104, 111, 119]⟩, .string ⟨#[99, 108, 101, 97, 114]⟩, .string ⟨#[100, 97, 114, 107]⟩, .string ⟨#[108, 105, 116]⟩, .string ⟨#[109, 101, 110, 100]⟩, .string ⟨#[116, 117, 114, 110]⟩, .string ⟨#[109, 105, 114, 114, 111, 114]⟩] 9)) 3 #[.int .i64 2, .int .i64 1, .int .i64 2, .int .i64 2, .int .i64 1, .int .i64 0, .int .i64 0]
 simp only [World.size_alloc] at A0 M0
 have HA := Lib.hid (fun (j : Nat) (hj : j < 7) => (A0.cell j).trans (wds_at j hj))
 have HMY := Lib.hid (fun (j : Nat) (hj : j < 7) => (M0.cell j).trans (many_at j hj))
 have hb0 : Below w.heap.size w (((w.alloc (.cells #[.int .i64 0, .int .i64 0, .int .i64 0] 123)).alloc (.cells #[.string ⟨#[115, 104, 111, 119]⟩, .string ⟨#[99, 108, 101, 97, 114]⟩, .string ⟨#[100, 97, 114, 107]⟩, .string ⟨#[108, 105, 116]⟩, .string ⟨#[109, 101, 110, 100]⟩, .string ⟨#[116, 117, 114, 110]⟩, .string ⟨#[109, 105, 114, 114, 111, 114]⟩] 9)).alloc (.cells #[.int .i64 2, .int .i64 1, .int .i64 2, .int .i64 2, .int .i64 1, .int .i64 0, .int .i64 0] 3)) := by (repeat (first | exact Below.refl _ _ | exact (Below.refl _ _).drew | assumption | exact below_one _ | refine Below.chain ?_ (by assumption) | refine Below.drew ?_ | refine Below.alc ?_ _ | refine below_drewN ?_ | (refine Below.setCell ?_ ?_ _) | exact Nat.le_refl _ | (simp; done) | (simp; omega)))
 obtain ⟨a, c, rfl, _, _, _⟩ := hv.parts
 clear hv A0 M0
 go_enter Tryz.func127, Tryz.ntmps127
 go_wp2
 generalize World.alloc (World.alloc (World.alloc _ _) _) _ = wb at *
 have HB := Lib.hid hb0
 clear hb0
 go_loopw [7] (fun i wr => ∃ k : Nat, k ≤ 7 ∧ i = .int .i64 (k : Int) ∧ Hid (∀ j, j < k → ¬ (s.data.toList = wdsL.getD j [] ∧ xs.length = manyL.getD j 0)) ∧ wb = wr) (fun i _ => 8 - (intOf i).toNat)
 case atStart => exact ⟨0, by omega, rfl, fun j hj => by omega, rfl⟩
 case round =>
  obtain ⟨k, hk, rfl, HN, rfl⟩ := hrel
  by_cases hlt : k < 7
  · have hd : decide ((k : Int) < 7) = true := by simp; omega
    have hcw := HA.out k hlt
    have hcm := HMY.out k hlt
    have HNX : Hid (¬ (s.data.toList = wdsL.getD k [] ∧ xs.length = manyL.getD k 0) → ∀ j, j < k + 1 → ¬ (s.data.toList = wdsL.getD j [] ∧ xs.length = manyL.getD j 0)) := fun h j hj => by
     by_cases hj2 : j < k
     · exact HN.out j hj2
     · obtain rfl : j = k := by omega
       exact h
    obtain ⟨X, hX⟩ : ∃ X, bs (wdsL.getD k []) = X := ⟨_, rfl⟩
    obtain ⟨m, hm⟩ : ∃ m, manyL.getD k 0 = m := ⟨_, rfl⟩
    have HY := Lib.hid (fun (h1 : s.data.toList = wdsL.getD k []) (h2 : xs.length = manyL.getD k 0) => jobE_yes hlt h1 h2)
    rw [hX] at hcw
    rw [hm] at hcm HNX HY
    have HX : Hid (s.data.toList = wdsL.getD k [] ↔ s = X) := by
     show _ ↔ _
     rw [← hX]
     exact ⟨fun h => by rw [← h, bs_of], fun h => by rw [h, bs_list]⟩
    clear hX hm HN
    by_cases hs : s = X
    · have hse := str_eq hs
      by_cases hl : xs.length = m
      · have hle : ((xs.length : Int) == (m : Int)) = true := by rw [hl]; simp
        have HF := Lib.hid (HY.out (HX.out.2 hs) hl)
        clear hs hl HY HX HNX
        as_aux_lemma =>
        go_wp2_with fail
        refine (HOW.out _ HB.out).mono ?_
        rintro e w1 ⟨u, rfl, ho, hb1⟩
        have HBW := Lib.hid hb1
        have HO1 := Lib.hid ho
        clear hb1 ho HA HMY hcw hcm
        go_wp2_with (at_builtin; refine wpList_append_own_at _ rfl _ _ 37 rfl wb.heap.size 3 i (.int .i64 0) 1 8 Tryz.underlying37 hi hz0 hz1 hz2 rfl (by decide) _ xs.length (ints xs) rfl (HO1.out.alloc _) ⟨w1.heap.size, 0, none⟩ 2 2 [.int .i64 0, .int .i64 0] rfl rfl (news_new _ [.int .i64 0, .int .i64 0] _) (by simp [Value.oneCell']) (by unfold maxLen; omega) (by omega) (by have := HBW.out.size; simp only [World.size_alloc]; omega) ?_)
        intro v' w2 ho5 hg5 _ _
        have HB7 := Lib.hid ((Below.alc HBW.out _).grown hg5 (by have := HBW.out.size; simp only [World.size_alloc]; omega) (fun g hg => (HO1.out.lt g hg).1))
        have HB2 := Lib.hid (Below.chain HB.out HB7.out)
        have Z2 := Lib.hid (Z0.out.below HB7.out)
        have hil : (xs ++ [0, 0]).length = xs.length + 2 := by simp
        obtain ⟨ua2, uc2, rfl, hc3, hc4, HC⟩ := (show Ints w2 v' (xs ++ [0, 0]) from Ints.of_own (ownsRow_cast ho5 (by simp) (by simp [ints]))).parts
        obtain ⟨ub, uo, rfl, c0⟩ := HC.out 0 _ (pad_at xs).1
        obtain ⟨ub2, uo2, hu, c1⟩ := HC.out 1 _ (pad_at xs).2
        obtain ⟨e1, e2⟩ : ub2 = ub ∧ uo2 = uo := by injection hu with h1; injection h1 with h2 h3; exact ⟨h2.symm, h3.symm⟩
        subst e1 e2
        have c0 : w2.cell? ⟨ub2, uo2, none⟩ = some (.int .i64 (xs.getD 0 0)) := c0
        rw [hil] at hc3 ⊢
        obtain ⟨p, hp⟩ : ∃ p, xs.getD 0 0 = p := ⟨_, rfl⟩
        obtain ⟨q, hq⟩ : ∃ q, xs.getD 1 0 = q := ⟨_, rfl⟩
        rw [hp] at c0
        rw [hq] at c1
        have HP := Lib.hid hp
        have HQ := Lib.hid hq
        clear hp hq HC hu ho5 hg5 HB7 HO1 HBW hil
        have z0 : w2.cell? ⟨w.heap.size, 0, none⟩ = some (.int .i64 0) := Z2.out.cell 0
        have z1 : w2.cell? ⟨w.heap.size, 1, none⟩ = some (.int .i64 0) := Z2.out.cell 1
        have z2 : w2.cell? ⟨w.heap.size, 2, none⟩ = some (.int .i64 0) := Z2.out.cell 2
        have g0 : w2.frozen? ⟨w.heap.size, 0, none⟩ = false := Z2.out.frozen 0
        have g1 : w2.frozen? ⟨w.heap.size, 1, none⟩ = false := Z2.out.frozen 1
        have g2 : w2.frozen? ⟨w.heap.size, 2, none⟩ = false := Z2.out.frozen 2
        obtain ⟨n2, hn2⟩ : ∃ n2, xs.length + 2 = n2 := ⟨_, rfl⟩
        have hn3 : 2 ≤ n2 := by omega
        rw [hn2] at hc3 ⊢
        clear hn2
        go_wp2
        go_region
        go_wp2
        exact bodyPost_ret (v := .agg #[.int .i64 ((k : Int) + 1), .int .i64 p, .int .i64 q]) (by simp [results, Tryz.results127, go_sem, z0, z1, z2]) rfl ⟨by rw [HF.out]; simp only [HP.out, HQ.out]; rfl, by have hb := HB2.out; (repeat (first | exact Below.refl _ _ | exact (Below.refl _ _).drew | assumption | exact below_one _ | refine Below.chain ?_ (by assumption) | refine Below.drew ?_ | refine Below.alc ?_ _ | refine below_drewN ?_ | (refine Below.setCell ?_ ?_ _) | exact Nat.le_refl _ | (simp; done) | (simp; omega)))⟩
      · have hle : ((xs.length : Int) == (m : Int)) = false := by simp; omega
        have HF := Lib.hid (HNX.out (fun h => hl h.2))
        clear hl HNX HX hs HY
        go_wp2
        go_roundw
        case rel => exact ⟨k + 1, by omega, by go_num, HF.out, by trivial⟩
        case measure => first | (simp [intOf]; done) | (simp [intOf]; omega)
    · have hse := str_ne hs
      have HF := Lib.hid (HNX.out (fun h => hs (HX.out.1 h.1)))
      clear hs HNX HX HY
      go_wp2
      go_roundw
      case rel => exact ⟨k + 1, by omega, by go_num, HF.out, by trivial⟩
      case measure => first | (simp [intOf]; done) | (simp [intOf]; omega)
  · obtain rfl : k = 7 := by omega
    have HF := Lib.hid (jobE_no HN.out)
    have z0 : wb.cell? ⟨w.heap.size, 0, none⟩ = some (.int .i64 0) := Z0.out.cell 0
    have z1 : wb.cell? ⟨w.heap.size, 1, none⟩ = some (.int .i64 0) := Z0.out.cell 1
    have z2 : wb.cell? ⟨w.heap.size, 2, none⟩ = some (.int .i64 0) := Z0.out.cell 2
    have g0 : wb.frozen? ⟨w.heap.size, 0, none⟩ = false := Z0.out.frozen 0
    have g1 : wb.frozen? ⟨w.heap.size, 1, none⟩ = false := Z0.out.frozen 1
    have g2 : wb.frozen? ⟨w.heap.size, 2, none⟩ = false := Z0.out.frozen 2
    go_wp2
    exact bodyPost_ret (v := .agg #[.int .i64 0, .int .i64 0, .int .i64 0]) (by simp [results, Tryz.results127, go_sem, z0, z1, z2]) rfl ⟨by rw [HF.out]; rfl, by have hb := HB.out; (repeat (first | exact Below.refl _ _ | exact (Below.refl _ _).drew | assumption | exact below_one _ | refine Below.chain ?_ (by assumption) | refine Below.drew ?_ | refine Below.alc ?_ _ | refine below_drewN ?_ | (refine Below.setCell ?_ ?_ _) | exact Nat.le_refl _ | (simp; done) | (simp; omega)))⟩
end Go.Proofs.YtohgjfdbnkjefaaGreatDoor
