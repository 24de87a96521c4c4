import Derived.Test.YtohgjfdbnkjefaaGreatDoorKc13
import Derived.Deep.AppendLies
import Derived.RangeFuncBox
import Derived.RangeFuncLeaves
import Derived.Shelf.Abstract
import Derived.WalkKit
import Derived.OwnWalkIn
import Derived.TacticsInMore
import Derived.LoopNIn
import Derived.LoopIn
import Derived.Maps.AppendAt
import Derived.Test.YtohgjfdbnkjefaaGreatDoorSfc
import Derived.Lib.SlicesCompact
open Go.Lib (hid)
namespace Go.Proofs.YtohgjfdbnkjefaaGreatDoor
open Go.RowKit
set_option linter.unusedVariables false
set_option linter.unusedSimpArgs false
set_option maxRecDepth 100000
def sqTo (xss : List (List Int)) (k : Nat) : Nat := ((xss.take k).map fun g => g.length * g.length).sum
theorem sqTo_succ {xss : List (List Int)} {k : Nat} {g : List Int} (h : xss[k]? = some g) : sqTo xss (k + 1) = sqTo xss k + g.length * g.length := by
 unfold sqTo; rw [take_snoc h]; simp
theorem sq_le : ∀ xs : List (List Int), (xs.map fun g => g.length * g.length).sum ≤ (xs.map List.length).sum * (xs.map List.length).sum
 | [] => by simp
 | g :: t => by
  simp only [List.map_cons, List.sum_cons]
  have := sq_le t
  generalize (t.map List.length).sum = s at *
  generalize (t.map fun g => g.length * g.length).sum = q at *
  generalize g.length = n
  rw [Nat.add_mul, Nat.mul_add, Nat.mul_add]
  omega
theorem take_sum : ∀ (xs : List (List Int)) (k : Nat), ((xs.take k).map List.length).sum ≤ (xs.map List.length).sum
 | [], k => by simp
 | g :: t, 0 => by simp
 | g :: t, k + 1 => by
  simp only [List.take_succ_cons, List.map_cons, List.sum_cons]
  have := take_sum t k
  omega
theorem sqTo_le (d l : Int) (k : Nat) : sqTo (grpL d l) k ≤ 100 := by
 have h1 := sq_le ((grpL d l).take k)
 have h2 := take_sum (grpL d l) k
 rw [grp_sum] at h2
 have h3 := Nat.mul_le_mul h2 h2
 unfold sqTo
 omega
theorem grp_ten {d l : Int} {k : Nat} {g : List Int} (h : (grpL d l)[k]? = some g) : g.length ≤ 10 := by
 have h1 := sqTo_succ h
 have h2 := sqTo_le d l (k + 1)
 by_cases hg : g.length ≤ 10
 · exact hg
 · have := Nat.mul_le_mul (show 11 ≤ g.length by omega) (show 11 ≤ g.length by omega)
   omega
def csS (d l : Int) : Nat := sqTo (grpL d l) (grpL d l).length
def csV (d l : Int) : Value := .tuple #[if faultB d l then fracV (csS d l) 100 else .agg #[.int .i64 0, .int .i64 0], .bool (faultB d l)]
set_option maxHeartbeats 2000000 in
theorem ChanceSameDigit_c (d l : Int) (w : World) : Calls Tryz.prog 202 #[.agg #[.int .i64 d, .int .i64 l]] w fun e w' => e = .returned (csV d l) ∧ Below w.heap.size w w' := by
 have X0 := hid ((Bk.new w 46 #[.int .i64 d, .int .i64 l]).alloc (.cells #[.int .i64 0, .int .i64 0] 174))
 have b0 := Bk.new (w.alloc (.cells #[.int .i64 d, .int .i64 l] 46)) 174 #[.int .i64 0, .int .i64 0]
 rw [World.size_alloc] at b0
 have B0 := hid b0
 clear b0
 have HB0 : Hid (Below w.heap.size w ((w.alloc (.cells #[.int .i64 d, .int .i64 l] 46)).alloc (.cells #[.int .i64 0, .int .i64 0] 174))) := Below.alc (below_one _) _
 obtain ⟨q0, q1⟩ : ((w.alloc (.cells #[.int .i64 d, .int .i64 l] 46)).alloc (.cells #[.int .i64 0, .int .i64 0] 174)).cell? ⟨w.heap.size, 0, none⟩ = some (.int .i64 d) ∧ ((w.alloc (.cells #[.int .i64 d, .int .i64 l] 46)).alloc (.cells #[.int .i64 0, .int .i64 0] 174)).cell? ⟨w.heap.size, 1, none⟩ = some (.int .i64 l) := ⟨X0.out.cell 0, X0.out.cell 1⟩
 rcases hq : faultB d l with _ | _
 · have HF := hid (show csV d l = .tuple #[.agg #[.int .i64 0, .int .i64 0], .bool false] by simp [csV, hq])
   have HQ := hid hq; clear hq
   go_enter Tryz.func202, Tryz.ntmps202
   go_wp2_with fail
   refine (IsFault_c d l _).mono ?_
   rintro e w1 ⟨rfl, hb1⟩
   rw [HQ.out]
   have B1 := B0.out.below hb1
   have e0 : w1.cell? ⟨w.heap.size + 1, 0, none⟩ = some (.int .i64 0) := B1.cell 0
   have e1 : w1.cell? ⟨w.heap.size + 1, 1, none⟩ = some (.int .i64 0) := B1.cell 1
   have f0 := B1.frozen 0
   have f1 := B1.frozen 1
   have HB1 := hid (Below.chain HB0.out hb1)
   obtain ⟨u0, u1, hb7⟩ := two_set (.int .i64 0) (.int .i64 0) e0 e1 HB1.out (by omega)
   clear hb1 B1
   go_wp2
   clear e0 e1 f0 f1
   generalize (World.setCell (World.setCell _ _ _) _ _) = w3 at *
   refine bodyPost_ret (v := csV d l) (by rw [HF.out]; simp [results, Tryz.results202, go_sem, u0, u1]) rfl ⟨rfl, hb7⟩
 · have HF := hid (show csV d l = .tuple #[fracV (csS d l) 100, .bool true] by simp [csV, hq])
   have HQ := hid hq
   obtain ⟨d0, d1, l0, l1, _⟩ := faultB_true hq
   clear hq
   have HS : Hid (csS d l = sqTo (grpL d l) (grpL d l).length) := rfl
   have HSL := hid (fun k => sqTo_le d l k)
   have HGT := hid (fun k g (h : (grpL d l)[k]? = some g) => grp_ten h)
   have HGR := hid (fun w => groups_c d l w d0 d1 l0 l1)
   generalize csS d l = S at *
   generalize grpL d l = xss at *
   go_enter Tryz.func202, Tryz.ntmps202
   go_wp2_with fail
   refine (IsFault_c d l _).mono ?_
   rintro e w1 ⟨rfl, hb1⟩
   rw [HQ.out]
   have B1 := hid (B0.out.below hb1)
   have X1 := X0.out.below hb1
   obtain ⟨q2, q3⟩ : w1.cell? ⟨w.heap.size, 0, none⟩ = some (.int .i64 d) ∧ w1.cell? ⟨w.heap.size, 1, none⟩ = some (.int .i64 l) := ⟨X1.cell 0, X1.cell 1⟩
   have HB1 := hid (Below.chain HB0.out hb1)
   clear hb1 X1 q0 q1 B0 X0 HB0
   go_wp2_with fail
   refine (HGR.out _).mono ?_
   rintro e w2 ⟨u, rfl, ho, hb2⟩
   have B2 := hid (B1.out.below hb2)
   have HB2 := hid (Below.chain HB1.out hb2)
   obtain ⟨a, c, rfl, hxl, HC⟩ := ho.parts
   clear hb2 B1 HB1 q2 q3 ho HGR
   go_wp2
   go_loopw [4, 14] (fun s j wr => ∃ k : Nat, k ≤ xss.length ∧ j = .int .i64 (k : Int) ∧ s = .int .i64 ((sqTo xss k : Nat) : Int) ∧ Hid (Below w2.heap.size w2 wr)) (fun _ j _ => xss.length - (intOf j).toNat)
   case atStart => exact ⟨0, by omega, rfl, rfl, Below.refl _ _⟩
   case round =>
    obtain ⟨k, hk, rfl, rfl, HBr⟩ := hrel
    by_cases hlt : k < xss.length
    · have hdd : decide ((k : Int) < (xss.length : Int)) = true := by simp; omega
      obtain ⟨g, hg⟩ := elem_at hlt
      obtain ⟨b, off, a2, c2, rfl, f0, hgl, _⟩ := HC.out k g hg.out
      have g0 := cell_later HBr.out f0
      have hg10 := HGT.out k g hg.out
      have hs1 := HSL.out k
      have HX := hid (sqTo_succ hg.out)
      have hsq : g.length * g.length ≤ 100 := Nat.mul_le_mul hg10 hg10
      have hwm : IntKind.i64.wrap ((g.length : Int) * (g.length : Int)) = ((g.length * g.length : Nat) : Int) := by rw [← Int.natCast_mul, IntWalk.i64_in _ (by omega)]
      have hmm : (g.length : Int) * (g.length : Int) = ((g.length * g.length : Nat) : Int) := by rw [Int.natCast_mul]
      generalize hn : g.length * g.length = gg at *
      have HGG := hid hn
      clear f0 hn
      generalize sqTo xss k = s at *
      have hwa : IntKind.i64.wrap ((s : Int) + (gg : Int)) = (s : Int) + (gg : Int) := IntWalk.i64_in _ (by omega)
      go_wp2
      go_roundw
      case rel => exact ⟨k + 1, by omega, by go_num, by rw [HX.out]; first | rfl | simp, HBr⟩
      case measure => simp [intOf]; omega
    · obtain rfl : k = xss.length := by omega
      have hdd : decide ((xss.length : Int) < (xss.length : Int)) = false := by simp
      have hs1 := HSL.out xss.length
      rw [← HS.out] at *
      have HFR := hid (fraction_c S 100 (by omega) (by omega) (by omega) wr)
      go_wp2_with fail
      refine HFR.out.mono ?_
      rintro e w4 ⟨rfl, hb5⟩
      have BB2 := (B2.out.below HBr.out).below hb5
      have hb6 := Below.chain (Below.chain HB2.out HBr.out) hb5
      have e0 : w4.cell? ⟨w.heap.size + 1, 0, none⟩ = some (.int .i64 0) := BB2.cell 0
      have e1 : w4.cell? ⟨w.heap.size + 1, 1, none⟩ = some (.int .i64 0) := BB2.cell 1
      have f0 := BB2.frozen 0
      have f1 := BB2.frozen 1
      obtain ⟨u0, u1, hb7⟩ := two_set (.int .i64 (fracN S 100)) (.int .i64 (fracD S 100)) e0 e1 hb6 (by omega)
      clear BB2 hb6 hb5 HB2 HBr
      unfold fracV at HF ⊢
      go_wp2
      clear e0 e1 f0 f1
      generalize (World.setCell (World.setCell w4 _ _) _ _) = w3 at *
      refine bodyPost_ret (v := csV d l) (by rw [HF.out]; simp [results, Tryz.results202, go_sem, u0, u1]) rfl ⟨rfl, hb7⟩
set_option maxHeartbeats 2000000 in
theorem sChanceSameDigit_c (d l : Int) (w : World) : Calls Tryz.prog 237 #[.agg #[.int .i64 d, .int .i64 l]] w fun e w' => e = .returned (csV d l) ∧ Below w.heap.size w w' := by
 have X0 := hid ((Bk.new w 46 #[.int .i64 d, .int .i64 l]).alloc (.cells #[.int .i64 0, .int .i64 0] 174))
 have b0 := Bk.new (w.alloc (.cells #[.int .i64 d, .int .i64 l] 46)) 174 #[.int .i64 0, .int .i64 0]
 rw [World.size_alloc] at b0
 have B0 := hid b0
 clear b0
 have HB0 : Hid (Below w.heap.size w ((w.alloc (.cells #[.int .i64 d, .int .i64 l] 46)).alloc (.cells #[.int .i64 0, .int .i64 0] 174))) := Below.alc (below_one _) _
 obtain ⟨q0, q1⟩ : ((w.alloc (.cells #[.int .i64 d, .int .i64 l] 46)).alloc (.cells #[.int .i64 0, .int .i64 0] 174)).cell? ⟨w.heap.size, 0, none⟩ = some (.int .i64 d) ∧ ((w.alloc (.cells #[.int .i64 d, .int .i64 l] 46)).alloc (.cells #[.int .i64 0, .int .i64 0] 174)).cell? ⟨w.heap.size, 1, none⟩ = some (.int .i64 l) := ⟨X0.out.cell 0, X0.out.cell 1⟩
 rcases hq : faultB d l with _ | _
 · have HF := hid (show csV d l = .tuple #[.agg #[.int .i64 0, .int .i64 0], .bool false] by simp [csV, hq])
   have HQ := hid hq; clear hq
   go_enter Tryz.func237, Tryz.ntmps237
   go_wp2_with fail
   refine (l3Fault_c d l _).mono ?_
   rintro e w1 ⟨rfl, hb1⟩
   rw [HQ.out]
   have B1 := B0.out.below hb1
   have e0 : w1.cell? ⟨w.heap.size + 1, 0, none⟩ = some (.int .i64 0) := B1.cell 0
   have e1 : w1.cell? ⟨w.heap.size + 1, 1, none⟩ = some (.int .i64 0) := B1.cell 1
   have f0 := B1.frozen 0
   have f1 := B1.frozen 1
   have HB1 := hid (Below.chain HB0.out hb1)
   obtain ⟨u0, u1, hb7⟩ := two_set (.int .i64 0) (.int .i64 0) e0 e1 HB1.out (by omega)
   clear hb1 B1
   go_wp2
   clear e0 e1 f0 f1
   generalize (World.setCell (World.setCell _ _ _) _ _) = w3 at *
   refine bodyPost_ret (v := csV d l) (by rw [HF.out]; simp [results, Tryz.results237, go_sem, u0, u1]) rfl ⟨rfl, hb7⟩
 · have HF := hid (show csV d l = .tuple #[fracV (csS d l) 100, .bool true] by simp [csV, hq])
   have HQ := hid hq
   obtain ⟨d0, d1, l0, l1, _⟩ := faultB_true hq
   clear hq
   have HS : Hid (csS d l = sqTo (grpL d l) (grpL d l).length) := rfl
   have HSL := hid (fun k => sqTo_le d l k)
   have HGT := hid (fun k g (h : (grpL d l)[k]? = some g) => grp_ten h)
   have HGR := hid (fun w => l3Groups_c d l w d0 d1 l0 l1)
   generalize csS d l = S at *
   generalize grpL d l = xss at *
   go_enter Tryz.func237, Tryz.ntmps237
   go_wp2_with fail
   refine (l3Fault_c d l _).mono ?_
   rintro e w1 ⟨rfl, hb1⟩
   rw [HQ.out]
   have B1 := hid (B0.out.below hb1)
   have X1 := X0.out.below hb1
   obtain ⟨q2, q3⟩ : w1.cell? ⟨w.heap.size, 0, none⟩ = some (.int .i64 d) ∧ w1.cell? ⟨w.heap.size, 1, none⟩ = some (.int .i64 l) := ⟨X1.cell 0, X1.cell 1⟩
   have HB1 := hid (Below.chain HB0.out hb1)
   clear hb1 X1 q0 q1 B0 X0 HB0
   go_wp2_with fail
   refine (HGR.out _).mono ?_
   rintro e w2 ⟨u, rfl, ho, hb2⟩
   have B2 := hid (B1.out.below hb2)
   have HB2 := hid (Below.chain HB1.out hb2)
   obtain ⟨a, c, rfl, hxl, HC⟩ := ho.parts
   clear hb2 B1 HB1 q2 q3 ho HGR
   go_wp2
   go_loopw [4, 6] (fun s j wr => ∃ k : Nat, k ≤ xss.length ∧ j = .int .i64 (k : Int) ∧ s = .int .i64 ((sqTo xss k : Nat) : Int) ∧ Hid (Below w2.heap.size w2 wr)) (fun _ j _ => xss.length - (intOf j).toNat)
   case atStart => exact ⟨0, by omega, rfl, rfl, Below.refl _ _⟩
   case round =>
    obtain ⟨k, hk, rfl, rfl, HBr⟩ := hrel
    by_cases hlt : k < xss.length
    · have hdd : decide ((k : Int) < (xss.length : Int)) = true := by simp; omega
      obtain ⟨g, hg⟩ := elem_at hlt
      obtain ⟨b, off, a2, c2, rfl, f0, hgl, _⟩ := HC.out k g hg.out
      have g0 := cell_later HBr.out f0
      have hg10 := HGT.out k g hg.out
      have hs1 := HSL.out k
      have HX := hid (sqTo_succ hg.out)
      have hsq : g.length * g.length ≤ 100 := Nat.mul_le_mul hg10 hg10
      have hwm : IntKind.i64.wrap ((g.length : Int) * (g.length : Int)) = ((g.length * g.length : Nat) : Int) := by rw [← Int.natCast_mul, IntWalk.i64_in _ (by omega)]
      have hmm : (g.length : Int) * (g.length : Int) = ((g.length * g.length : Nat) : Int) := by rw [Int.natCast_mul]
      generalize hn : g.length * g.length = gg at *
      have HGG := hid hn
      clear f0 hn
      generalize sqTo xss k = s at *
      have hwa : IntKind.i64.wrap ((s : Int) + (gg : Int)) = (s : Int) + (gg : Int) := IntWalk.i64_in _ (by omega)
      have hrh : (wr.drew.cell? ⟨b, off + k, none⟩ = some (.slice a2 g.length c2) ∧ Below w2.heap.size w2 wr.drew) := ⟨g0, HBr.out.drew⟩
      go_wp2_with fail
      refine wp_region_noPanic ?_
      refine wp_region_held_drew (S := fun w' : World => w'.cell? ⟨b, off + k, none⟩ = some (.slice a2 g.length c2) ∧ Below w2.heap.size w2 w') (by kernel_rfl) hrh (fun hHeld => ?_)
      refine' tkY 0 hHeld ?r_1
      try simp only [Act.put, xqA, xqB, xqC]
      refine' tkY 1 hHeld ?r_2
      try simp only [Act.put, xqA, xqB, xqC]
      refine' tkY 2 hHeld ?r_3
      try simp only [Act.put, xqA, xqB, xqC]
      refine' tkY 3 hHeld ?r_4
      try simp only [Act.put, xqA, xqB, xqC]
      refine' tkY 4 hHeld ?r_5
      try simp only [Act.put, xqA, xqB, xqC]
      refine' tkY 5 hHeld ?r_6
      try simp only [Act.put, xqA, xqB, xqC]
      refine' tkY 6 hHeld ?r_7
      try simp only [Act.put, xqA, xqB, xqC]
      refine' tkY 7 hHeld ?r_8
      try simp only [Act.put, xqA, xqB, xqC]
      refine' tkY 8 hHeld ?r_9
      try simp only [Act.put, xqA, xqB, xqC]
      refine' tkY 9 hHeld ?r_10
      try simp only [Act.put, xqA, xqB, xqC]
      refine' tkY 10 hHeld ?r_11
      try simp only [Act.put, xqA, xqB, xqC]
      refine' tkY 11 hHeld ?r_12
      try simp only [Act.put, xqA, xqB, xqC]
      refine' tkY 12 hHeld ?r_13
      try simp only [Act.put, xqA, xqB, xqC]
      refine' tkY 13 hHeld ?r_14
      try simp only [Act.put, xqA, xqB, xqC]
      refine wpAnyH_done (by kernel_rfl) ?_ _
      refine NoPanic.normal ?_
      have HBd := hid hHeld.2
      clear hHeld hrh
      go_wp2
      go_roundw
      case rel => exact ⟨k + 1, by omega, by go_num, by rw [HX.out]; refine int_val ?_; rw [show IntKind.i64.wrap (gg : Int) = (gg : Int) from IntWalk.i64_in _ (by omega), hwa]; simp, HBd⟩
      case measure => simp [intOf]; omega
    · obtain rfl : k = xss.length := by omega
      have hdd : decide ((xss.length : Int) < (xss.length : Int)) = false := by simp
      have hs1 := HSL.out xss.length
      rw [← HS.out] at *
      have HFR := hid (l9Cut_c S 100 (by omega) (by omega) (by omega) wr)
      go_wp2_with fail
      refine HFR.out.mono ?_
      rintro e w4 ⟨rfl, hb5⟩
      have BB2 := (B2.out.below HBr.out).below hb5
      have hb6 := Below.chain (Below.chain HB2.out HBr.out) hb5
      have e0 : w4.cell? ⟨w.heap.size + 1, 0, none⟩ = some (.int .i64 0) := BB2.cell 0
      have e1 : w4.cell? ⟨w.heap.size + 1, 1, none⟩ = some (.int .i64 0) := BB2.cell 1
      have f0 := BB2.frozen 0
      have f1 := BB2.frozen 1
      obtain ⟨u0, u1, hb7⟩ := two_set (.int .i64 (fracN S 100)) (.int .i64 (fracD S 100)) e0 e1 hb6 (by omega)
      clear BB2 hb6 hb5 HB2 HBr
      unfold fracV at HF ⊢
      go_wp2
      clear e0 e1 f0 f1
      generalize (World.setCell (World.setCell w4 _ _) _ _) = w3 at *
      refine bodyPost_ret (v := csV d l) (by rw [HF.out]; simp [results, Tryz.results237, go_sem, u0, u1]) rfl ⟨rfl, hb7⟩
theorem TabM.below {w w' : World} (h : TabM w) (hb : Below w.heap.size w w') : TabM w' := h.on hb
def frA (ok : Bool) (a b : Nat) : Nat := if ok then a / Nat.gcd a b else 0
def frB (ok : Bool) (a b : Nat) : Nat := if ok then b / Nat.gcd a b else 0
theorem frV_eq (ok : Bool) (a b : Nat) : (if ok then fracV a b else .agg #[.int .i64 0, .int .i64 0]) = .agg #[.int .i64 ((frA ok a b : Nat) : Int), .int .i64 ((frB ok a b : Nat) : Int)] := by
 cases ok <;> rfl
/-! tests -/
/-! same digits -/
theorem two_mul_le (x y : Nat) : 2 * (x * y) ≤ x * x + y * y := by
 rcases Nat.le_total x y with h | h
 · obtain ⟨d, rfl⟩ := Nat.exists_eq_add_of_le h
   simp only [Nat.add_mul, Nat.mul_add]
   have := Nat.mul_comm x d
   omega
 · obtain ⟨d, rfl⟩ := Nat.exists_eq_add_of_le h
   simp only [Nat.add_mul, Nat.mul_add]
   have := Nat.mul_comm y d
   omega
theorem cross_le (x : Nat) : ∀ xs : List Nat, 2 * (x * xs.sum) ≤ xs.length * (x * x) + (xs.map fun y => y * y).sum
 | [] => by simp
 | y :: t => by
  have h1 := cross_le x t
  have h2 := two_mul_le x y
  simp only [List.sum_cons, List.map_cons, List.length_cons, Nat.add_mul, Nat.mul_add, Nat.one_mul]
  omega
theorem cauchy : ∀ xs : List Nat, xs.sum * xs.sum ≤ xs.length * (xs.map fun y => y * y).sum
 | [] => by simp
 | x :: t => by
  have h1 := cauchy t
  have h2 := cross_le x t
  have h3 := Nat.mul_comm x t.sum
  simp only [List.sum_cons, List.map_cons, List.length_cons, Nat.add_mul, Nat.mul_add, Nat.one_mul]
  omega
theorem cs_facts (d l : Int) : csS d l ≤ 100 ∧ 100 ≤ csS d l * (grpL d l).length ∧ 0 < (grpL d l).length ∧ (grpL d l).length ≤ 10 := by
 have h1 := sqTo_le d l (grpL d l).length
 have h2 := cauchy ((grpL d l).map List.length)
 rw [grp_sum, List.length_map, List.map_map] at h2
 have e : csS d l = ((grpL d l).map ((fun y => y * y) ∘ List.length)).sum := by
  unfold csS sqTo; rw [List.take_length]; rfl
 rw [← e, Nat.mul_comm (grpL d l).length] at h2
 refine ⟨h1, h2, ?_, grpTo_le _ _ _⟩
 rcases Nat.eq_zero_or_pos (grpL d l).length with h | h
 · rw [h] at h2; omega
 · exact h
def csA (d l : Int) : Nat := frA (faultB d l) (csS d l) 100
def csB (d l : Int) : Nat := frB (faultB d l) (csS d l) 100
theorem csV_fr (d l : Int) : csV d l = .tuple #[.agg #[.int .i64 ((csA d l : Nat) : Int), .int .i64 ((csB d l : Nat) : Int)], .bool (faultB d l)] := by
 unfold csV csA csB; rw [frV_eq]
def mbA (n : Int) : Nat := frA (inB n 0 9999) (mbS (n.toNat + 1)) (n.toNat + 1)
def mbB (n : Int) : Nat := frB (inB n 0 9999) (mbS (n.toNat + 1)) (n.toNat + 1)
theorem mbV_fr (n : Int) : mbV n = .tuple #[.agg #[.int .i64 ((mbA n : Nat) : Int), .int .i64 ((mbB n : Nat) : Int)], .bool (inB n 0 9999)] := by
 unfold mbV mbA mbB; rw [frV_eq]
def loopE : List Int → List Int → List (List Int)
 | [], _ => []
 | x :: t, part => ((part ++ [x]) :: loopE t (part ++ [x])) ++ loopE t part
def subsL (set : List Int) : List (List Int) := [] :: loopE set []
structure Fr (D : World → Nat → Prop) (w w' : World) : Prop where
 os : w'.os = w.os
 tape : w'.tape = w.tape
 output : w'.output = w.output
 size : w.heap.size ≤ w'.heap.size
 block : ∀ k, k < w.heap.size → ¬ D w k → w'.heap[k]? = w.heap[k]?
 own : ∀ k, D w' k → D w k ∨ w.heap.size ≤ k
theorem Fr.refl {D : World → Nat → Prop} (w : World) : Fr D w w := ⟨rfl, rfl, rfl, Nat.le_refl _, fun _ _ _ => rfl, fun _ h => .inl h⟩
theorem Fr.trans {D : World → Nat → Prop} {a b c : World} (h : Fr D a b) (k : Fr D b c) : Fr D a c where
 os := k.os.trans h.os
 tape := k.tape.trans h.tape
 output := k.output.trans h.output
 size := Nat.le_trans h.size k.size
 block := fun j hj hd => (k.block j (Nat.lt_of_lt_of_le hj h.size) (fun hd2 => by rcases h.own j hd2 with h3 | h3; exact hd h3; omega)).trans (h.block j hj hd)
 own := fun j hj => by
  rcases k.own j hj with h1 | h1
  · exact h.own j h1
  · exact .inr (Nat.le_trans h.size h1)
theorem Fr.cell {D : World → Nat → Prop} {w w' : World} (h : Fr D w w') {b o : Nat} {v : Value} (hc : w.cell? ⟨b, o, none⟩ = some v) (hd : ¬ D w b) : w'.cell? ⟨b, o, none⟩ = some v := by
 rw [World.cell?_of_block (w := w) (a := ⟨b, o, none⟩) (h.block b (World.block_lt_of_cell? _ _ hc) hd)]; exact hc
theorem Fr.ints {D : World → Nat → Prop} {w w' : World} (h : Fr D w w') {v : Value} {xs : List Int} (hv : Ints w v xs) (hd : ∀ g, v.ownBlock = some g → ¬ D w g) : Ints w' v xs := by
 obtain ⟨a, c, rfl, h1, h2, h3, h4⟩ := hv
 refine ⟨a, c, rfl, h1, h2, h3, fun hn => ?_⟩
 obtain ⟨b, off, rfl, hc⟩ := h4 hn
 refine ⟨b, off, rfl, fun j hj => ?_⟩
 have := hc j hj
 rw [List.getElem?_eq_getElem (by omega)] at this
 rw [h.cell this (hd b rfl), ← this, hc j hj]
structure Doer (D : World → Nat → Prop) (I : List (List Int) → World → Prop) (fn : Nat) (cb : Array Value) (S : List Int) : Prop where
 calls : CallsIt fn
 keepI : ∀ done w w', I done w → Below w.heap.size w w' → I done w'
 keepD : ∀ done w w', I done w → Below w.heap.size w w' → ∀ k, D w' k → D w k
 ltD : ∀ done w k, I done w → D w k → k < w.heap.size
 run : ∀ (done : List (List Int)) (part : List Int) v w, part.length ≤ 10 → (∀ y ∈ part, y ∈ S) → I done w → Ints w v part → (∀ g, v.ownBlock = some g → ¬ D w g) → Calls Tryz.prog fn (#[v] ++ cb) w fun e w' => e = .returned (.tuple #[]) ∧ I (done ++ [part]) w' ∧ Fr D w w'
theorem Doer.fr {D : World → Nat → Prop} {I : List (List Int) → World → Prop} {fn : Nat} {cb : Array Value} {S : List Int} (H : Doer D I fn cb S) {done : List (List Int)} {w w' : World} (hI : I done w) (hb : Below w.heap.size w w') : Fr D w w' :=
 ⟨hb.os, hb.tape, hb.output, hb.size, fun k hk _ => hb.block k hk, fun k hk => .inl (H.keepD done w w' hI hb k hk)⟩
structure SEnv (D : World → Nat → Prop) (w : World) (B2 B3 B4 fn : Nat) (cb : Array Value) (a : Option Addr) (c : Nat) (set : List Int) : Prop where
 c2 : w.cell? ⟨B2, 0, none⟩ = some (.func (.func fn) #[] cb)
 c3 : w.cell? ⟨B3, 0, none⟩ = some (.slice a set.length c)
 c4 : w.cell? ⟨B4, 0, none⟩ = some (.func (.func 279) #[] #[.pointer (some ⟨B2, 0, none⟩), .pointer (some ⟨B3, 0, none⟩), .pointer (some ⟨B4, 0, none⟩)])
 hs : Ints w (.slice a set.length c) set
 d2 : ¬ D w B2
 d3 : ¬ D w B3
 d4 : ¬ D w B4
 ds : ∀ g, (Value.slice a set.length c).ownBlock = some g → ¬ D w g
 lt2 : B2 < w.heap.size
 lts : ∀ g, (Value.slice a set.length c).ownBlock = some g → g < w.heap.size
theorem SEnv.keep {D : World → Nat → Prop} {w w' : World} {B2 B3 B4 fn : Nat} {cb : Array Value} {a : Option Addr} {c : Nat} {set : List Int} (h : SEnv D w B2 B3 B4 fn cb a c set) (hf : Fr D w w') : SEnv D w' B2 B3 B4 fn cb a c set where
 c2 := hf.cell h.c2 h.d2
 c3 := hf.cell h.c3 h.d3
 c4 := hf.cell h.c4 h.d4
 hs := hf.ints h.hs h.ds
 d2 := fun hd => by rcases hf.own _ hd with h1 | h1; exact h.d2 h1; have := World.block_lt_of_cell? _ _ h.c2; simp at this; omega
 d3 := fun hd => by rcases hf.own _ hd with h1 | h1; exact h.d3 h1; have := World.block_lt_of_cell? _ _ h.c3; simp at this; omega
 d4 := fun hd => by rcases hf.own _ hd with h1 | h1; exact h.d4 h1; have := World.block_lt_of_cell? _ _ h.c4; simp at this; omega
 ds := fun g hg hd => by rcases hf.own _ hd with h1 | h1; exact h.ds g hg h1; have := h.lts g hg; omega
 lt2 := Nat.lt_of_lt_of_le h.lt2 hf.size
 lts := fun g hg => Nat.lt_of_lt_of_le (h.lts g hg) hf.size
theorem loopE_len : ∀ (l part : List Int), (loopE l part).length + 1 = 2 ^ l.length
 | [], _ => rfl
 | x :: t, part => by
  have h1 := loopE_len t (part ++ [x])
  have h2 := loopE_len t part
  simp only [loopE, List.length_append, List.length_cons, Nat.pow_succ] at h1 h2 ⊢
  omega
def tenA : Array Value := #[.int .i64 0, .int .i64 1, .int .i64 2, .int .i64 3, .int .i64 4, .int .i64 5, .int .i64 6, .int .i64 7, .int .i64 8, .int .i64 9]
theorem tenA_eq : tenA.toList = ints tenI := rfl
theorem allDigits_c (w : World) : Calls Tryz.prog 251 #[] w fun e w' => ∃ u, e = .returned u ∧ w'.ownsRow w.heap.size 3 1 u 10 (ints tenI) ∧ Below w.heap.size w w' := by
 have ho := World.ownsRow_lit (e := 3) (size := 1) (base := w.heap.size) w tenA 10 (Nat.le_refl _) (by decide) rfl
 rw [tenA_eq] at ho
 unfold tenA at ho
 go_enter Tryz.func251, Tryz.ntmps251
 go_wp2
 go_ret
 exact ⟨_, rfl, ho, below_one _⟩
theorem l7Ten_c (w : World) : Calls Tryz.prog 225 #[] w fun e w' => ∃ u, e = .returned u ∧ w'.ownsRow w.heap.size 3 1 u 10 (ints tenI) ∧ Below w.heap.size w w' := by
 have ho := World.ownsRow_lit (e := 3) (size := 1) (base := w.heap.size) w tenA 10 (Nat.le_refl _) (by decide) rfl
 rw [tenA_eq] at ho
 unfold tenA at ho
 go_enter Tryz.func225, Tryz.ntmps225
 go_wp2
 go_ret
 exact ⟨_, rfl, ho, below_one _⟩
def bitB (s j : Nat) : Bool := (s / 2 ^ j) % 2 == 1
theorem bit_i64 (s j : Nat) (hs : s < 1024) : bits BinOp.and IntKind.i64 ((s : Int) / 2 ^ j) 1 = ((s / 2 ^ j % 2 : Nat) : Int) := by
 have h := Nat.div_le_self s (2 ^ j)
 have e : ((s : Int) / 2 ^ j) = ((s / 2 ^ j : Nat) : Int) := by simp
 rw [e, show (1 : Int) = ((1 : Nat) : Int) from rfl, i64_and_nat _ _ (by omega) (by omega), Nat.and_one_is_mod]
def prtL (n s i : Nat) : List Int := ((List.range i).filter fun j => bitB s (n - 1 - j)).map fun j => ((j : Nat) : Int)
theorem prtL_succ (n s i : Nat) : prtL n s (i + 1) = prtL n s i ++ if bitB s (n - 1 - i) then [(i : Int)] else [] := by
 unfold prtL
 rw [List.range_succ, List.filter_append, List.map_append]
 cases h : bitB s (n - 1 - i) <;> simp [h]
theorem prtL_le (n s i : Nat) : (prtL n s i).length ≤ i := by
 unfold prtL; rw [List.length_map]; exact Nat.le_trans (List.length_filter_le _ _) (by simp)
theorem l5Part_c (n s : Nat) (w : World) (hn : n ≤ 10) (hs : s < 1024) : Calls Tryz.prog 267 #[.int .i64 (n : Int), .int .i64 (s : Int)] w fun e w' => ∃ u, e = .returned u ∧ w'.ownsRow w.heap.size 3 1 u (prtL n s n).length (ints (prtL n s n)) ∧ Below w.heap.size w w' := by
 obtain ⟨inf, hi, hz0, hz1, hz2⟩ := info_parts info_int
 have ho0 := World.ownsRow_lit (e := 3) (size := 1) (base := w.heap.size) w #[] 0 (Nat.le_refl _) (by decide) rfl
 go_enter Tryz.func267, Tryz.ntmps267
 go_wp2
 go_loopw [5, 6] (fun o j wr => ∃ i : Nat, i ≤ n ∧ j = .int .i64 (i : Int) ∧ wr.ownsRow w.heap.size 3 1 o (prtL n s i).length (ints (prtL n s i)) ∧ Below w.heap.size w wr) (fun _ j _ => n - (intOf j).toNat)
 case atStart => exact ⟨0, by omega, rfl, ho0, by exact qBl⟩
 case round =>
  obtain ⟨i, hi1, rfl, ho, hb⟩ := hrel
  clear ho0
  by_cases hlt : i < n
  · have hd : decide ((i : Int) < (n : Int)) = true := by simp; omega
    have hS := prtL_succ n s i
    have hle := prtL_le n s i
    have hnn : ¬ ((n : Int) - 1 - (i : Int) < 0) := by omega
    generalize prtL n s i = cur at *
    have HS := hid hS; clear hS
    have hbit := bit_i64 s (n - 1 - i) hs
    rcases hq : bitB s (n - 1 - i) with _ | _
    · have h1 : s / 2 ^ (n - 1 - i) % 2 = 0 := by unfold bitB at hq; simp at hq; omega
      rw [h1] at hbit
      have HS2 := hid (show prtL n s (i + 1) = cur by rw [HS.out, hq]; simp)
      clear HS hq h1
      go_wp2
      go_roundw
      case rel => exact ⟨i + 1, by omega, by go_num, by rw [HS2.out]; exact ho, hb⟩
      case measure => simp [intOf]; omega
    · have h1 : s / 2 ^ (n - 1 - i) % 2 = 1 := by unfold bitB at hq; simpa using hq
      rw [h1] at hbit
      have HS2 := hid (show prtL n s (i + 1) = cur ++ [(i : Int)] by rw [HS.out, hq]; simp)
      clear HS hq h1
      go_wp2_with (at_builtin; refine wpList_append_own_at _ rfl _ _ 37 rfl w.heap.size 3 inf (.int .i64 0) 1 8 Tryz.underlying37 hi hz0 hz1 hz2 rfl (by decide) _ cur.length (ints cur) rfl (ho.alloc _) ⟨wr.heap.size, 0, none⟩ 1 1 [.int .i64 i] rfl rfl (news_new _ [.int .i64 i] _) (by simp [Value.oneCell']) (by unfold maxLen; omega) (by omega) (by have := hb.size; simp; omega) ?_)
      intro v' w3 ho5 hg5 _ _
      have hb7 : Below w.heap.size w w3 := (Below.alc hb _).grown hg5 (by have := hb.size; simp; omega) (fun g hg => (ho.lt g hg).1)
      clear ho hb hg5
      go_wp2
      go_roundw
      case rel => exact ⟨i + 1, by omega, by go_num, by rw [HS2.out]; exact ownsRow_cast ho5 (by simp) (by simp), hb7⟩
      case measure => simp [intOf]; omega
  · obtain rfl : i = n := by omega
    go_wp2
    go_ret
    exact ⟨_, rfl, ho, hb⟩
theorem prtL_mem {n s i : Nat} {x : Int} (h : x ∈ prtL n s i) : ∃ p : Nat, x = (p : Int) ∧ p < i := by
 unfold prtL at h
 simp only [List.mem_map, List.mem_filter, List.mem_range] at h
 obtain ⟨p, ⟨hp, _⟩, rfl⟩ := h
 exact ⟨p, rfl, hp⟩
def pick (list : List Int) (ps : List Int) : List Int := ps.map fun i => list.getD i.toNat 0
def digsL (list : List Int) (s : Nat) : List Int := pick list (prtL list.length s list.length)
theorem l7Digits_c (v : Value) (list : List Int) (s : Nat) (w : World) (hv : Ints w v list) (hn : list.length ≤ 10) (hs : s < 1024) : Calls Tryz.prog 224 #[v, .int .i64 (s : Int)] w fun e w' => ∃ u, e = .returned u ∧ w'.ownsRow w.heap.size 3 1 u (digsL list s).length (ints (digsL list s)) ∧ Below w.heap.size w w' := by
 obtain ⟨inf, hi, hz0, hz1, hz2⟩ := info_parts info_int
 have ho0 := World.ownsRow_lit (e := 3) (size := 1) (base := w.heap.size) w #[] 0 (Nat.le_refl _) (by decide) rfl
 have hb0 := below_one (w := w) (.cells #[] 3)
 obtain ⟨a, c, rfl, _, _, HL⟩ := hv.parts
 clear hv
 go_enter Tryz.func224, Tryz.ntmps224
 go_wp2_with fail
 refine (l5Part_c list.length s _ hn hs).mono ?_
 rintro e w1 ⟨u, rfl, hou, hb1⟩
 have ho1 := own_keep ho0 hb1
 have hb2 := Below.chain hb0 hb1
 have hM : Hid (∀ x ∈ prtL list.length s list.length, ∃ p : Nat, x = (p : Int) ∧ p < list.length) := fun x hx => prtL_mem hx
 have hple := prtL_le list.length s list.length
 have HD : Hid (digsL list s = pick list (prtL list.length s list.length)) := rfl
 generalize prtL list.length s list.length = ps at *
 obtain ⟨a2, c2, rfl, _, _, HP⟩ := (Ints.of_own hou).parts
 have hPl := hou.lt
 simp only [World.size_alloc] at hPl
 have hP1 := Ints.of_own hou
 have hdis0 : ∀ g, (Value.slice (some ⟨w.heap.size, 0, none⟩) 0 0).ownBlock = some g → g = w.heap.size ∨ w1.heap.size ≤ g := fun g hg => .inl (by simp [Value.ownBlock] at hg; exact hg.symm)
 clear hou ho0 hb0 hb1
 go_wp2
 go_loopw [5, 7] (fun o j wr => ∃ i : Nat, i ≤ ps.length ∧ j = .int .i64 (i : Int) ∧ wr.ownsRow w.heap.size 3 1 o i (ints (pick list (ps.take i))) ∧ Below w.heap.size w wr ∧ Hid (Ints wr (.slice a2 ps.length c2) ps) ∧ Hid (∀ g, o.ownBlock = some g → g = w.heap.size ∨ w1.heap.size ≤ g) ∧ w1.heap.size ≤ wr.heap.size) (fun _ j _ => ps.length - (intOf j).toNat)
 case atStart => exact ⟨0, by omega, rfl, ho1, hb2, hP1, hdis0, Nat.le_refl _⟩
 case round =>
  obtain ⟨i, hi1, rfl, ho, hb, hI, hdis, hsz⟩ := hrel
  clear ho1 hb2 hP1 hdis0
  by_cases hlt : i < ps.length
  · have hd : decide ((i : Int) < (ps.length : Int)) = true := by simp; omega
    obtain ⟨x, hx⟩ := elem_at hlt
    obtain ⟨p, rfl, hpl⟩ := hM.out x (List.mem_of_getElem? hx.out)
    obtain ⟨y, hy⟩ := elem_at hpl
    obtain ⟨a3, c3, e3, _, _, HPr⟩ := hI.out.parts
    injection e3 with e3 _ e4
    subst e3 e4
    obtain ⟨b1, o1, rfl, g1⟩ := HPr.out i _ hx.out
    obtain ⟨b2, o2, rfl, f2⟩ := HL.out p y hy.out
    have g2 := cell_later hb f2
    have HS : Hid (pick list (ps.take (i + 1)) = pick list (ps.take i) ++ [y]) := by
     show _ = _
     unfold pick
     rw [take_snoc hx.out, List.map_append]
     have := hy.out
     simp [List.getD, this]
    clear HPr f2
    generalize hcur : pick list (ps.take i) = cur at *
    go_wp2_with (at_builtin; refine wpList_append_own_at _ rfl _ _ 37 rfl w.heap.size 3 inf (.int .i64 0) 1 8 Tryz.underlying37 hi hz0 hz1 hz2 rfl (by decide) _ i (ints cur) rfl (ho.alloc _) ⟨wr.heap.size, 0, none⟩ 1 1 [.int .i64 y] rfl rfl (news_new _ [.int .i64 y] _) (by simp [Value.oneCell']) (by unfold maxLen; omega) (by omega) (by have := hb.size; simp; omega) ?_)
    intro v' w3 ho5 hg5 _ hat
    have hb7 : Below w.heap.size w w3 := (Below.alc hb _).grown hg5 (by have := hb.size; simp; omega) (fun g hg => (ho.lt g hg).1)
    have hI7 : Hid (Ints w3 (.slice (some ⟨b1, o1, none⟩) ps.length c2) ps) := Ints.grown (hI.out.below (below_one _)) hg5 (by
     right; intro e
     have h1 := hPl b1 rfl
     rcases hdis.out b1 e.symm with h2 | h2 <;> omega)
    have hd7 : Hid (∀ g, v'.ownBlock = some g → g = w.heap.size ∨ w1.heap.size ≤ g) := fun g hg => by
     rcases hat with h | h
     · exact hdis.out g (by rw [← h]; exact hg)
     · right
       rw [hg] at h
       injection h with h
       (try simp at h); omega
    have hsz7 : w1.heap.size ≤ w3.heap.size := Nat.le_trans (by simp; omega) hg5.size
    clear ho hb hg5 hI hdis g1 g2 hat
    go_wp2
    go_roundw
    case rel => exact ⟨i + 1, by omega, by go_num, by rw [HS.out]; exact ownsRow_cast ho5 rfl (by simp), hb7, hI7, hd7, hsz7⟩
    case measure => simp [intOf]; omega
  · obtain rfl : i = ps.length := by omega
    rw [List.take_length] at ho
    have hl : (digsL list s).length = ps.length := by rw [HD.out]; simp [pick]
    have HO : Hid (wr.ownsRow w.heap.size 3 1 u5 (digsL list s).length (ints (digsL list s))) := ownsRow_cast ho hl.symm (by rw [HD.out])
    clear ho hl
    go_wp2
    go_ret
    exact ⟨_, rfl, HO.out, hb⟩
theorem bit_low {m s j : Nat} (hs : s < 2 ^ m) (hj : j < m) : bitB (2 ^ m + s) j = bitB s j := by
 unfold bitB
 have e : 2 ^ m = 2 ^ j * (2 * 2 ^ (m - j - 1)) := by
  rw [← Nat.mul_assoc, ← Nat.pow_succ, ← Nat.pow_add]; congr 1; omega
 rw [e, Nat.mul_add_div (Nat.two_pow_pos j)]
 congr 1
 omega
theorem bit_top {m s : Nat} (hs : s < 2 ^ m) : bitB s m = false ∧ bitB (2 ^ m + s) m = true := by
 unfold bitB
 rw [Nat.div_eq_of_lt hs]
 refine ⟨rfl, ?_⟩
 rw [show 2 ^ m + s = s + 2 ^ m * 1 by omega, Nat.add_mul_div_left _ _ (Nat.two_pow_pos m), Nat.div_eq_of_lt hs]
 rfl
theorem prtL_cons (m s : Nat) : prtL (m + 1) s (m + 1) = (if bitB s m then [(0 : Int)] else []) ++ (prtL m s m).map (· + 1) := by
 unfold prtL
 rw [List.range_succ_eq_map, List.filter_cons]
 have e : ∀ j, m + 1 - 1 - (j + 1) = m - 1 - j := fun j => by omega
 have hf : ((List.range m).map Nat.succ).filter (fun j => bitB s (m + 1 - 1 - j)) = ((List.range m).filter fun j => bitB s (m - 1 - j)).map Nat.succ := by
  rw [List.filter_map]
  congr 1
  apply List.filter_congr
  intro j _
  show bitB s (m + 1 - 1 - (j + 1)) = _
  rw [e]
 rw [hf]
 cases h : bitB s (m + 1 - 1 - 0) <;> simp at h <;> simp [h, List.map_map]
theorem prtL_same {m s s' : Nat} (h : ∀ j, j < m → bitB s j = bitB s' j) : prtL m s m = prtL m s' m := by
 unfold prtL
 congr 1
 apply List.filter_congr
 intro j hj
 rw [List.mem_range] at hj
 exact h _ (by omega)
theorem pick_succ (x : Int) (t : List Int) (m s i : Nat) : pick (x :: t) ((prtL m s i).map (· + 1)) = pick t (prtL m s i) := by
 unfold pick
 rw [List.map_map]
 apply List.map_congr_left
 intro y hy
 obtain ⟨p, rfl, _⟩ := prtL_mem hy
 show (x :: t).getD ((p : Int) + 1).toNat 0 = _
 rw [show ((p : Int) + 1).toNat = p + 1 by omega]
 simp
theorem digsL_low {x : Int} {t : List Int} {s : Nat} (hs : s < 2 ^ t.length) : digsL (x :: t) s = digsL t s := by
 unfold digsL
 rw [List.length_cons, prtL_cons, (bit_top hs).1]
 exact pick_succ x t _ _ _
theorem digsL_high {x : Int} {t : List Int} {s : Nat} (hs : s < 2 ^ t.length) : digsL (x :: t) (2 ^ t.length + s) = x :: digsL t s := by
 unfold digsL
 rw [List.length_cons, prtL_cons, (bit_top hs).2, prtL_same (fun j hj => bit_low hs hj)]
 have h1 := pick_succ x t t.length s t.length
 have h2 : pick (x :: t) ([(0 : Int)] ++ (prtL t.length s t.length).map (· + 1)) = x :: pick (x :: t) ((prtL t.length s t.length).map (· + 1)) := by
  unfold pick; rw [List.map_append]; rfl
 rw [if_pos rfl, h2, h1]
end Go.Proofs.YtohgjfdbnkjefaaGreatDoor
namespace Go.Proofs.YtohgjfdbnkjefaaGreatDoor
open Go.RowKit Go.Shelf
set_option linter.unusedVariables false
attribute [local go_sem] Oper.semAt_some
def upto {α : Type} (f : Nat → α) (k : Nat) : List α := (List.range k).map f
theorem upto_succ {α : Type} (f : Nat → α) (k : Nat) : upto f (k + 1) = upto f k ++ [f k] := by simp [upto, List.range_succ]
theorem upto_length {α : Type} (f : Nat → α) (k : Nat) : (upto f k).length = k := by simp [upto]
theorem upto_all (zs : List Int) : upto (fun j => zs[j]?.getD 0) zs.length = zs := by
 apply List.ext_getElem
 · simp [upto]
 · intro i h1 h2
   simp [upto, h2]
theorem upto_take (zs : List Int) {k : Nat} (hk : k ≤ zs.length) : upto (fun j => zs[j]?.getD 0) k = zs.take k := by
 apply List.ext_getElem
 · simp [upto, hk]
 · intro i h1 h2
   have : i < zs.length := by simp [upto] at h1; omega
   simp [upto, this]
set_option maxRecDepth 100000 in
set_option maxHeartbeats 2000000 in
theorem values1_in (F : Fence) (n : Nat) (h7 : F.fn 309) (hro : F.round = none) (hn : 1 ≤ n) (l Bs n₀ b off len cap : Nat) (zs : List Int) (hreach : len * 8 ≤ 140737488351232) (hb : b < n₀) (J Jx : List Int → World → Prop)
 (hY : ∀ pre x W, J pre W → pre.length < len → YieldAt F (n - 1) Tryz.prog l #[.int .i64 x] W fun e W' =>
  (e = .returned (.bool true) ∧ J (pre ++ [x]) W' ∧ Below n₀ W W') ∨ (e = .returned (.bool false) ∧ Jx (pre ++ [x]) W'))
 (W : World) (hBs : W.cell? ⟨Bs, 0, none⟩ = some (.slice (some ⟨b, off, none⟩) len cap)) (hc : ∀ j, j < len → W.cell? ⟨b, off + j, none⟩ = some (.int .i64 (zs[j]?.getD 0))) (h0 : J [] W) :
 CallsIn F n Tryz.prog 309 #[.func (.yield l) #[] #[], .pointer (some ⟨Bs, 0, none⟩)] W fun e W' => (∃ v, e = .returned v) ∧
  ((∃ ys, ys = upto (fun j => zs[j]?.getD 0) len ∧ J ys W') ∨ (∃ pre, (∃ k, k ≤ len ∧ pre = upto (fun j => zs[j]?.getD 0) k) ∧ Jx pre W')) := by
 refine callsIn_of_wp Tryz.func309 rfl h7 ?_ hro
 simp only [Tryz.ntmps309, List.size_toArray, List.length_cons, List.length_nil, Nat.reduceAdd, Nat.reduceSub, Array.replicate_succ, Array.replicate_zero, List.push_toArray, List.append_toArray, List.nil_append, List.cons_append]
 gi_wp2
 gi_loopw [7] (fun i wr => ∃ k : Nat, k ≤ len ∧ i = .int .i64 k ∧ J (upto (fun j => zs[j]?.getD 0) k) wr ∧ Below n₀ W wr)
  (fun i _ => len - (intOf i).toNat)
 case atStart => exact ⟨0, Nat.zero_le _, rfl, h0, Below.refl _ _⟩
 case round =>
  obtain ⟨k, hk, rfl, hJs, hnx⟩ := hrel
  have hcx : k < len → wr.cell? ⟨b, off + k, none⟩ = some (.int .i64 (zs[k]?.getD 0)) := fun h => (hnx.cell (p := ⟨b, off + k, none⟩) hb).trans (hc k h)
  by_cases hlt : k < len
  · obtain ⟨fn, tmps, assign, body, hy, hR⟩ := hY _ (zs[k]?.getD 0) wr hJs (by rw [upto_length]; exact hlt)
    have hcx' := hcx hlt
    gi_wp2
    refine hR.mono ?_
    rintro e W3 (⟨rfl, hJ3, hk3⟩ | ⟨rfl, hJx3⟩)
    · gi_wp2
      go_roundw
      case rel => exact ⟨k + 1, by omega, by simp, by rw [upto_succ]; exact hJ3, hnx.trans hk3⟩
      case measure => simp [intOf]; omega
    · gi_wp2
      refine bodyPost_ret (results_none rfl _ _ _) rfl ?_
      exact ⟨⟨_, rfl⟩, .inr ⟨_, ⟨k + 1, by omega, (upto_succ _ _).symm⟩, hJx3⟩⟩
  · obtain rfl : k = len := by omega
    gi_wp2
    go_end0
    exact ⟨⟨_, rfl⟩, .inl ⟨_, rfl, hJs⟩⟩
def VInts (n₀ : Nat) (W : World) (sv : Value) (zs : List Int) : Prop :=
 (∃ a c, sv = .slice a 0 c ∧ zs = []) ∨ ∃ b off cap, sv = .slice (some ⟨b, off, none⟩) zs.length cap ∧ b < n₀ ∧ ∀ j, j < zs.length → W.cell? ⟨b, off + j, none⟩ = some (.int .i64 (zs[j]?.getD 0))
theorem VInts.below {n₀ : Nat} {A B : World} (h : Below n₀ A B) {sv : Value} {zs : List Int} : VInts n₀ A sv zs → VInts n₀ B sv zs
 | .inl e => .inl e
 | .inr ⟨b, off, cap, e, hb, hc⟩ => .inr ⟨b, off, cap, e, hb, fun j hj => (h.cell (p := ⟨b, off + j, none⟩) hb).trans (hc j hj)⟩
theorem VInts.of {w : World} {v : Value} {zs : List Int} (h : Ints w v zs) : VInts w.heap.size w v zs := by
 obtain ⟨a, c, rfl, _, _, HC⟩ := h.parts
 cases zs with
 | nil => exact .inl ⟨a, c, rfl, rfl⟩
 | cons x t =>
  obtain ⟨b, off, rfl, h0⟩ := HC.out 0 x rfl
  refine .inr ⟨b, off, c, rfl, World.block_lt_of_cell? _ _ h0, fun j hj => ?_⟩
  obtain ⟨y, hy⟩ := elem_at hj
  obtain ⟨b2, off2, e, hc⟩ := HC.out j y hy.out
  injection e with e
  injection e with e1 e2
  subst e1 e2
  rw [hc, hy.out]; rfl
set_option maxRecDepth 100000 in
set_option maxHeartbeats 1000000 in
theorem values1_nil_in (F : Fence) (n : Nat) (h7 : F.fn 309) (hro : F.round = none) (l Bs : Nat) (a : Option Addr) (c : Nat) (J : List Int → World → Prop) (W : World) (hBs : W.cell? ⟨Bs, 0, none⟩ = some (.slice a 0 c)) (h0 : J [] W) :
 CallsIn F n Tryz.prog 309 #[.func (.yield l) #[] #[], .pointer (some ⟨Bs, 0, none⟩)] W fun e W' => (∃ v, e = .returned v) ∧ J [] W' := by
 refine callsIn_of_wp Tryz.func309 rfl h7 ?_ hro
 simp only [Tryz.ntmps309, List.size_toArray, List.length_cons, List.length_nil, Nat.reduceAdd, Nat.reduceSub, Array.replicate_succ, Array.replicate_zero, List.push_toArray, List.append_toArray, List.nil_append, List.cons_append]
 gi_wp2
 gi_loopw [7] (fun i wr => i = .int .i64 0 ∧ J [] wr) (fun _ _ => 0)
 case atStart => exact ⟨rfl, h0⟩
 case round =>
  obtain ⟨rfl, hJs⟩ := hrel
  gi_wp2
  go_end0
  exact ⟨⟨_, rfl⟩, hJs⟩
theorem Values_c (a : Option Addr) (len cap : Nat) (w : World) :
 Calls Tryz.prog 299 #[.slice a len cap] w fun e w' => e = .returned (.func (.func 309) #[] #[.pointer (some ⟨w.heap.size, 0, none⟩)]) ∧ w' = w.alloc (.cells #[.slice a len cap] 37) := by
 go_enter Tryz.func299, Tryz.ntmps299
 go_wp2
 go_ret
 exact ⟨rfl, rfl⟩
theorem values_stops (F : Fence) (n : Nat) (h7 : F.fn 309) (hro : F.round = none) (hn : 1 ≤ n) (Bs n₀ : Nat) (sv : Value) (zs : List Int) (hreach : zs.length * 8 ≤ 140737488351232) (w : World) (hBs : Bs < w.heap.size) (hn₀ : n₀ ≤ w.heap.size)
 (hc : w.cell? ⟨Bs, 0, none⟩ = some sv) (hI : VInts n₀ w sv zs) :
 SeqStopsK F n Tryz.prog 309 #[.pointer (some ⟨Bs, 0, none⟩)] (fun x : Int => #[Value.int .i64 x]) (Below n₀) (fun ys => ys = zs) (fun pre => pre <+: zs) zs.length w := fun l J Jx W hW _ _ hY h0 => by
 have hc' := (hW.cell (p := ⟨Bs, 0, none⟩) hBs).trans hc
 rcases hI.below (hW.mono hn₀) with ⟨a, c, rfl, rfl⟩ | ⟨b, off, cap, rfl, hb, hcs⟩
 · exact (values1_nil_in F n h7 hro l Bs a c J W hc' h0).mono fun e W' ⟨he, hj⟩ => ⟨he, .inl ⟨_, rfl, hj⟩⟩
 · refine (values1_in F n h7 hro hn l Bs n₀ b off zs.length cap zs hreach hb J Jx hY W hc' hcs h0).mono ?_
   rintro e W' ⟨he, ⟨ys, rfl, hj⟩ | ⟨pre, ⟨k, hk, rfl⟩, hj⟩⟩
   · exact ⟨he, .inl ⟨_, upto_all zs, hj⟩⟩
   · exact ⟨he, .inr ⟨_, by rw [upto_take zs hk]; exact List.take_prefix _ _, hj⟩⟩
set_option maxRecDepth 100000 in
set_option maxHeartbeats 2000000 in
theorem appendSeq_in (F : Fence) (n : Nat) (h3 : F.fn 310) (h5 : F.fn 309) (hro : F.round = none) (hn : 3 ≤ n) (Bs : Nat) (sv : Value) (xs : List Int) (hlen : xs.length ≤ 1048576) (w : World) (hBs : Bs < w.heap.size) (hc : w.cell? ⟨Bs, 0, none⟩ = some sv) (hI : VInts w.heap.size w sv xs) :
 CallsIn F n Tryz.prog 310 #[.slice none 0 0, .func (.func 309) #[] #[.pointer (some ⟨Bs, 0, none⟩)]] w fun e W' => ∃ v, e = .returned v ∧ W'.ownsRow w.heap.size 3 1 v xs.length (xs.map (Value.int .i64)) ∧ Below w.heap.size w W' := by
 have h1 : 1 ≤ n := by omega
 obtain ⟨i0, hi, hz0, hz1, hz2⟩ := info_parts info_int
 refine callsIn_of_wp_marks Tryz.func310 rfl h3 ?_ hro
 simp only [Tryz.ntmps310, List.size_toArray, List.length_cons, List.length_nil, Nat.reduceAdd, Nat.reduceSub, Array.replicate_succ, Array.replicate_zero, List.push_toArray, List.append_toArray, List.nil_append, List.cons_append]
 gi_wp2
 have bO := Boxed.new w 37 (.slice none 0 0)
 have hB0 : Below w.heap.size w (w.alloc (.cells #[.slice none 0 0] 37)) := (Below.refl _ w).alloc (Nat.le_refl _) _
 refine wpIn_rangeFunc_ownG hro h1 (gf := 309) (lb := #[.pointer (some ⟨Bs, 0, none⟩)]) rfl h5 (enters_of Tryz.func309 (by kernel_rfl) rfl)
  (values_stops F (n - 1) h5 hro (by omega) Bs w.heap.size sv xs (by omega) _ (by simp; omega) (by simp) (cell_later hB0 hc) (hI.below hB0)) belowK_t (belowK_b (by simp)) (Below.refl _ _) (fun _ => rfl)
  (fun (pre : List Int) W => (∃ v, Boxed W w.heap.size 37 v ∧ W.ownsRow w.heap.size 3 1 v pre.length (pre.map (Value.int .i64)) ∧ True) ∧ Below w.heap.size w W)
  (fun _ _ _ => False)
  (OwnFrom.and (Own.from (holdsRow_own w.heap.size w.heap.size 37 3 1 (fun (pre : List Int) => pre.length) (fun (pre : List Int) => pre.map (Value.int .i64)) (fun (pre : List Int) v => True)) _) (ownFrom_below (Nat.le_refl _) (by simp)))
  (fun _ _ _ _ _ hs _ _ => hs)
  ⟨⟨_, bO, World.ownsRow_nil _ _ _ _, trivial⟩, hB0⟩
  (fun x => { tmps := #[.slice none 0 0, .func (.func 309) #[] #[.pointer (some ⟨Bs, 0, none⟩)], .pointer (some ⟨w.heap.size, 0, none⟩), undef, .slice none 0 0, .int .i64 x, .func (.func 309) #[] #[.pointer (some ⟨Bs, 0, none⟩)], .int .i64 x, undef, undef, undef, undef, undef], defers := [] }) ?assign ?body ?done ?stop
 case assign =>
  intro l x W K hK
  gi_wp2
  exact hK
 case body =>
  rintro l pre x W ⟨⟨v, hv, hrow, _⟩, hB⟩ hlt
  have hc := hv.cell
  gi_wp2_with (gi_at_builtin; refine wpListIn_append_own _ rfl _ _ 37 rfl w.heap.size 3 i0 (.int .i64 0) 1 8 Tryz.underlying37 hi hz0 hz1 hz2 rfl (by decide) _ _ _ rfl (hrow.alloc _) ⟨W.heap.size, 0, none⟩ 1 1 [.int .i64 x] rfl rfl (cell_one_new _ _ _) (by simp [Value.oneCell']) (by unfold maxLen; omega) (by omega) (by have := hB.size; simp; omega) ?_; intro v' w1 hown' hgrow _; obtain ⟨g', cap', rfl⟩ := ownsRow_succ hown'; obtain ⟨hv1, hv2, hr2, hk2, hb2⟩ := hv.appended (by decide) hrow hB.size (Nat.le_refl _) hown' hgrow; have hc1 := hv1.cell; have hf1 := hv1.frozen)
  exact ⟨hk2.from _, hb2, ⟨_, hv2, by simpa using hr2, trivial⟩, hB.trans hb2⟩
 case done =>
  rintro D ys W hD rfl ⟨⟨v, hv, hrow, _⟩, hB⟩ hK
  have hc := hv.cell
  gi_wp2
  refine ⟨by simp, .inl ⟨_, _, rfl, run_takeDeferred hK, ?_⟩⟩
  exact ⟨_, results_tmp rfl _ _ _, v, rfl, ownsRow_putObj hrow _ hK rfl, hB.trans (belowK_b (w := w) (Nat.le_refl _) W D _ _ (by simp at hD; omega) hK rfl rfl)⟩
 case stop =>
  rintro D c pre W _ _ h _
  exact h.elim
theorem AppendSeq_c (Bs : Nat) (sv : Value) (xs : List Int) (hlen : xs.length ≤ 1048576) (w : World) (hBs : Bs < w.heap.size) (hc : w.cell? ⟨Bs, 0, none⟩ = some sv) (hI : VInts w.heap.size w sv xs) :
 Calls Tryz.prog 310 #[.slice none 0 0, .func (.func 309) #[] #[.pointer (some ⟨Bs, 0, none⟩)]] w fun e W' => ∃ v, e = .returned v ∧ W'.ownsRow w.heap.size 3 1 v xs.length (xs.map (Value.int .i64)) ∧ Below w.heap.size w W' :=
 (callsIn_wide (n := 6)).1 (appendSeq_in Fence.wide 6 trivial trivial rfl (by omega) Bs sv xs hlen w hBs hc hI)
end Go.Proofs.YtohgjfdbnkjefaaGreatDoor
namespace Go.Proofs.YtohgjfdbnkjefaaGreatDoor
set_option linter.unusedVariables false
def putR : List Int → Int → List Int
 | [], n => [n]
 | x :: t, n => if x < n then x :: putR t n else if x = n then x :: t else n :: x :: t
def setS (xs : List Int) : List Int := xs.foldl putR []
def setL (xs : List Int) : List Int := Lib.compact (xs.mergeSort fun x y => decide (x ≤ y))
theorem eq_of_lt : ∀ (l1 l2 : List Int), l1.Pairwise (· < ·) → l2.Pairwise (· < ·) → (∀ x, x ∈ l1 ↔ x ∈ l2) → l1 = l2
 | [], [], _, _, _ => rfl
 | [], y :: t, _, _, h => by have := (h y).2 (by simp); simp at this
 | x :: t, [], _, _, h => by have := (h x).1 (by simp); simp at this
 | x :: t, y :: s, h1, h2, h => by
  rw [List.pairwise_cons] at h1 h2
  have hx := (h x).1 (by simp)
  have hy := (h y).2 (by simp)
  have e : x = y := by
   rcases List.mem_cons.1 hx with e | e
   · exact e
   · rcases List.mem_cons.1 hy with e2 | e2
     · exact e2.symm
     · have a := h2.1 x e
       have b := h1.1 y e2
       omega
  subst e
  rw [eq_of_lt t s h1.2 h2.2 (fun z => by
   have hz := h z
   simp only [List.mem_cons] at hz
   constructor
   · intro hm
     have := h1.1 z hm
     rcases hz.1 (.inr hm) with e | e
     · omega
     · exact e
   · intro hm
     have := h2.1 z hm
     rcases hz.2 (.inr hm) with e | e
     · omega
     · exact e)]
theorem putR_mem : ∀ (l : List Int) (n x : Int), x ∈ putR l n ↔ x ∈ l ∨ x = n
 | [], n, x => by simp [putR]
 | y :: t, n, x => by
  unfold putR
  split
  · simp only [List.mem_cons, putR_mem t n x]
    constructor
    · rintro (h | h | h)
      · exact .inl (.inl h)
      · exact .inl (.inr h)
      · exact .inr h
    · rintro ((h | h) | h)
      · exact .inl h
      · exact .inr (.inl h)
      · exact .inr (.inr h)
  · split
    · rename_i h1 h2
      subst h2
      simp only [List.mem_cons]
      constructor
      · intro h; exact .inl h
      · rintro (h | h)
        · exact h
        · exact .inl h
    · simp only [List.mem_cons]
      constructor
      · rintro (h | h)
        · exact .inr h
        · exact .inl h
      · rintro (h | h)
        · exact .inr h
        · exact .inl h
theorem putR_lt : ∀ (l : List Int) (n : Int), l.Pairwise (· < ·) → (putR l n).Pairwise (· < ·)
 | [], n, _ => by simp [putR]
 | y :: t, n, h => by
  rw [List.pairwise_cons] at h
  unfold putR
  split
  · rename_i hlt
    rw [List.pairwise_cons]
    refine ⟨fun z hz => ?_, putR_lt t n h.2⟩
    rcases (putR_mem t n z).1 hz with e | e
    · exact h.1 z e
    · omega
  · split
    · rw [List.pairwise_cons]; exact h
    · rename_i h1 h2
      rw [List.pairwise_cons, List.pairwise_cons]
      refine ⟨fun z hz => ?_, h⟩
      rcases List.mem_cons.1 hz with e | e
      · omega
      · have := h.1 z e; omega
theorem foldl_put (xs : List Int) : ∀ l : List Int, l.Pairwise (· < ·) → (xs.foldl putR l).Pairwise (· < ·) ∧ ∀ x, x ∈ xs.foldl putR l ↔ x ∈ l ∨ x ∈ xs := by
 induction xs with
 | nil => intro l h; exact ⟨h, fun x => by simp⟩
 | cons y t ih =>
  intro l h
  obtain ⟨h1, h2⟩ := ih (putR l y) (putR_lt l y h)
  refine ⟨h1, fun x => ?_⟩
  rw [List.foldl_cons, h2, putR_mem, List.mem_cons, or_assoc]
theorem setS_lt (xs : List Int) : (setS xs).Pairwise (· < ·) := (foldl_put xs [] (by simp)).1
theorem setS_mem (xs : List Int) (x : Int) : x ∈ setS xs ↔ x ∈ xs := by
 have := (foldl_put xs [] (by simp)).2 x
 unfold setS
 rw [this]; simp
theorem compact_sorted (d : Array Int) (hd : ∀ i j, i ≤ j → j < d.size → d[i]! ≤ d[j]!) : ∀ m, m ≤ d.size →
 (Lib.compactUpTo d m).Pairwise (· < ·) ∧ (∀ x, x ∈ Lib.compactUpTo d m ↔ ∃ j, j < m ∧ d[j]! = x)
 | 0, _ => ⟨by simp [Lib.compactUpTo], fun x => by simp [Lib.compactUpTo]⟩
 | m + 1, hm => by
  obtain ⟨h1, h2⟩ := compact_sorted d hd m (by omega)
  rw [Lib.compactUpTo_succ]
  have hle : ∀ x ∈ Lib.compactUpTo d m, x ≤ d[m]! := fun x hx => by
   obtain ⟨j, hj, rfl⟩ := (h2 x).1 hx
   exact hd j m (by omega) (by omega)
  have hmem : (∃ j, j < m + 1 ∧ d[j]! = d[m]!) := ⟨m, by omega, rfl⟩
  cases hk : Lib.keeps d m
  · have hne : ¬ (m = 0 ∨ d[m]! ≠ d[m - 1]!) := by simpa [Lib.keeps] using hk
    have h0 : m ≠ 0 := fun e => hne (.inl e)
    have he : d[m]! = d[m - 1]! := by
     by_cases e : d[m]! = d[m - 1]!
     · exact e
     · exact absurd (.inr e) hne
    simp only [Bool.false_eq_true, if_false, List.append_nil]
    refine ⟨h1, fun x => ?_⟩
    rw [h2]
    constructor
    · rintro ⟨j, hj, e⟩; exact ⟨j, by omega, e⟩
    · rintro ⟨j, hj, e⟩
      by_cases hjm : j = m
      · exact ⟨m - 1, by omega, by rw [← he, ← e, hjm]⟩
      · exact ⟨j, by omega, e⟩
  · have hpos : m = 0 ∨ d[m]! ≠ d[m - 1]! := by simpa [Lib.keeps] using hk
    simp only [if_true]
    refine ⟨?_, fun x => ?_⟩
    · rw [List.pairwise_append]
      refine ⟨h1, by simp, fun x hx y hy => ?_⟩
      simp at hy
      subst hy
      rcases hpos with e | e
      · subst e; simp [Lib.compactUpTo] at hx
      · obtain ⟨j, hj, rfl⟩ := (h2 x).1 hx
        have a := hd j (m - 1) (by omega) (by omega)
        have b := hd (m - 1) m (by omega) (by omega)
        have c : d[m - 1]! ≠ d[m]! := fun h => e h.symm
        omega
    · rw [List.mem_append, h2]
      simp only [List.mem_singleton]
      constructor
      · rintro (⟨j, hj, e⟩ | e)
        · exact ⟨j, by omega, e⟩
        · exact ⟨m, by omega, e.symm⟩
      · rintro ⟨j, hj, e⟩
        by_cases hjm : j = m
        · right; rw [← e, hjm]
        · exact .inl ⟨j, by omega, e⟩
theorem setL_eq (xs : List Int) : setL xs = setS xs := by
 have hp := List.mergeSort_perm xs (fun x y => decide (x ≤ y))
 have hs : (xs.mergeSort fun x y => decide (x ≤ y)).Pairwise (fun a b => decide (a ≤ b) = true) := List.pairwise_mergeSort (fun a b c h1 h2 => by simp at *; omega) (fun a b => by simp; omega) xs
 generalize hz : (xs.mergeSort fun x y => decide (x ≤ y)) = zs at hp hs
 have hd : ∀ i j, i ≤ j → j < zs.toArray.size → zs.toArray[i]! ≤ zs.toArray[j]! := by
  intro i j hij hj
  simp at hj
  rcases Nat.lt_or_ge i j with h | h
  · have := List.pairwise_iff_getElem.1 hs i j (by omega) hj h
    simp at this
    simpa [getElem!_pos, hj, show i < zs.length by omega] using this
  · obtain rfl : i = j := by omega
    exact Int.le_refl _
 obtain ⟨h1, h2⟩ := compact_sorted zs.toArray hd zs.length (by simp)
 unfold setL
 rw [hz]
 refine eq_of_lt _ _ h1 (setS_lt xs) (fun x => ?_)
 have h3 : x ∈ Lib.compact zs ↔ x ∈ zs := by
  unfold Lib.compact
  rw [h2]
  constructor
  · rintro ⟨j, hj, e⟩
    have : zs.toArray[j]! = zs[j] := by simp [getElem!_pos, hj]
    rw [← e, this]; exact List.getElem_mem hj
  · intro hx
    obtain ⟨j, hj, e⟩ := List.getElem_of_mem hx
    exact ⟨j, hj, by simp [getElem!_pos, hj, e]⟩
 rw [h3, setS_mem]
 exact hp.mem_iff
theorem setS_len_le : ∀ (xs l : List Int), (xs.foldl putR l).length ≤ l.length + xs.length
 | [], l => by simp
 | x :: t, l => by
  have h1 := setS_len_le t (putR l x)
  have h2 : ∀ (l : List Int) (n : Int), (putR l n).length ≤ l.length + 1 := by
   intro l n
   induction l with
   | nil => simp [putR]
   | cons y s ih => unfold putR; split <;> (try split) <;> simp <;> omega
  have h3 := h2 l x
  rw [List.foldl_cons, List.length_cons]
  omega
end Go.Proofs.YtohgjfdbnkjefaaGreatDoor
