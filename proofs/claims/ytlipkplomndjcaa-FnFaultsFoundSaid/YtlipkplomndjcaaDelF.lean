/- Walks of slices.DeleteFunc at Faults. -/
import Derived.Test.YtlipkplomndjcaaDelV
import Derived.Test.YtlipkplomndjcaaAllFault
import Derived.Test.YtlipkplomndjcaaToFaults
import Derived.Test.YtlipkplomndjcaaBox
namespace Go.Proofs.Ytlipkplomndjcaa
open Go.RowKit
set_option linter.unusedVariables false
set_option maxRecDepth 100000
theorem flat2_take : ∀ (R : List (Int × Int)) (i : Nat), (flat2 R).take (i * 2) = flat2 (R.take i)
  | [], i => by simp [flat2]
  | x :: R, 0 => by simp [flat2]
  | x :: R, i + 1 => by
    have ih := flat2_take R i
    have e : (i + 1) * 2 = i * 2 + 2 := by omega
    rw [e]
    show (_ :: _ :: flat2 R).take (i * 2 + 2) = _ :: _ :: flat2 (R.take i)
    simp [ih]
theorem flat2_set {R : List (Int × Int)} {i : Nat} (hi : i < R.length) (a b : Int) : ((flat2 R).set (i * 2) (.int .i64 a)).set (i * 2 + 1) (.int .i64 b) = flat2 (R.set i (a, b)) := by
  have e : R = R.take i ++ R[i] :: R.drop (i + 1) := by rw [← List.drop_eq_getElem_cons hi, List.take_append_drop]
  have hl : (R.take i).length = i := by rw [List.length_take]; omega
  conv => lhs; rw [e]
  conv => rhs; rw [e]
  rw [flat2_append, set_mid _ _ _ _ hl.symm, flat2_append]
  have e3 : ∀ (p : Int × Int) (t : List (Int × Int)), flat2 (p :: t) = .int .i64 p.1 :: .int .i64 p.2 :: flat2 t := fun _ _ => rfl
  rw [e3, e3, set_two _ _ _ _ _ _ (by rw [flat2_length, hl])]
theorem pair_set {w : World} {lo g cap n : Nat} {e : TypeId} {R : List (Int × Int)} {i : Nat} {a b : Int} (ho : w.ownsRow lo e 2 (.slice (some ⟨g, 0, none⟩) n cap) n (flat2 R)) (hR : R.length = n) (hi : i < n) :
    (∃ u, w.cell? ⟨g, i * 2, none⟩ = some (.int .i64 u)) ∧ (∃ u, (w.setCell ⟨g, i * 2, none⟩ (.int .i64 a)).cell? ⟨g, i * 2 + 1, none⟩ = some (.int .i64 u)) ∧ (∃ u, w.cell? ⟨g, i * 2 + 1, none⟩ = some (.int .i64 u)) ∧
    w.frozen? ⟨g, i * 2, none⟩ = false ∧ (w.setCell ⟨g, i * 2, none⟩ (.int .i64 a)).frozen? ⟨g, i * 2 + 1, none⟩ = false ∧ w.frozen? ⟨g, i * 2 + 1, none⟩ = false ∧
      ((w.setCell ⟨g, i * 2, none⟩ (.int .i64 a)).setCell ⟨g, i * 2 + 1, none⟩ (.int .i64 b)).ownsRow lo e 2 (.slice (some ⟨g, 0, none⟩) n cap) n (flat2 (R.set i (a, b))) ∧
      w.grownBy ((w.setCell ⟨g, i * 2, none⟩ (.int .i64 a)).setCell ⟨g, i * 2 + 1, none⟩ (.int .i64 b)) (some g) := by
  have h1 := ho.stored (i * 2) (.int .i64 a)
  have h2 := h1.1.stored (i * 2 + 1) (.int .i64 b)
  have hf := flat2_at (List.getElem?_eq_getElem (show i < R.length by omega))
  refine ⟨⟨_, (ho.cellAt _ (by omega)).trans hf.1⟩, ⟨R[i].2, ?_⟩, ⟨_, (ho.cellAt _ (by omega)).trans hf.2⟩, ho.frozenAt _, h1.1.frozenAt _, ho.frozenAt _, ?_, h1.2.trans h2.2⟩
  · rw [h1.1.cellAt _ (by omega), List.getElem?_set_ne (by omega)]; exact hf.2
  · rw [← flat2_set (by omega)]; exact h2.1
theorem DeleteFuncF_c (u : Value) (vs : List (Int × Int)) (fn lo : Nat) (cb : Array Value) (p : Int × Int → Bool) (w : World) (ho : w.ownsRow lo 42 2 u vs.length (flat2 vs)) (hf : CallsIt fn)
    (hp : ∀ (x : Int × Int) (w' : World), x ∈ vs → w.grownBy w' u.ownBlock → Calls Try.prog fn (#[.agg #[.int .i64 x.1, .int .i64 x.2]] ++ cb) w' fun e w'' => e = .returned (.bool (p x)) ∧ Below w'.heap.size w' w'') :
    Calls Try.prog 88 #[u, .func (.func fn) #[] cb] w fun e w' => ∃ u', e = .returned u' ∧ w'.ownsRow lo 42 2 u' (vs.filter fun x => !p x).length (flat2 (vs.filter fun x => !p x)) ∧ w.grownBy w' u.ownBlock := by
  have hS : Pairs w u vs := Pairs.of_own ho
  have hgb : ∀ w', Below w.heap.size w w' → w.grownBy w' u.ownBlock := fun w' hb => ⟨hb.os, hb.tape, hb.output, hb.size, fun k hk _ => hb.block k hk⟩
  have hlen := hS.le
  have hf' : ∀ (bs : Array Value) (w : World), (callFunc fn bs).run Try.prog w = .ok (.enter fn bs) w := hf
  rcases firstAt_cases p vs with ⟨hm, hfil⟩ | ⟨k0, x0, hm, hx0, hp0, hbef⟩
  · have HM := Lib.hid hm; have HF := Lib.hid hfil
    clear hm hfil
    obtain ⟨a, c, rfl, _⟩ := hS.slice
    go_enter Try.func88, Try.ntmps88
    go_wp2_with fail
    refine (IndexFuncFault_c _ vs fn cb p _ hS hf (fun x w' hx hb => hp x w' hx (hgb w' hb))).mono ?_
    rintro e w1 ⟨rfl, hb1⟩
    rw [HM.out]
    have hg := Below.gr hb1
    go_wp2
    go_ret
    exact ⟨_, rfl, by rw [HF.out]; exact own_keep ho hb1, ⟨hg.os, hg.tape, hg.output, hg.size, fun k hk _ => hg.block k hk (by simp)⟩⟩
  · have HM := Lib.hid hm
    have hk0 : k0 < vs.length := (List.getElem?_eq_some_iff.1 hx0).1
    have HD := Lib.hid (DInv.start hx0 hp0 hbef)
    clear hm hbef hx0 hp0
    obtain ⟨g, cap, rfl, hlo, hgl, hnc, hcm⟩ := own_form ho (by omega)
    have hcm2 : cap ≤ 9223372036854775807 := by unfold maxLen at hcm; omega
    have hne1 : (((k0 : Int)) == -1) = false := by simp
    have hne2 : decide ((k0 : Int) = -1) = false := by simp
    obtain ⟨inf, hi, hz0, hz1, hz2⟩ := info_parts info_Fault
    have hzv : ∀ w : World, (zeroValue 42).run Try.prog w = .ok (.agg #[.int .i64 0, .int .i64 0]) w := Try.zeroValue42
    have HZ := Lib.hid hzv
    clear hzv hi hz0 hz1 hz2
    go_enter Try.func88, Try.ntmps88
    go_wp2_with fail
    refine (IndexFuncFault_c _ vs fn cb p _ hS hf (fun x w' hx hb => hp x w' hx (hgb w' hb))).mono ?_
    rintro e w1 ⟨rfl, hb1⟩
    rw [HM.out]
    have ho1 := own_keep ho hb1
    have hg1 : w.grownBy w1 (some g) := by
      have hg := Below.gr hb1
      exact ⟨hg.os, hg.tape, hg.output, hg.size, fun k hk _ => hg.block k hk (by simp)⟩
    clear hS ho hb1
    go_wp2
    go_loopw [5, 6] (fun s5 s6 wr => ∃ (i j : Nat) (R : List (Int × Int)), s5 = .int .i64 (i : Int) ∧ s6 = .int .i64 (j : Int) ∧ i < j ∧ j ≤ vs.length ∧ Hid (DInv p vs j i R) ∧ wr.ownsRow lo 42 2 (.slice (some ⟨g, 0, none⟩) vs.length cap) vs.length (flat2 R) ∧ w.grownBy wr (some g)) (fun _ s6 _ => vs.length - (intOf s6).toNat)
    case atStart => exact ⟨k0, k0 + 1, vs, rfl, by go_num, by omega, by omega, HD, ho1, hg1⟩
    case round =>
      obtain ⟨i, j, R, rfl, rfl, hij, hjn, HI, ho, hg⟩ := hrel
      clear ho1 hg1 HD
      by_cases hlt : j < vs.length
      · have hd : decide ((j : Int) < (vs.length : Int)) = true := by simp; omega
        obtain ⟨x, hx⟩ := elem_at hlt
        have hf2 := flat2_at (HI.out.get hx.out)
        have g0 : wr.cell? ⟨g, j * 2, none⟩ = some (.int .i64 x.1) := by rw [ho.cellAt (j * 2) (by omega)]; exact hf2.1
        have g1 : wr.cell? ⟨g, j * 2 + 1, none⟩ = some (.int .i64 x.2) := by rw [ho.cellAt (j * 2 + 1) (by omega)]; exact hf2.2
        have HP := Lib.hid (fun w' h => hp x w' (List.mem_of_getElem? hx.out) h)
        obtain ⟨xa, xb⟩ := x
        simp only at g0 g1
        have hgA : w.grownBy (wr.alloc (.cells #[.int .i64 xa, .int .i64 xb] 42)) (some g) := ⟨hg.os, hg.tape, hg.output, Nat.le_trans hg.size (by simp), fun k hk hne => by rw [← hg.block k hk hne]; exact (below_one _).block k (Nat.lt_of_lt_of_le hk hg.size)⟩
        go_wp2_with fail
        refine (HP.out _ hgA).mono ?_
        rintro e w2 ⟨rfl, hb2'⟩
        have b0 := (box_after hb2').1 0 _ rfl
        have b1 := (box_after hb2').1 1 _ rfl
        have hb2 := Below.chain (below_one _) hb2'
        clear hb2'
        have ho2 := own_keep ho hb2
        have hg2 : w.grownBy w2 (some g) := by
          have h := Below.gr hb2
          exact ⟨h.os.trans hg.os, h.tape.trans hg.tape, h.output.trans hg.output, Nat.le_trans hg.size h.size, fun k hk hne => (h.block k (Nat.lt_of_lt_of_le hk hg.size) (by simp)).trans (hg.block k hk hne)⟩
        have hRl := HI.out.len
        clear ho hg hb2 g0 g1 hgA HP
        rcases hq : p (xa, xb) with _ | _
        · have HI2 := Lib.hid (HI.out.keep hx.out hq)
          obtain ⟨⟨u0, gi⟩, ⟨u1, gi1⟩, ⟨u2, gi2⟩, fi, fi1, fi2, ho3, hst⟩ := pair_set (a := xa) (b := xb) ho2 hRl (show i < vs.length by omega)
          have hg3 := hg2.trans hst
          have HQ := Lib.hid hq
          have HO := Lib.hid ho3; have HG := Lib.hid hg3
          clear hst ho2 hg2 hq ho3 hg3
          go_wp2
          go_roundw
          case rel => exact ⟨i + 1, j + 1, R.set i (xa, xb), by go_num, by go_num, by omega, by omega, HI2, HO.out, HG.out⟩
          case measure => simp [intOf]; omega
        · have HI2 := Lib.hid (HI.out.skip hx.out hq)
          have HQ := Lib.hid hq
          clear hq
          go_wp2
          go_roundw
          case rel => exact ⟨i, j + 1, R, rfl, by go_num, by omega, by omega, HI2, ho2, hg2⟩
          case measure => simp [intOf]; omega
      · obtain rfl : j = vs.length := by omega
        have hdn := HI.out.done
        obtain ⟨ys, ho3, hys, hg3⟩ := own_cells (Builtin.zeroCells (Value.agg #[.int .i64 0, .int .i64 0]).cells (vs.length - i)).toList (i * 2) wr (flat2 R) ho
        have ho4 := own_cut ho3 (show i ≤ vs.length by omega)
        rw [hys, flat2_take, hdn.1] at ho4
        have hcl : ∀ ty, (Builtin.clear_ #[27] ty #[.slice (some ⟨g, i * 2, none⟩) (vs.length - i) (cap - i)]).run Try.prog wr = .ok (.tuple #[]) (wr.setCells g (i * 2) (Builtin.zeroCells (Value.agg #[.int .i64 0, .int .i64 0]).cells (vs.length - i)).toList) := fun ty =>
          run_clear_cells wr 27 42 ty (.agg #[.int .i64 0, .int .i64 0]) Try.underlying27 HZ.out (by simp [Value.cells]; rfl) (by simp [Value.cells]) g (i * 2) (vs.length - i) (cap - i) (by omega) (there_sub (own_there ho) (by omega) (by simp [Value.cells]; omega))
        have hg5 : w.grownBy (wr.setCells g (i * 2) (Builtin.zeroCells (Value.agg #[.int .i64 0, .int .i64 0]).cells (vs.length - i)).toList) (some g) :=
          ⟨hg3.os.trans hg.os, hg3.tape.trans hg.tape, hg3.output.trans hg.output, Nat.le_trans hg.size hg3.size, fun k hk hne => (hg3.block k (Nat.lt_of_lt_of_le hk hg.size) hne).trans (hg.block k hk hne)⟩
        have HDN := Lib.hid hdn.2
        have HO := Lib.hid ho4; have HG := Lib.hid hg5
        clear hdn ho4 hg5 ho3 hys hg3 ho hg
        go_wp2
        go_ret
        exact ⟨_, rfl, ownsRow_cast HO.out HDN.out rfl, HG.out⟩
end Go.Proofs.Ytlipkplomndjcaa
