/- Walks of slices.DeleteFunc at slices of slices of ints. -/
import Derived.Test.YtlipkplomndjcaaDel
import Derived.Test.YtlipkplomndjcaaGroups
import Derived.Test.YtlipkplomndjcaaAll
namespace Go.Proofs.Ytlipkplomndjcaa
open Go.RowKit
set_option linter.unusedVariables false
set_option maxRecDepth 100000
theorem Sl.partsV {w : World} {v : Value} {xs : List Value} (h : Sl w 1 v xs.length xs) : ∃ a c, v = .slice a xs.length c ∧ xs.length ≤ c ∧ c ≤ 9223372036854775807 ∧
    Hid (∀ k x, xs[k]? = some x → ∃ b off, a = some ⟨b, off, none⟩ ∧ w.cell? ⟨b, off + k, none⟩ = some x) := by
  obtain ⟨a, c, rfl, h1, h2, h3, h4⟩ := h
  refine ⟨a, c, rfl, h1, by unfold maxLen at h2; omega, fun k x hk => ?_⟩
  have hlt : k < xs.length := (List.getElem?_eq_some_iff.1 hk).1
  obtain ⟨b, off, rfl, hc⟩ := h4 (by omega)
  exact ⟨b, off, rfl, by rw [hc k (by omega), hk]⟩
theorem IndexFuncV_c (v : Value) (xs : List Value) (fn : Nat) (cap : Array Value) (p : Value → Bool) (w : World) (hv : Sl w 1 v xs.length xs) (hf : CallsIt fn)
    (hp : ∀ (x : Value) (w' : World), x ∈ xs → Below w.heap.size w w' → Calls Try.prog fn (#[x] ++ cap) w' fun e w'' => e = .returned (.bool (p x)) ∧ Below w'.heap.size w' w'') :
    Calls Try.prog 149 #[v, .func (.func fn) #[] cap] w fun e w' => e = .returned (.int .i64 (firstAt p xs)) ∧ Below w.heap.size w w' := by
  obtain ⟨a, c, rfl, hc1, hc2, HC⟩ := hv.partsV
  have hf' : ∀ (bs : Array Value) (w : World), (callFunc fn bs).run Try.prog w = .ok (.enter fn bs) w := hf
  go_enter Try.func149, Try.ntmps149
  go_wp2
  go_loopw [8] (fun i wr => ∃ k : Nat, k ≤ xs.length ∧ i = .int .i64 k ∧ Hid (∀ j x, j < k → xs[j]? = some x → p x = false) ∧ Below w.heap.size w wr) (fun i _ => xs.length - (intOf i).toNat)
  case atStart => exact ⟨0, by omega, rfl, fun j x hj => by omega, Below.refl _ _⟩
  case round =>
    obtain ⟨k, hk, rfl, hbef, hb⟩ := hrel
    have hlen := hv.le
    by_cases hlt : k < xs.length
    · obtain ⟨x, hx⟩ := elem_at hlt
      obtain ⟨b, off, rfl, g0⟩ := HC.out k x hx.out
      have hblt : b < w.heap.size := World.block_lt_of_cell? w _ g0
      have g1 : wr.cell? ⟨b, off + k, none⟩ = some x := ((bcell hb).1 _ _ hblt).trans g0
      clear g0
      go_wp2_with fail
      refine (hp x _ (List.mem_of_getElem? hx.out) hb).mono ?_
      rintro e w1 ⟨rfl, hb1⟩
      have hb2 : Below w.heap.size w w1 := hb.trans (hb1.mono hb.size)
      rcases hpx : p x with _ | _
      · have HP := Lib.hid hpx; clear hpx
        go_wp2
        go_roundw
        case rel => exact ⟨k + 1, by omega, by go_num, fun j y hj hy => by
          by_cases hj2 : j < k
          · exact hbef.out j y hj2 hy
          · obtain rfl : j = k := by omega
            rw [hx.out] at hy; obtain rfl := Option.some.inj hy; exact HP.out, hb2⟩
        case measure => simp [intOf]; omega
      · have HP := Lib.hid hpx; clear hpx
        go_wp2
        go_ret
        exact ⟨int_ret (firstAt_some hx.out HP.out hbef.out).symm, hb2⟩
    · go_wp2
      go_ret
      exact ⟨int_ret (firstAt_none (by omega) hbef.out).symm, hb⟩
theorem firstAt_cases {α : Type} (p : α → Bool) (xs : List α) : (firstAt p xs = -1 ∧ xs.filter (fun x => !p x) = xs) ∨ ∃ (k : Nat) (x : α), firstAt p xs = (k : Int) ∧ xs[k]? = some x ∧ p x = true ∧ ∀ (j : Nat) (y : α), j < k → xs[j]? = some y → p y = false := by
  unfold firstAt
  cases h : xs.findIdx? p with
  | none =>
    left
    rw [List.findIdx?_eq_none_iff] at h
    exact ⟨rfl, by rw [List.filter_eq_self]; intro x hx; rw [h x hx]; rfl⟩
  | some k =>
    right
    rw [List.findIdx?_eq_some_iff_getElem] at h
    obtain ⟨hk, hp, hb⟩ := h
    refine ⟨k, xs[k], rfl, List.getElem?_eq_getElem hk, hp, fun j y hj hy => ?_⟩
    have hjl : j < xs.length := by omega
    have := hb j hj
    rw [List.getElem?_eq_getElem hjl] at hy
    have e := Option.some.inj hy
    rw [e] at this
    simpa using this
theorem DeleteFuncV_c (u : Value) (vs : List Value) (fn lo : Nat) (p : Value → Bool) (w : World) (ho : w.ownsRow lo 24 1 u vs.length vs) (hf : CallsIt fn) (hsl : ∀ x ∈ vs, ∃ a n c, x = Value.slice a n c)
    (hp : ∀ (x : Value) (w' : World), x ∈ vs → Calls Try.prog fn #[x] w' fun e w'' => e = .returned (.bool (p x)) ∧ Below w'.heap.size w' w'') :
    Calls Try.prog 108 #[u, .func (.func fn) #[] #[]] w fun e w' => ∃ u', e = .returned u' ∧ w'.ownsRow lo 24 1 u' (vs.filter fun x => !p x).length (vs.filter fun x => !p x) ∧ w.grownBy w' u.ownBlock := by
  have hS : Sl w 1 u vs.length vs := Sl.of_own ho
  have hlen := hS.le
  have hf' : ∀ (bs : Array Value) (w : World), (callFunc fn bs).run Try.prog w = .ok (.enter fn bs) w := hf
  rcases firstAt_cases p vs with ⟨hm, hfil⟩ | ⟨k0, x0, hm, hx0, hp0, hbef⟩
  · have HM := Lib.hid hm; have HF := Lib.hid hfil
    clear hm hfil
    obtain ⟨a, c, rfl, _⟩ := hS.slice
    go_enter Try.func108, Try.ntmps108
    go_wp2_with fail
    refine (IndexFuncV_c _ vs fn #[] p _ hS hf (fun x w' hx _ => by simpa using hp x w' hx)).mono ?_
    rintro e w1 ⟨rfl, hb1⟩
    rw [HM.out]
    have hg := Below.gr hb1
    go_wp2
    go_ret
    exact ⟨_, rfl, by rw [HF.out]; exact own_keep ho hb1, ⟨hg.os, hg.tape, hg.output, hg.size, fun k hk _ => hg.block k hk (by simp)⟩⟩
  · have HM := Lib.hid hm
    have hk0 : k0 < vs.length := (List.getElem?_eq_some_iff.1 hx0).1
    have HD := Lib.hid (DInv.start hx0 hp0 hbef)
    clear hm hbef hx0 hp0
    obtain ⟨g, cap, rfl, hlo, hgl, hnc, hcm⟩ := own_form ho (by omega)
    have hcm2 : cap ≤ 9223372036854775807 := by unfold maxLen at hcm; omega
    have hne1 : (((k0 : Int)) == -1) = false := by simp
    have hne2 : decide ((k0 : Int) = -1) = false := by simp
    obtain ⟨inf, hi, hz0, hz1, hz2⟩ := info_parts info_ints
    have hzv : ∀ w : World, (zeroValue 24).run Try.prog w = .ok (.slice none 0 0) w := Try.zeroValue24
    have HZ := Lib.hid hzv
    clear hzv hi hz0 hz1 hz2
    go_enter Try.func108, Try.ntmps108
    go_wp2_with fail
    refine (IndexFuncV_c _ vs fn #[] p _ hS hf (fun x w' hx _ => by simpa using hp x w' hx)).mono ?_
    rintro e w1 ⟨rfl, hb1⟩
    rw [HM.out]
    have ho1 := own_keep ho hb1
    have hg1 : w.grownBy w1 (some g) := by
      have hg := Below.gr hb1
      exact ⟨hg.os, hg.tape, hg.output, hg.size, fun k hk _ => hg.block k hk (by simp)⟩
    clear hS ho hb1
    go_wp2
    go_loopw [5, 6] (fun s5 s6 wr => ∃ (i j : Nat) (R : List Value), s5 = .int .i64 (i : Int) ∧ s6 = .int .i64 (j : Int) ∧ i < j ∧ j ≤ vs.length ∧ Hid (DInv p vs j i R) ∧ wr.ownsRow lo 24 1 (.slice (some ⟨g, 0, none⟩) vs.length cap) vs.length R ∧ w.grownBy wr (some g)) (fun _ s6 _ => vs.length - (intOf s6).toNat)
    case atStart => exact ⟨k0, k0 + 1, vs, rfl, by go_num, by omega, by omega, HD, ho1, hg1⟩
    case round =>
      obtain ⟨i, j, R, rfl, rfl, hij, hjn, HI, ho, hg⟩ := hrel
      clear ho1 hg1 HD
      by_cases hlt : j < vs.length
      · have hd : decide ((j : Int) < (vs.length : Int)) = true := by simp; omega
        obtain ⟨x, hx⟩ := elem_at hlt
        obtain ⟨xa, xn, xc, rfl⟩ := hsl x (List.mem_of_getElem? hx.out)
        have g0 : wr.cell? ⟨g, j, none⟩ = some (.slice xa xn xc) := by rw [ho.cellAt j (by omega)]; exact HI.out.get hx.out
        go_wp2_with fail
        refine (hp _ _ (List.mem_of_getElem? hx.out)).mono ?_
        rintro e w2 ⟨rfl, hb2⟩
        have ho2 := own_keep ho hb2
        have hg2 : w.grownBy w2 (some g) := by
          have h := Below.gr hb2
          exact ⟨h.os.trans hg.os, h.tape.trans hg.tape, h.output.trans hg.output, Nat.le_trans hg.size h.size, fun k hk hne => (h.block k (Nat.lt_of_lt_of_le hk hg.size) (by simp)).trans (hg.block k hk hne)⟩
        have hRl := HI.out.len
        clear ho hg hb2 g0
        rcases hq : p (.slice xa xn xc) with _ | _
        · have HI2 := Lib.hid (HI.out.keep hx.out hq)
          have gi : w2.cell? ⟨g, i, none⟩ = some (R[i]'(by omega)) := by rw [ho2.cellAt i (by omega)]; exact List.getElem?_eq_getElem (by omega)
          have fi := ho2.frozenAt i
          have hst := ho2.stored i (.slice xa xn xc)
          have ho3 := hst.1
          have hg3 : w.grownBy (w2.setCell ⟨g, i, none⟩ (.slice xa xn xc)) (some g) :=
            ⟨hst.2.os.trans hg2.os, hst.2.tape.trans hg2.tape, hst.2.output.trans hg2.output, Nat.le_trans hg2.size hst.2.size, fun k hk hne => (hst.2.block k (Nat.lt_of_lt_of_le hk hg2.size) hne).trans (hg2.block k hk hne)⟩
          generalize R[i]'(by omega) = old at gi
          have HQ := Lib.hid hq
          have HO := Lib.hid ho3; have HG := Lib.hid hg3
          clear hst ho2 hg2 hq ho3 hg3
          go_wp2
          go_roundw
          case rel => exact ⟨i + 1, j + 1, R.set i (.slice xa xn xc), by go_num, by go_num, by omega, by omega, HI2, HO.out, HG.out⟩
          case measure => simp [intOf]; omega
        · have HI2 := Lib.hid (HI.out.skip hx.out hq)
          have HQ := Lib.hid hq
          clear hq
          go_wp2
          go_roundw
          case rel => exact ⟨i, j + 1, R, rfl, by go_num, by omega, by omega, HI2, ho2, hg2⟩
          case measure => simp [intOf]; omega
      · obtain rfl : j = vs.length := by omega
        have hdn := HI.out.done
        obtain ⟨ys, ho3, hys, hg3⟩ := own_cells (Builtin.zeroCells (Value.slice none 0 0).cells (vs.length - i)).toList i wr R ho
        have ho4 := own_cut ho3 (show i ≤ vs.length by omega)
        rw [Nat.mul_one, hys, hdn.1] at ho4
        have hcl : ∀ ty, (Builtin.clear_ #[54] ty #[.slice (some ⟨g, i, none⟩) (vs.length - i) (cap - i)]).run Try.prog wr = .ok (.tuple #[]) (wr.setCells g i (Builtin.zeroCells (Value.slice none 0 0).cells (vs.length - i)).toList) := fun ty =>
          run_clear_cells wr 54 24 ty (.slice none 0 0) Try.underlying54 HZ.out (by simp [Value.cells]; rfl) (by simp [Value.cells]) g i (vs.length - i) (cap - i) (by omega) (there_sub (own_there ho) (by omega) (by simp [Value.cells]; omega))
        have hg5 : w.grownBy (wr.setCells g i (Builtin.zeroCells (Value.slice none 0 0).cells (vs.length - i)).toList) (some g) :=
          ⟨hg3.os.trans hg.os, hg3.tape.trans hg.tape, hg3.output.trans hg.output, Nat.le_trans hg.size hg3.size, fun k hk hne => (hg3.block k (Nat.lt_of_lt_of_le hk hg.size) hne).trans (hg.block k hk hne)⟩
        have HDN := Lib.hid hdn.2
        have HO := Lib.hid ho4; have HG := Lib.hid hg5
        clear hdn ho4 hg5 ho3 hys hg3 ho hg
        go_wp2
        go_ret
        exact ⟨_, rfl, ownsRow_cast HO.out HDN.out rfl, HG.out⟩
end Go.Proofs.Ytlipkplomndjcaa
