/- Texts of this claim, gathered: DelV, SS, Conf, AllFaults, Harm. -/
import Derived.Test.YtfbnmkpkihfocaaK3
namespace Go.Proofs.Ytfbnmkpkihfocaa
open Go.RowKit
set_option linter.unusedVariables false
set_option maxRecDepth 100000
theorem Sl.partsV {w : World} {v : Value} {xs : List Value} (h : Sl w 1 v xs.length xs) : ∃ a c, v = .slice a xs.length c ∧ xs.length ≤ c ∧ c ≤ 9223372036854775807 ∧
    Hid (∀ k x, xs[k]? = some x → ∃ b off, a = some ⟨b, off, none⟩ ∧ w.cell? ⟨b, off + k, none⟩ = some x) := by
  obtain ⟨a, c, rfl, h1, h2, h3, h4⟩ := h
  refine ⟨a, c, rfl, h1, by unfold maxLen at h2; omega, fun k x hk => ?_⟩
  have hlt : k < xs.length := (List.getElem?_eq_some_iff.1 hk).1
  obtain ⟨b, off, rfl, hc⟩ := h4 (by omega)
  exact ⟨b, off, rfl, by rw [hc k (by omega), hk]⟩
theorem IndexFuncV_c (v : Value) (xs : List Value) (fn : Nat) (cap : Array Value) (p : Value → Bool) (w : World) (hv : Sl w 1 v xs.length xs) (hf : CallsIt fn)
    (hp : ∀ (x : Value) (w' : World), x ∈ xs → Below w.heap.size w w' → Calls Try.prog fn (#[x] ++ cap) w' fun e w'' => e = .returned (.bool (p x)) ∧ Below w'.heap.size w' w'') :
    Calls Try.prog 88 #[v, .func (.func fn) #[] cap] w fun e w' => e = .returned (.int .i64 (firstAt p xs)) ∧ Below w.heap.size w w' := by
  obtain ⟨a, c, rfl, hc1, hc2, HC⟩ := hv.partsV
  have hf' : ∀ (bs : Array Value) (w : World), (callFunc fn bs).run Try.prog w = .ok (.enter fn bs) w := hf
  go_enter Try.func88, Try.ntmps88
  go_wp2
  go_loopw [8] (fun i wr => ∃ k : Nat, k ≤ xs.length ∧ i = .int .i64 k ∧ Hid (∀ j x, j < k → xs[j]? = some x → p x = false) ∧ Below w.heap.size w wr) (fun i _ => xs.length - (intOf i).toNat)
  case atStart => exact ⟨0, by omega, rfl, fun j x hj => by omega, Below.refl _ _⟩
  case round =>
    obtain ⟨k, hk, rfl, hbef, hb⟩ := hrel
    have hlen := hv.le
    by_cases hlt : k < xs.length
    · obtain ⟨x, hx⟩ := elem_at hlt
      obtain ⟨b, off, rfl, g0⟩ := HC.out k x hx.out
      have hblt : b < w.heap.size := World.block_lt_of_cell? w _ g0
      have g1 : wr.cell? ⟨b, off + k, none⟩ = some x := ((bcell hb).1 _ _ hblt).trans g0
      clear g0
      go_wp2_with fail
      refine (hp x _ (List.mem_of_getElem? hx.out) hb).mono ?_
      rintro e w1 ⟨rfl, hb1⟩
      have hb2 : Below w.heap.size w w1 := hb.trans (hb1.mono hb.size)
      rcases hpx : p x with _ | _
      · have HP := Lib.hid hpx; clear hpx
        go_wp2
        go_roundw
        case rel => exact ⟨k + 1, by omega, by go_num, fun j y hj hy => by
          by_cases hj2 : j < k
          · exact hbef.out j y hj2 hy
          · obtain rfl : j = k := by omega
            rw [hx.out] at hy; obtain rfl := Option.some.inj hy; exact HP.out, hb2⟩
        case measure => simp [intOf]; omega
      · have HP := Lib.hid hpx; clear hpx
        go_wp2
        go_ret
        exact ⟨int_ret (firstAt_some hx.out HP.out hbef.out).symm, hb2⟩
    · go_wp2
      go_ret
      exact ⟨int_ret (firstAt_none (by omega) hbef.out).symm, hb⟩
theorem firstAt_cases {α : Type} (p : α → Bool) (xs : List α) : (firstAt p xs = -1 ∧ xs.filter (fun x => !p x) = xs) ∨ ∃ (k : Nat) (x : α), firstAt p xs = (k : Int) ∧ xs[k]? = some x ∧ p x = true ∧ ∀ (j : Nat) (y : α), j < k → xs[j]? = some y → p y = false := by
  unfold firstAt
  cases h : xs.findIdx? p with
  | none =>
    left
    rw [List.findIdx?_eq_none_iff] at h
    exact ⟨rfl, by rw [List.filter_eq_self]; intro x hx; rw [h x hx]; rfl⟩
  | some k =>
    right
    rw [List.findIdx?_eq_some_iff_getElem] at h
    obtain ⟨hk, hp, hb⟩ := h
    refine ⟨k, xs[k], rfl, List.getElem?_eq_getElem hk, hp, fun j y hj hy => ?_⟩
    have hjl : j < xs.length := by omega
    have := hb j hj
    rw [List.getElem?_eq_getElem hjl] at hy
    have e := Option.some.inj hy
    rw [e] at this
    simpa using this
theorem DeleteFuncV_c (u : Value) (vs : List Value) (fn lo : Nat) (p : Value → Bool) (w : World) (ho : w.ownsRow lo 27 1 u vs.length vs) (hf : CallsIt fn) (hsl : ∀ x ∈ vs, ∃ a n c, x = Value.slice a n c)
    (hp : ∀ (x : Value) (w' : World), x ∈ vs → Calls Try.prog fn #[x] w' fun e w'' => e = .returned (.bool (p x)) ∧ Below w'.heap.size w' w'') :
    Calls Try.prog 49 #[u, .func (.func fn) #[] #[]] w fun e w' => ∃ u', e = .returned u' ∧ w'.ownsRow lo 27 1 u' (vs.filter fun x => !p x).length (vs.filter fun x => !p x) ∧ w.grownBy w' u.ownBlock := by
  have hS : Sl w 1 u vs.length vs := Sl.of_own ho
  have hlen := hS.le
  have hf' : ∀ (bs : Array Value) (w : World), (callFunc fn bs).run Try.prog w = .ok (.enter fn bs) w := hf
  rcases firstAt_cases p vs with ⟨hm, hfil⟩ | ⟨k0, x0, hm, hx0, hp0, hbef⟩
  · have HM := Lib.hid hm; have HF := Lib.hid hfil
    clear hm hfil
    obtain ⟨a, c, rfl, _⟩ := hS.slice
    go_enter Try.func49, Try.ntmps49
    go_wp2_with fail
    refine (IndexFuncV_c _ vs fn #[] p _ hS hf (fun x w' hx _ => by simpa using hp x w' hx)).mono ?_
    rintro e w1 ⟨rfl, hb1⟩
    rw [HM.out]
    have hg := Below.gr hb1
    go_wp2
    go_ret
    exact ⟨_, rfl, by rw [HF.out]; exact own_keep ho hb1, ⟨hg.os, hg.tape, hg.output, hg.size, fun k hk _ => hg.block k hk (by simp)⟩⟩
  · have HM := Lib.hid hm
    have hk0 : k0 < vs.length := (List.getElem?_eq_some_iff.1 hx0).1
    have HD := Lib.hid (DInv.start hx0 hp0 hbef)
    clear hm hbef hx0 hp0
    obtain ⟨g, cap, rfl, hlo, hgl, hnc, hcm⟩ := own_form ho (by omega)
    have hcm2 : cap ≤ 9223372036854775807 := by unfold maxLen at hcm; omega
    have hne1 : (((k0 : Int)) == -1) = false := by simp
    have hne2 : decide ((k0 : Int) = -1) = false := by simp
    obtain ⟨inf, hi, hz0, hz1, hz2⟩ := info_parts info_ints
    have hzv : ∀ w : World, (zeroValue 27).run Try.prog w = .ok (.slice none 0 0) w := Try.zeroValue27
    have HZ := Lib.hid hzv
    clear hzv hi hz0 hz1 hz2
    go_enter Try.func49, Try.ntmps49
    go_wp2_with fail
    refine (IndexFuncV_c _ vs fn #[] p _ hS hf (fun x w' hx _ => by simpa using hp x w' hx)).mono ?_
    rintro e w1 ⟨rfl, hb1⟩
    rw [HM.out]
    have ho1 := own_keep ho hb1
    have hg1 : w.grownBy w1 (some g) := by
      have hg := Below.gr hb1
      exact ⟨hg.os, hg.tape, hg.output, hg.size, fun k hk _ => hg.block k hk (by simp)⟩
    clear hS ho hb1
    go_wp2
    go_loopw [5, 6] (fun s5 s6 wr => ∃ (i j : Nat) (R : List Value), s5 = .int .i64 (i : Int) ∧ s6 = .int .i64 (j : Int) ∧ i < j ∧ j ≤ vs.length ∧ Hid (DInv p vs j i R) ∧ wr.ownsRow lo 27 1 (.slice (some ⟨g, 0, none⟩) vs.length cap) vs.length R ∧ w.grownBy wr (some g)) (fun _ s6 _ => vs.length - (intOf s6).toNat)
    case atStart => exact ⟨k0, k0 + 1, vs, rfl, by go_num, by omega, by omega, HD, ho1, hg1⟩
    case round =>
      obtain ⟨i, j, R, rfl, rfl, hij, hjn, HI, ho, hg⟩ := hrel
      clear ho1 hg1 HD
      by_cases hlt : j < vs.length
      · have hd : decide ((j : Int) < (vs.length : Int)) = true := by simp; omega
        obtain ⟨x, hx⟩ := elem_at hlt
        obtain ⟨xa, xn, xc, rfl⟩ := hsl x (List.mem_of_getElem? hx.out)
        have g0 : wr.cell? ⟨g, j, none⟩ = some (.slice xa xn xc) := by rw [ho.cellAt j (by omega)]; exact HI.out.get hx.out
        go_wp2_with fail
        refine (hp _ _ (List.mem_of_getElem? hx.out)).mono ?_
        rintro e w2 ⟨rfl, hb2⟩
        have ho2 := own_keep ho hb2
        have hg2 : w.grownBy w2 (some g) := by
          have h := Below.gr hb2
          exact ⟨h.os.trans hg.os, h.tape.trans hg.tape, h.output.trans hg.output, Nat.le_trans hg.size h.size, fun k hk hne => (h.block k (Nat.lt_of_lt_of_le hk hg.size) (by simp)).trans (hg.block k hk hne)⟩
        have hRl := HI.out.len
        clear ho hg hb2 g0
        rcases hq : p (.slice xa xn xc) with _ | _
        · have HI2 := Lib.hid (HI.out.keep hx.out hq)
          have gi : w2.cell? ⟨g, i, none⟩ = some (R[i]'(by omega)) := by rw [ho2.cellAt i (by omega)]; exact List.getElem?_eq_getElem (by omega)
          have fi := ho2.frozenAt i
          have hst := ho2.stored i (.slice xa xn xc)
          have ho3 := hst.1
          have hg3 : w.grownBy (w2.setCell ⟨g, i, none⟩ (.slice xa xn xc)) (some g) :=
            ⟨hst.2.os.trans hg2.os, hst.2.tape.trans hg2.tape, hst.2.output.trans hg2.output, Nat.le_trans hg2.size hst.2.size, fun k hk hne => (hst.2.block k (Nat.lt_of_lt_of_le hk hg2.size) hne).trans (hg2.block k hk hne)⟩
          generalize R[i]'(by omega) = old at gi
          have HQ := Lib.hid hq
          have HO := Lib.hid ho3; have HG := Lib.hid hg3
          clear hst ho2 hg2 hq ho3 hg3
          go_wp2
          go_roundw
          case rel => exact ⟨i + 1, j + 1, R.set i (.slice xa xn xc), by go_num, by go_num, by omega, by omega, HI2, HO.out, HG.out⟩
          case measure => simp [intOf]; omega
        · have HI2 := Lib.hid (HI.out.skip hx.out hq)
          have HQ := Lib.hid hq
          clear hq
          go_wp2
          go_roundw
          case rel => exact ⟨i, j + 1, R, rfl, by go_num, by omega, by omega, HI2, ho2, hg2⟩
          case measure => simp [intOf]; omega
      · obtain rfl : j = vs.length := by omega
        have hdn := HI.out.done
        obtain ⟨ys, ho3, hys, hg3⟩ := own_cells (Builtin.zeroCells (Value.slice none 0 0).cells (vs.length - i)).toList i wr R ho
        have ho4 := own_cut ho3 (show i ≤ vs.length by omega)
        rw [Nat.mul_one, hys, hdn.1] at ho4
        have hcl : ∀ ty, (Builtin.clear_ #[30] ty #[.slice (some ⟨g, i, none⟩) (vs.length - i) (cap - i)]).run Try.prog wr = .ok (.tuple #[]) (wr.setCells g i (Builtin.zeroCells (Value.slice none 0 0).cells (vs.length - i)).toList) := fun ty =>
          run_clear_cells wr 30 27 ty (.slice none 0 0) Try.underlying30 HZ.out (by simp [Value.cells]; rfl) (by simp [Value.cells]) g i (vs.length - i) (cap - i) (by omega) (there_sub (own_there ho) (by omega) (by simp [Value.cells]; omega))
        have hg5 : w.grownBy (wr.setCells g i (Builtin.zeroCells (Value.slice none 0 0).cells (vs.length - i)).toList) (some g) :=
          ⟨hg3.os.trans hg.os, hg3.tape.trans hg.tape, hg3.output.trans hg.output, Nat.le_trans hg.size hg3.size, fun k hk hne => (hg3.block k (Nat.lt_of_lt_of_le hk hg.size) hne).trans (hg.block k hk hne)⟩
        have HDN := Lib.hid hdn.2
        have HO := Lib.hid ho4; have HG := Lib.hid hg5
        clear hdn ho4 hg5 ho3 hys hg3 ho hg
        go_wp2
        go_ret
        exact ⟨_, rfl, ownsRow_cast HO.out HDN.out rfl, HG.out⟩
end Go.Proofs.Ytfbnmkpkihfocaa
namespace Go.Proofs.Ytfbnmkpkihfocaa
open Go.RowKit
set_option linter.unusedVariables false
set_option maxRecDepth 100000
theorem Sl.keepB {w w' : World} {size n B : Nat} {v : Value} {xs : List Value} (h : Sl w size v n xs) (hb : Below B w w') (hv : ∀ g, v.ownBlock = some g → g < B) : Sl w' size v n xs := by
  obtain ⟨a, c, rfl, h1, h2, h3, h4⟩ := h
  refine ⟨a, c, rfl, h1, h2, h3, fun hn => ?_⟩
  obtain ⟨b, off, rfl, hc⟩ := h4 hn
  refine ⟨b, off, rfl, fun j hj => ?_⟩
  have hlt := hv b rfl
  rw [← hc j hj]
  exact hb.cell (p := ⟨b, off + j, none⟩) hlt
/-- a slice of slices that reads so, all its blocks below B -/
def RdSS (w : World) (B : Nat) (u : Value) (xss : List (List Int)) : Prop :=
  ∃ vs, vs.length = xss.length ∧ Sl w 1 u vs.length vs ∧ (∀ g, u.ownBlock = some g → g < B) ∧
    ∀ (k : Nat) (v : Value) (xs : List Int), vs[k]? = some v → xss[k]? = some xs → Ints w v xs ∧ ∀ g, v.ownBlock = some g → g < B
theorem RdSS.keep {w w' : World} {B B' : Nat} {u : Value} {xss : List (List Int)} (h : RdSS w B u xss) (hb : Below B' w w') (hB : B ≤ B') : RdSS w' B u xss := by
  obtain ⟨vs, h1, h2, h3, h4⟩ := h
  exact ⟨vs, h1, h2.keepB hb (fun g hg => Nat.lt_of_lt_of_le (h3 g hg) hB), h3, fun k v xs hv hx => ⟨Sl.keepB (h4 k v xs hv hx).1 hb (fun g hg => Nat.lt_of_lt_of_le ((h4 k v xs hv hx).2 g hg) hB), (h4 k v xs hv hx).2⟩⟩
theorem OwnSS.rd {w : World} {lo : Nat} {u : Value} {xss : List (List Int)} (h : OwnSS w lo u xss) : RdSS w w.heap.size u xss := by
  obtain ⟨vs, ho, hi⟩ := h
  exact ⟨vs, hi.1, Sl.of_own (ownsRow_cast ho hi.1.symm rfl), fun g hg => (ho.lt g hg).2, fun k v xs hv hx => ⟨Ints.of_own (hi.2.1 k v xs hv hx), fun g hg => ((hi.2.1 k v xs hv hx).lt g hg).2⟩⟩
theorem RdSS.parts {w : World} {B : Nat} {u : Value} {xss : List (List Int)} (h : RdSS w B u xss) : ∃ a c, u = .slice a xss.length c ∧ xss.length ≤ 9223372036854775807 ∧
    Hid (∀ k xs, xss[k]? = some xs → ∃ b off a' c', a = some ⟨b, off, none⟩ ∧ w.cell? ⟨b, off + k, none⟩ = some (.slice a' xs.length c') ∧ Ints w (.slice a' xs.length c') xs) := by
  obtain ⟨vs, h1, h2, h3, h4⟩ := h
  have hle := h2.le
  obtain ⟨a, c, rfl, _, _, HC⟩ := h2.partsV
  refine ⟨a, c, by rw [h1], by omega, fun k xs hk => ?_⟩
  have hlt : k < vs.length := by rw [h1]; exact (List.getElem?_eq_some_iff.1 hk).1
  have hv : vs[k]? = some vs[k] := List.getElem?_eq_getElem hlt
  obtain ⟨b, off, e, hc⟩ := HC.out k _ hv
  have hI := (h4 k _ xs hv hk).1
  obtain ⟨a', c', e2, _⟩ := hI.parts
  exact ⟨b, off, a', c', e, by rw [hc, e2], by rw [← e2]; exact hI⟩
/-! marks -/
def totSS (xss : List (List Int)) : Nat := (xss.map List.length).sum
def seqSS : Int → List (List Int) → List (List Int)
  | _, [] => []
  | k, xs :: t => seqI k xs.length :: seqSS (k + xs.length) t
theorem seqSS_len : ∀ (k : Int) (xss : List (List Int)), (seqSS k xss).length = xss.length
  | _, [] => rfl
  | k, xs :: t => by simp [seqSS, seqSS_len]
theorem seqSS_append : ∀ (k : Int) (a b : List (List Int)), seqSS k (a ++ b) = seqSS k a ++ seqSS (k + totSS a) b
  | k, [], b => by simp [seqSS, totSS]
  | k, xs :: t, b => by
    simp only [List.cons_append, seqSS, seqSS_append]
    congr 3
    simp only [totSS, List.map_cons, List.sum_cons]; omega
theorem totSS_succ {xss : List (List Int)} {i : Nat} {xs : List Int} (h : xss[i]? = some xs) : totSS (xss.take (i + 1)) = totSS (xss.take i) + xs.length := by
  unfold totSS; rw [take_snoc h, List.map_append, List.sum_append]; simp
theorem totSS_le (xss : List (List Int)) (i : Nat) : totSS (xss.take i) ≤ totSS xss := by
  have h : totSS xss = totSS (xss.take i) + totSS (xss.drop i) := by
    unfold totSS
    rw [← List.sum_append, ← List.map_append, List.take_append_drop]
  omega
theorem seqSS_at {k : Int} {xss : List (List Int)} {i : Nat} {xs : List Int} (h : xss[i]? = some xs) : (seqSS k xss)[i]? = some (seqI (k + totSS (xss.take i)) xs.length) := by
  have hi : i < xss.length := (List.getElem?_eq_some_iff.1 h).1
  have e : xss = xss.take i ++ xs :: xss.drop (i + 1) := by
    have hx : xss[i] = xs := (List.getElem?_eq_some_iff.1 h).2
    conv => lhs; rw [← List.take_append_drop i xss, List.drop_eq_getElem_cons hi, hx]
  have hl : (seqSS k (xss.take i)).length = i := by rw [seqSS_len, List.length_take]; omega
  conv => lhs; rw [e]
  rw [seqSS_append, List.getElem?_append_right (by omega), hl, Nat.sub_self]; rfl
/-- marked as far as i -/
def mkSS (k : Int) (xss : List (List Int)) (i : Nat) : List (List Int) := seqSS k (xss.take i) ++ xss.drop i
theorem mkSS_at {k : Int} {xss : List (List Int)} {i : Nat} (hi : i ≤ xss.length) : (mkSS k xss i)[i]? = xss[i]? := by
  unfold mkSS
  have hl : (seqSS k (xss.take i)).length = i := by rw [seqSS_len, List.length_take]; omega
  rw [List.getElem?_append_right (by omega), hl, Nat.sub_self, List.getElem?_drop, Nat.add_zero]
theorem mkSS_succ {k : Int} {xss : List (List Int)} {i : Nat} {xs : List Int} (h : xss[i]? = some xs) : (mkSS k xss i).set i (seqI (k + totSS (xss.take i)) xs.length) = mkSS k xss (i + 1) := by
  have hi : i < xss.length := (List.getElem?_eq_some_iff.1 h).1
  have hx : xss[i] = xs := (List.getElem?_eq_some_iff.1 h).2
  have hl : (seqSS k (xss.take i)).length = i := by rw [seqSS_len, List.length_take]; omega
  unfold mkSS
  rw [List.drop_eq_getElem_cons hi, set_mid _ _ _ _ hl.symm, take_snoc h, seqSS_append]
  simp [seqSS]
theorem mkSS_zero (k : Int) (xss : List (List Int)) : mkSS k xss 0 = xss := rfl
theorem mkSS_all (k : Int) (xss : List (List Int)) : mkSS k xss xss.length = seqSS k xss := by unfold mkSS; rw [List.take_length, List.drop_length, List.append_nil]
theorem mkSS_len {k : Int} {xss : List (List Int)} {i : Nat} (hi : i ≤ xss.length) : (mkSS k xss i).length = xss.length := by
  unfold mkSS; rw [List.length_append, seqSS_len, List.length_take, List.length_drop]; omega
theorem Inn.set {w w' : World} {lo : Nat} {vs : List Value} {xss : List (List Int)} {i : Nat} {v : Value} {ys : List Int} (h : Inn w lo vs xss) (hv : vs[i]? = some v) (hi : i < xss.length)
    (ho : w'.ownsRow lo 3 1 v ys.length (ints ys)) (hg : w.grownBy w' v.ownBlock) : Inn w' lo vs (xss.set i ys) := by
  refine ⟨by rw [List.length_set]; exact h.1, fun k a xs ha hx => ?_, h.2.2⟩
  by_cases hk : k = i
  · subst hk
    rw [List.getElem?_set_self hi] at hx
    rw [hv] at ha
    obtain rfl := Option.some.inj ha
    obtain rfl := Option.some.inj hx
    exact ho
  · rw [List.getElem?_set_ne (by omega)] at hx
    have h1 := h.2.1 k a xs ha hx
    refine h1.kept hg ?_
    by_cases hlt : k < i
    · rcases h.2.2 k i a v hlt ha hv with h2 | h2
      · rw [h2]; cases a.ownBlock <;> simp
      · exact .inr (fun e => h2 e.symm)
    · rcases h.2.2 i k v a (by omega) hv ha with h2 | h2
      · exact .inl h2
      · exact .inr h2
end Go.Proofs.Ytfbnmkpkihfocaa
namespace Go.Proofs.Ytfbnmkpkihfocaa
open Go.RowKit
set_option linter.unusedVariables false
set_option maxRecDepth 100000
theorem Inn.tail {w : World} {lo : Nat} {v : Value} {vs : List Value} {xs : List Int} {xss : List (List Int)} (h : Inn w lo (v :: vs) (xs :: xss)) : Inn w lo vs xss :=
  ⟨by have := h.1; simpa using this, fun k a ys ha hy => h.2.1 (k + 1) a ys (by simpa using ha) (by simpa using hy), fun i j a b hij ha hb => h.2.2 (i + 1) (j + 1) a b (by omega) (by simpa using ha) (by simpa using hb)⟩
theorem Inn.head {w : World} {lo : Nat} {v : Value} {vs : List Value} {xs : List Int} {xss : List (List Int)} (h : Inn w lo (v :: vs) (xs :: xss)) : w.ownsRow lo 3 1 v xs.length (ints xs) ∧ ∀ b ∈ vs, b.ownBlock = none ∨ b.ownBlock ≠ v.ownBlock :=
  ⟨h.2.1 0 v xs rfl rfl, fun b hb => by obtain ⟨j, hj, rfl⟩ := List.getElem_of_mem hb; exact h.2.2 0 (j + 1) v vs[j] (by omega) rfl (by simp [hj])⟩
theorem Inn.cons {w : World} {lo : Nat} {v : Value} {vs : List Value} {xs : List Int} {xss : List (List Int)} (h : Inn w lo vs xss) (ho : w.ownsRow lo 3 1 v xs.length (ints xs)) (hd : ∀ b ∈ vs, b.ownBlock = none ∨ b.ownBlock ≠ v.ownBlock) : Inn w lo (v :: vs) (xs :: xss) := by
  refine ⟨by simp [h.1], fun k a ys ha hy => ?_, fun i j a b hij ha hb => ?_⟩
  · cases k with
    | zero => simp at ha hy; subst ha hy; exact ho
    | succ k => exact h.2.1 k a ys (by simpa using ha) (by simpa using hy)
  · cases i with
    | zero =>
      cases j with
      | zero => omega
      | succ j => simp at ha hb; subst ha; exact hd b (List.mem_of_getElem? hb)
    | succ i =>
      cases j with
      | zero => omega
      | succ j => exact h.2.2 i j a b (by omega) (by simpa using ha) (by simpa using hb)
theorem Inn.filter {w : World} {lo : Nat} {q : Value → Bool} {q' : List Int → Bool} : ∀ {vs : List Value} {xss : List (List Int)}, Inn w lo vs xss → (∀ (k : Nat) v xs, vs[k]? = some v → xss[k]? = some xs → q v = q' xs) → Inn w lo (vs.filter q) (xss.filter q')
  | [], [], h, _ => Inn.nil_ _ _
  | [], _ :: _, h, _ => by have := h.1; simp at this
  | _ :: _, [], h, _ => by have := h.1; simp at this
  | v :: vs, xs :: xss, h, hq => by
    have ih := Inn.filter h.tail (fun k a b ha hb => hq (k + 1) a b (by simpa using ha) (by simpa using hb))
    have h0 := hq 0 v xs rfl rfl
    cases hv : q v
    · rw [hv] at h0
      rw [List.filter_cons_of_neg (by simp [hv]), List.filter_cons_of_neg (by simp [← h0])]
      exact ih
    · rw [hv] at h0
      rw [List.filter_cons_of_pos hv, List.filter_cons_of_pos h0.symm]
      exact ih.cons h.head.1 (fun b hb => h.head.2 b (List.mem_filter.1 hb).1)
/-- a slice of one element -/
def oneV : Value → Bool
  | .slice _ n _ => n == 1
  | _ => false
theorem own_oneV {w : World} {lo n size : Nat} {e : TypeId} {v : Value} {xs : List Value} (h : w.ownsRow lo e size v n xs) : oneV v = (n == 1) := by
  rcases h.2 with ⟨rfl, rfl⟩ | ⟨g, c, cur, rfl, _⟩ <;> rfl
def cfF (xs : List Int) : Bool := !(xs.length == 1)
def cfL (d l : Int) : List (List Int) := if faultB d l then (grpL d l).filter cfF else []
theorem totSS_filter (q : List Int → Bool) (xss : List (List Int)) (h : ∀ xs ∈ xss, xs.length ≤ 10) : totSS (xss.filter q) ≤ 10 * xss.length := by
  induction xss with
  | nil => simp [totSS]
  | cons a t ih =>
    have h1 := ih (fun xs hx => h xs (List.mem_cons_of_mem _ hx))
    have h2 := h a List.mem_cons_self
    rw [List.filter_cons]
    split
    · simp only [totSS, List.map_cons, List.sum_cons, List.length_cons] at h1 ⊢; omega
    · simp only [List.length_cons]; omega
theorem cfL_le (d l : Int) : totSS (cfL d l) ≤ 100 := by
  unfold cfL
  split
  · have h1 := totSS_filter cfF (grpL d l) (fun xs hx => by
      unfold grpL grpTo at hx
      simp only [List.mem_map] at hx
      obtain ⟨x, _, rfl⟩ := hx
      exact digL_le _ _ _)
    have h2 : (grpL d l).length ≤ 10 := grpTo_le _ _ _
    omega
  · simp [totSS]
/-- the post of a text that returns a slice of slices of the call's own and a bool -/
def SSPost (w : World) (L : List (List Int)) (b : Bool) (e : Ending) (w' : World) : Prop :=
  ∃ u, e = .returned (.tuple #[u, .bool b]) ∧ OwnSS w' w.heap.size u L ∧ Below w.heap.size w w'
theorem SSPost.mk' {w w' : World} {L L' : List (List Int)} {b b' : Bool} {u : Value} (hL : L = L') (hbb : b = b') (ho : OwnSS w' w.heap.size u L') (hb : Below w.heap.size w w') : SSPost w L b (.returned (.tuple #[u, .bool b'])) w' := by
  subst hL hbb; exact ⟨u, rfl, ho, hb⟩
theorem OwnSS.nil_ (w : World) (lo : Nat) : OwnSS w lo (.slice none 0 0) [] := ⟨[], World.ownsRow_nil _ _ _ _, Inn.nil_ _ _⟩
theorem Inn.lo' {w : World} {lo lo' : Nat} {vs : List Value} {xss : List (List Int)} (h : Inn w lo vs xss) (hl : lo' ≤ lo) : Inn w lo' vs xss := ⟨h.1, fun k v xs h1 h2 => own_lo (h.2.1 k v xs h1 h2) hl, h.2.2⟩
theorem Inn.slices {w : World} {lo : Nat} {vs : List Value} {xss : List (List Int)} (h : Inn w lo vs xss) : ∀ x ∈ vs, ∃ a n c, x = Value.slice a n c := by
  intro x hx
  obtain ⟨k, hk, rfl⟩ := List.getElem_of_mem hx
  obtain ⟨a, c, e, _⟩ := (Sl.of_own (h.2.1 k vs[k] (xss[k]'(by rw [← h.1]; exact hk)) (List.getElem?_eq_getElem hk) (List.getElem?_eq_getElem (by rw [← h.1]; exact hk)))).slice
  exact ⟨a, _, c, e⟩
theorem ConfusedDigits1_c (a : Option Addr) (n c : Nat) (w : World) (hn : n ≤ 9223372036854775807) : Calls Try.prog 50 #[.slice a n c] w fun e w' => e = .returned (.bool (oneV (.slice a n c))) ∧ Below w.heap.size w w' := by
  go_enter Try.func50, Try.ntmps50
  go_wp2
  go_ret
  exact ⟨bool_ret (by unfold oneV; rw [Bool.eq_iff_iff]; simp; omega), Below.refl _ _⟩
theorem ConfusedDigits_c (d l : Int) (w : World) : Calls Try.prog 9 #[.agg #[.int .i64 d, .int .i64 l]] w (SSPost w (cfL d l) (faultB d l)) := by
  rcases ha : faultB d l with _ | _
  · have HL := Lib.hid (show cfL d l = [] by simp [cfL, ha])
    have HA := Lib.hid ha; clear ha
    go_enter Try.func9, Try.ntmps9
    go_wp2_with fail
    refine (IsFault_c d l _).mono ?_
    rintro e w1 ⟨rfl, hb1⟩
    rw [HA.out]
    go_wp2
    go_ret2
    exact SSPost.mk' HL.out rfl (OwnSS.nil_ _ _) (Below.chain (below_one _) hb1)
  · have HL := Lib.hid (show cfL d l = (grpL d l).filter cfF by simp [cfL, ha])
    have bd := faultB_true ha
    have HA := Lib.hid ha; clear ha
    go_enter Try.func9, Try.ntmps9
    go_wp2_with fail
    refine (IsFault_c d l _).mono ?_
    rintro e w1 ⟨rfl, hb1⟩
    rw [HA.out]
    have q0 := (box_after hb1).1 0 _ rfl
    have q1 := (box_after hb1).1 1 _ rfl
    have hb2 := Below.chain (below_one _) hb1
    clear hb1
    go_wp2_with fail
    refine (groups_c d l _ bd.1 bd.2.1 bd.2.2.1 bd.2.2.2.1).mono ?_
    rintro e w2 ⟨u, rfl, ⟨vs, ho, hin⟩, hb3⟩
    have hb4 := Below.chain hb2 hb3
    have h10 : (grpL d l).length ≤ 10 := grpTo_le _ _ _
    have hvl : ∀ x ∈ vs, ∀ a n c, x = Value.slice a n c → n ≤ 9223372036854775807 := by
      intro x hx a n c e
      obtain ⟨k, hk, rfl⟩ := List.getElem_of_mem hx
      have hI := Sl.of_own (hin.2.1 k vs[k] ((grpL d l)[k]'(by rw [← hin.1]; exact hk)) (List.getElem?_eq_getElem hk) (List.getElem?_eq_getElem (by rw [← hin.1]; exact hk)))
      have hle := hI.le
      obtain ⟨a', c', e2, _⟩ := hI.slice
      rw [e] at e2
      injection e2 with _ e3 _
      omega
    have hsl := hin.slices
    obtain ⟨a, c, rfl, _⟩ := (Sl.of_own ho).slice
    have hcl : CallsIt 50 := fun bs w => by kernel_rfl
    have hlo := hb2.size
    clear hb3 hb2 q0 q1
    go_wp2_with fail
    refine (DeleteFuncV_c _ vs _ w1.heap.size oneV _ (ownsRow_cast ho hin.1.symm rfl) hcl hsl (fun x w' hx => by
      obtain ⟨a, n, c, rfl⟩ := hsl x hx
      exact ConfusedDigits1_c a n c w' (hvl _ hx a n c rfl))).mono ?_
    rintro e w3 ⟨u', rfl, ho3, hg3⟩
    have hin3 := Inn.grown hin ho (by decide) hg3
    have hf := hin3.filter (q := fun x => !oneV x) (q' := cfF) (fun k v xs hv hx => by
      have := own_oneV (hin3.2.1 k v xs hv hx)
      show (!oneV v) = !(xs.length == 1)
      rw [this])
    have hb5 : Below w.heap.size w w3 := hb4.grown hg3 hb4.size (fun g hg => by have := (ho.lt g hg).1; omega)
    go_wp2
    go_ret2
    exact SSPost.mk' HL.out rfl ⟨_, ownsRow_cast (own_lo ho3 hlo) hf.1 rfl, hf.lo' hlo⟩ hb5
theorem filter_succ {vs : List Value} {q : Value → Bool} {k : Nat} {v : Value} (h : vs[k]? = some v) : (vs.take (k + 1)).filter q = (vs.take k).filter q ++ if q v then [v] else [] := by
  rw [take_snoc h, List.filter_append]
  cases hq : q v <;> simp [hq]
theorem sConfusedDigits_c (d l : Int) (w : World) : Calls Try.prog 10 #[.agg #[.int .i64 d, .int .i64 l]] w (SSPost w (cfL d l) (faultB d l)) := by
  obtain ⟨inf, hi, hz0, hz1, hz2⟩ := info_parts info_ints
  have ho0 := World.ownsRow_lit (e := 27) (size := 1) (base := w.heap.size) (w.alloc (.cells #[.int .i64 d, .int .i64 l] 25)) #[] 0 (by simp) (by decide) rfl
  have q0 : ((w.alloc (.cells #[.int .i64 d, .int .i64 l] 25)).alloc (.cells #[] 27)).cell? ⟨w.heap.size, 0, none⟩ = some (.int .i64 d) := cell_later (below_one _) (by rw [World.cell?_alloc_at _ _ _ _ rfl]; rfl)
  have q1 : ((w.alloc (.cells #[.int .i64 d, .int .i64 l] 25)).alloc (.cells #[] 27)).cell? ⟨w.heap.size, 1, none⟩ = some (.int .i64 l) := cell_later (below_one _) (by rw [World.cell?_alloc_at _ _ _ _ rfl]; rfl)
  have hb0 : Below w.heap.size w ((w.alloc (.cells #[.int .i64 d, .int .i64 l] 25)).alloc (.cells #[] 27)) := by (repeat (first | exact Below.refl _ _ | exact (Below.refl _ _).drew | assumption | exact below_one _ | refine Below.chain ?_ (by assumption) | refine Below.drew ?_ | refine Below.alc ?_ _ | refine below_drewN ?_ | (refine Below.setCell ?_ ?_ _) | exact Nat.le_refl _ | (simp; done) | (simp; omega)))
  simp only [World.size_alloc] at ho0
  rcases ha : faultB d l with _ | _
  · have HL := Lib.hid (show cfL d l = [] by simp [cfL, ha])
    have HA := Lib.hid ha; clear ha
    go_enter Try.func10, Try.ntmps10
    go_wp2_with fail
    refine (l3Fault_c d l _).mono ?_
    rintro e w1 ⟨rfl, hb1⟩
    rw [HA.out]
    have ho1 := own_keep ho0 hb1
    go_wp2
    go_ret2
    exact SSPost.mk' HL.out rfl ⟨[], ho1, Inn.nil_ _ _⟩ (Below.chain hb0 hb1)
  · have HL := Lib.hid (show cfL d l = (grpL d l).filter cfF by simp [cfL, ha])
    have bd := faultB_true ha
    have HA := Lib.hid ha; clear ha
    go_enter Try.func10, Try.ntmps10
    go_wp2_with fail
    refine (l3Fault_c d l _).mono ?_
    rintro e w1 ⟨rfl, hb1⟩
    rw [HA.out]
    have r0 := cell_later hb1 q0
    have r1 := cell_later hb1 q1
    have ho1 := own_keep ho0 hb1
    have hb2 := Below.chain hb0 hb1
    clear hb0 hb1 q0 q1 ho0
    go_wp2_with fail
    refine (l3Groups_c d l _ bd.1 bd.2.1 bd.2.2.1 bd.2.2.2.1).mono ?_
    rintro e w2 ⟨u, rfl, ⟨vs, hou, hin⟩, hb3⟩
    have hb4 := Below.chain hb2 hb3
    have ho2 := own_keep ho1 hb3
    have h10 : (grpL d l).length ≤ 10 := grpTo_le _ _ _
    have hvl : Hid (vs.length = (grpL d l).length) := hin.1
    have hlo := hb2.size
    have hul := hou.lt
    have hdis : u.ownBlock = none ∨ u.ownBlock ≠ some (w.heap.size + 1) := by
      cases hub : u.ownBlock with
      | none => exact .inl rfl
      | some g => right; intro e; injection e with e; have h1 := (hul g hub).1; have h3 : w.heap.size + 1 < w1.heap.size := (ho1.lt _ rfl).2; omega
    have hSu := Sl.of_own (ownsRow_cast hou hin.1.symm rfl)
    have hgr : Hid (∀ (wr wr' : World) (o : Value) (n : Nat) (xs : List Value), Inn wr w1.heap.size vs (grpL d l) → wr.ownsRow w.heap.size 27 1 o n xs → wr.grownBy wr' o.ownBlock → Inn wr' w1.heap.size vs (grpL d l)) := fun wr wr' o n xs h1 h2 h3 => h1.grown h2 (by decide) h3
    have hone : Hid (∀ (wr : World) (k : Nat) (v : Value) (xs : List Int), Inn wr w1.heap.size vs (grpL d l) → vs[k]? = some v → (grpL d l)[k]? = some xs → oneV v = (xs.length == 1)) := fun wr k v xs h h1 h2 => own_oneV (h.2.1 k v xs h1 h2)
    have hHN : Hid (∀ (k : Nat) (xs : List Int), (grpL d l)[k]? = some xs → 0 < xs.length) := fun k xs h => grpL_pos h
    generalize grpL d l = xss at *
    have hsl := hin.slices
    obtain ⟨a, c, hu, _⟩ := hSu.slice
    have hcell : Hid (∀ (wr : World) (k : Nat) (v : Value), Sl wr 1 u vs.length vs → vs[k]? = some v → ∃ b off, a = some ⟨b, off, none⟩ ∧ wr.cell? ⟨b, off + k, none⟩ = some v) := fun wr k v h hk => by
      obtain ⟨a', c', e, _, _, HC⟩ := h.partsV
      rw [hu] at e
      injection e with e1
      obtain ⟨b, off, e2, hc⟩ := HC.out k v hk
      exact ⟨b, off, e1.trans e2, hc⟩
    clear hou hb3 hb2 r0 r1 ho1
    rw [hvl.out] at hu
    obtain ⟨U, hUe⟩ : ∃ U, U = u := ⟨_, rfl⟩
    rw [← hUe] at hcell hSu hdis hul
    have HU := Lib.hid hUe
    clear hUe
    subst hu
    go_wp2
    go_loopw [4, 6] (fun o j wr => ∃ k : Nat, k ≤ xss.length ∧ j = .int .i64 (k : Int) ∧ wr.ownsRow w.heap.size 27 1 o ((vs.take k).filter fun x => !oneV x).length ((vs.take k).filter fun x => !oneV x) ∧ Inn wr w1.heap.size vs xss ∧ Sl wr 1 U vs.length vs ∧ (U.ownBlock = none ∨ U.ownBlock ≠ o.ownBlock) ∧ Below w.heap.size w wr ∧ w2.heap.size ≤ wr.heap.size) (fun _ j _ => xss.length - (intOf j).toNat)
    case atStart => exact ⟨0, by omega, rfl, ho2, hin, hSu, hdis, hb4, Nat.le_refl _⟩
    case round =>
      obtain ⟨k, hk, rfl, ho, hin, hS, hdi, hb, hsz⟩ := hrel
      clear ho2 hSu hdis hb4
      by_cases hlt : k < xss.length
      · have hd : decide ((k : Int) < (xss.length : Int)) = true := by simp; omega
        obtain ⟨xs, hx⟩ := elem_at hlt
        obtain ⟨v, hv⟩ := elem_at (show k < vs.length by rw [hvl.out]; exact hlt)
        obtain ⟨va, vn, vc, rfl⟩ := hsl v (List.mem_of_getElem? hv.out)
        obtain ⟨b, off, rfl, g0⟩ := hcell.out wr k _ hS hv.out
        have h1v := hone.out wr k _ xs hin hv.out hx.out
        have hpos := hHN.out k xs hx.out
        have hI := hin.2.1 k _ xs hv.out hx.out
        have hvn : vn = xs.length := by
          obtain ⟨a', c', e, _⟩ := (Sl.of_own hI).slice
          injection e
        subst hvn
        have hxle := (Sl.of_own hI).le
        have hS2 := filter_succ (q := fun x => !oneV x) hv.out
        have hle : ((vs.take k).filter fun x => !oneV x).length ≤ 10 := Nat.le_trans (List.length_filter_le _ _) (Nat.le_trans (List.length_take_le _ _) (by omega))
        generalize ((vs.take k).filter fun x => !oneV x) = cur at *
        rcases hq : xs.length == 1 with _ | _
        · have hgt : decide ((1 : Int) < (xs.length : Int)) = true := by simp at hq ⊢; omega
          have HS := Lib.hid (show ((vs.take (k + 1)).filter fun x => !oneV x) = cur ++ [.slice va xs.length vc] by rw [hS2, h1v, hq]; rfl)
          have HSl := Lib.hid hS; have HI := Lib.hid hin; have HD := Lib.hid hdi
          clear hS2 h1v hS hin hdi hI
          go_wp2_with (at_builtin; refine wpList_append_own_at _ rfl _ _ 30 rfl w.heap.size 27 inf (.slice none 0 0) 1 24 Try.underlying30 hi hz0 hz1 hz2 rfl (by decide) _ cur.length cur rfl (ho.alloc _) ⟨wr.heap.size, 0, none⟩ 1 1 [.slice va xs.length vc] rfl rfl (news_new _ [.slice va xs.length vc] _) (by simp [Value.oneCell']) (by unfold maxLen; omega) (by omega) (by have := hb.size; simp; omega) ?_)
          intro v' w3 ho5 hg5 _ hat
          have hb7 : Below w.heap.size w w3 := (Below.alc hb _).grown hg5 (by have := hb.size; simp; omega) (fun g hg => (ho.lt g hg).1)
          have hin7 := hgr.out _ _ _ _ _ (HI.out.keep (below_one _)) (ho.alloc _) hg5
          have hS7 := (HSl.out.alloc (.cells #[.slice va xs.length vc] 27)).grown hg5 HD.out
          have hd7 : U.ownBlock = none ∨ U.ownBlock ≠ v'.ownBlock := by
            rcases hat with e | e
            · rw [e]; exact HD.out
            · rw [e]
              cases hub : U.ownBlock with
              | none => exact .inl rfl
              | some g => right; intro e2; injection e2 with e2; have := (hul g hub).2; (try simp at e2); omega
          have hsz7 : w2.heap.size ≤ w3.heap.size := Nat.le_trans (by simp; omega) hg5.size
          have H7 := Lib.hid (And.intro hin7 (And.intro hS7 hd7))
          clear ho hb hg5 HSl HI HD hin7 hS7 hd7 hat
          go_wp2
          go_roundw
          case rel => exact ⟨k + 1, by omega, by go_num, by rw [HS.out]; exact ownsRow_cast ho5 (by simp) rfl, H7.out.1, H7.out.2.1, H7.out.2.2, hb7, hsz7⟩
          case measure => simp [intOf]; omega
        · have hgt : decide ((1 : Int) < (xs.length : Int)) = false := by simp at hq ⊢; omega
          have HS := Lib.hid (show ((vs.take (k + 1)).filter fun x => !oneV x) = cur by rw [hS2, h1v, hq]; simp)
          have H7 := Lib.hid (And.intro hin (And.intro hS hdi))
          clear hS2 h1v hS hin hdi hI
          go_wp2
          go_roundw
          case rel => exact ⟨k + 1, by omega, by go_num, by rw [HS.out]; exact ho, H7.out.1, H7.out.2.1, H7.out.2.2, hb, hsz⟩
          case measure => simp [intOf]; omega
      · obtain rfl : k = xss.length := by omega
        rw [← hvl.out, List.take_length] at ho
        have hf := hin.filter (q := fun x => !oneV x) (q' := cfF) (fun k v xs hv hx => by
          have := hone.out wr k v xs hin hv hx
          show (!oneV v) = !(xs.length == 1)
          rw [this])
        have HP := Lib.hid (show OwnSS wr w.heap.size u4 (xss.filter cfF) from ⟨_, ownsRow_cast ho hf.1 rfl, hf.lo' hlo⟩)
        clear hf ho hin hS hdi
        go_wp2
        go_ret2
        exact SSPost.mk' HL.out rfl HP.out hb
end Go.Proofs.Ytfbnmkpkihfocaa
namespace Go.Proofs.Ytfbnmkpkihfocaa
open Go.RowKit
set_option linter.unusedVariables false
set_option maxRecDepth 100000
def freeB (d l : Nat) : Bool := (d &&& l) == 0
/-- the faults of the dark bars d and lit bars below n that are as q tells -/
def rowF (q : Int × Int → Bool) (d n : Nat) : List (Int × Int) := ((List.range n).filter fun (l : Nat) => freeB d l && q ((d : Int), (l : Int))).map fun (l : Nat) => ((d : Int), (l : Int))
def colF (q : Int × Int → Bool) (d : Nat) : List (Int × Int) := (List.range d).flatMap fun e => rowF q e 128
def faultsTo (q : Int × Int → Bool) (d n : Nat) : List (Int × Int) := colF q d ++ rowF q d n
def allF (q : Int × Int → Bool) : List (Int × Int) := colF q 128
theorem rowF_succ (q : Int × Int → Bool) (d n : Nat) : rowF q d (n + 1) = rowF q d n ++ if freeB d n && q ((d : Int), (n : Int)) then [((d : Int), (n : Int))] else [] := by
  unfold rowF
  rw [List.range_succ, List.filter_append, List.map_append]
  cases h : (freeB d n && q ((d : Int), (n : Int))) <;> simp [h]
theorem rowF_le (q : Int × Int → Bool) (d n : Nat) : (rowF q d n).length ≤ n := by
  unfold rowF
  rw [List.length_map]
  exact Nat.le_trans (List.length_filter_le _ _) (by simp)
theorem colF_succ (q : Int × Int → Bool) (d : Nat) : colF q (d + 1) = colF q d ++ rowF q d 128 := by
  unfold colF; rw [List.range_succ, List.flatMap_append]; simp
theorem colF_le (q : Int × Int → Bool) (d : Nat) : (colF q d).length ≤ d * 128 := by
  induction d with
  | zero => simp [colF]
  | succ d ih => rw [colF_succ, List.length_append]; have := rowF_le q d 128; omega
theorem faultsTo_zero (q : Int × Int → Bool) (d : Nat) : faultsTo q d 0 = colF q d := by simp [faultsTo, rowF]
theorem faultsTo_full (q : Int × Int → Bool) (d : Nat) : faultsTo q d 128 = colF q (d + 1) := by rw [colF_succ]; rfl
theorem faultsTo_succ (q : Int × Int → Bool) (d n : Nat) : faultsTo q d (n + 1) = faultsTo q d n ++ if freeB d n && q ((d : Int), (n : Int)) then [((d : Int), (n : Int))] else [] := by
  unfold faultsTo; rw [rowF_succ, List.append_assoc]
theorem faultsTo_le (q : Int × Int → Bool) {d n : Nat} (hd : d ≤ 127) (hn : n ≤ 128) : (faultsTo q d n).length ≤ 16384 := by
  unfold faultsTo; rw [List.length_append]; have := colF_le q d; have := rowF_le q d n; omega
theorem allF_le (q : Int × Int → Bool) : (allF q).length ≤ 16384 := colF_le q 128
theorem free_bits {d l : Nat} (hd : d ≤ 127) (hl : l ≤ 127) : (bits .and .i64 (d : Int) (l : Int) == 0) = freeB d l := by
  rw [i64_and_nat d l (by omega) (by omega)]
  unfold freeB
  rw [Bool.eq_iff_iff]; simp
theorem allFaults_c (w : World) : Calls Try.prog 64 #[] w fun e w' => ∃ u, e = .returned u ∧ w'.ownsRow w.heap.size 25 2 u (allF fun _ => true).length (flat2 (allF fun _ => true)) ∧ Below w.heap.size w w' := by
  obtain ⟨i, hi, hz0, hz1, hz2⟩ := info_parts info_Fault
  go_enter Try.func64, Try.ntmps64
  go_wp2
  go_loopw [1, 2, 3, 4] (fun o _ _ j wr => ∃ d : Nat, d ≤ 128 ∧ j = .int .i64 (d : Int) ∧ wr.ownsRow w.heap.size 25 2 o (colF (fun _ => true) d).length (flat2 (colF (fun _ => true) d)) ∧ Below w.heap.size w wr) (fun _ _ _ j _ => 129 - (intOf j).toNat)
  case atStart => exact ⟨0, by omega, rfl, World.ownsRow_nil _ _ _ _, Below.refl _ _⟩
  case round =>
    obtain ⟨d, hd, rfl, ho, hb⟩ := hrel
    by_cases hlt : d < 128
    · have hdd : decide ((d : Int) < 128) = true := by simp; omega
      rw [← faultsTo_zero] at ho
      go_wp2
      go_loopw [1, 3, 7] (fun o _ j wr => ∃ n : Nat, n ≤ 128 ∧ j = .int .i64 (n : Int) ∧ wr.ownsRow w.heap.size 25 2 o (faultsTo (fun _ => true) d n).length (flat2 (faultsTo (fun _ => true) d n)) ∧ Below w.heap.size w wr) (fun _ _ j _ => 129 - (intOf j).toNat)
      case atStart => exact ⟨0, by omega, rfl, ho, hb⟩
      case round =>
        obtain ⟨n, hn, rfl, ho2, hb2⟩ := hrel
        clear ho hb
        by_cases hlt2 : n < 128
        · have hdn : decide ((n : Int) < 128) = true := by simp; omega
          have hfb := free_bits (d := d) (l := n) (by omega) (by omega)
          have hsc := faultsTo_succ (fun _ => true) d n
          have hle := faultsTo_le (fun _ => true) (d := d) (n := n) (by omega) (by omega)
          generalize faultsTo (fun _ => true) d n = cur at *
          have HS := Lib.hid hsc; clear hsc
          rcases hq : freeB d n with _ | _
          · rw [hq] at hfb
            have hS2 : faultsTo (fun _ => true) d (n + 1) = cur := by rw [HS.out]; simp [hq]
            have HS2 := Lib.hid hS2; clear hS2 HS hq
            go_wp2
            go_roundw
            case rel => exact ⟨n + 1, by omega, by go_num, by rw [HS2.out]; exact ho2, hb2⟩
            case measure => simp [intOf]; omega
          · rw [hq] at hfb
            have hS2 : faultsTo (fun _ => true) d (n + 1) = cur ++ [((d : Int), (n : Int))] := by rw [HS.out]; simp [hq]
            have HS2 := Lib.hid hS2; clear hS2 HS hq
            go_wp2_with (at_builtin; refine wpList_append_own_at _ rfl _ _ 85 rfl w.heap.size 25 i (.agg #[.int .i64 0, .int .i64 0]) 2 16 Try.underlying85 hi hz0 hz1 hz2 rfl (by decide) _ cur.length (flat2 cur) rfl (ho2.alloc _) ⟨wr.heap.size, 0, none⟩ 1 1 [.int .i64 d, .int .i64 n] rfl rfl (news_new _ [.int .i64 d, .int .i64 n] _) (by simp [Value.oneCell']) (by unfold maxLen; omega) (by omega) (by have := hb2.size; simp; omega) ?_)
            intro v' w3 ho5 hg5 _ _
            have hb7 : Below w.heap.size w w3 := (Below.alc hb2 _).grown hg5 (by have := hb2.size; simp; omega) (fun g hg => (ho2.lt g hg).1)
            clear ho2 hb2 hg5
            go_wp2
            go_roundw
            case rel => exact ⟨n + 1, by omega, by go_num, by rw [HS2.out]; exact ownsRow_cast ho5 (by simp) (flat2_snoc _ _ _).symm, hb7⟩
            case measure => simp [intOf]; omega
        · obtain rfl : n = 128 := by omega
          rw [faultsTo_full] at ho2
          go_wp2
          go_roundw
          case rel => exact ⟨d + 1, by omega, by go_num, ho2, hb2⟩
          case measure => simp [intOf]; omega
    · obtain rfl : d = 128 := by omega
      go_wp2
      go_ret
      exact ⟨_, rfl, ho, hb⟩
end Go.Proofs.Ytfbnmkpkihfocaa
namespace Go.Proofs.Ytfbnmkpkihfocaa
open Go.RowKit
set_option linter.unusedVariables false
set_option maxRecDepth 100000
def harmB (f : Int × Int) : Bool := decide ((grpL f.1 f.2).length = 10)
def qH (size : Int) (f : Int × Int) : Bool := (cnt f.1 + cnt f.2 == size) && harmB f
def orC (d l : Int) : Int := ((d.toNat ||| l.toNat : Nat) : Int)
theorem orC_i64 {d l : Int} (d0 : 0 ≤ d) (d1 : d ≤ 127) (l0 : 0 ≤ l) (l1 : l ≤ 127) : bits .or .i64 d l = orC d l ∧ 0 ≤ orC d l ∧ orC d l ≤ 127 := by
  obtain ⟨d, rfl⟩ := Int.eq_ofNat_of_zero_le d0
  obtain ⟨l, rfl⟩ := Int.eq_ofNat_of_zero_le l0
  have h : d ||| l < 2 ^ 7 := Nat.or_lt_two_pow (by omega) (by omega)
  refine ⟨i64_or_nat d l (by omega) (by omega), ?_, ?_⟩ <;> simp only [orC, Int.toNat_natCast] <;> omega
theorem cnt_or_all : ∀ d l : Fin 128, (d.1 &&& l.1 == 0) = true → cnt (((d.1 ||| l.1 : Nat)) : Int) = cnt (d.1 : Int) + cnt (l.1 : Int) := by decide +kernel
theorem mem_allF {q : Int × Int → Bool} {f : Int × Int} (h : f ∈ allF q) : ∃ d l : Nat, f = ((d : Int), (l : Int)) ∧ d < 128 ∧ l < 128 ∧ freeB d l = true ∧ q f = true := by
  unfold allF colF rowF at h
  simp only [List.mem_flatMap, List.mem_range, List.mem_map, List.mem_filter, Bool.and_eq_true] at h
  obtain ⟨d, hd, l, ⟨hl, hf, hq⟩, rfl⟩ := h
  exact ⟨d, l, rfl, hd, hl, hf, hq⟩
theorem allF_filter (q : Int × Int → Bool) : allF q = (allF fun _ => true).filter q := by
  unfold allF colF
  rw [List.filter_flatMap]
  congr 1; funext d
  unfold rowF
  rw [List.filter_map, List.filter_filter]
  congr 1
  apply List.filter_congr
  intro l _
  simp [Function.comp]
  cases freeB d l <;> cases q ((d : Int), (l : Int)) <;> rfl
def chOk (size : Int) : Bool := inB size 0 7
def chN (size : Int) : Int := if chOk size then ((allF (qH size)).length : Int) else 0
def chV (size : Int) : Value := .tuple #[.int .i64 (chN size), .bool (chOk size)]
def hTo (size : Int) (k : Nat) : Nat := (((allF fun _ => true).take k).filter (qH size)).length
theorem hTo_succ {size : Int} {k : Nat} {f : Int × Int} (h : (allF fun _ => true)[k]? = some f) : hTo size (k + 1) = hTo size k + if qH size f then 1 else 0 := by
  unfold hTo
  rw [take_snoc h, List.filter_append, List.length_append]
  cases hq : qH size f <;> simp [hq]
theorem hTo_le (size : Int) (k : Nat) : hTo size k ≤ 16384 :=
  Nat.le_trans (List.length_filter_le _ _) (Nat.le_trans (List.length_take_le' _ _) (allF_le _))
theorem hTo_all (size : Int) : hTo size (allF fun _ => true).length = (allF (qH size)).length := by
  unfold hTo; rw [List.take_length, ← allF_filter]
theorem CountHarmless_c (size : Int) (w : World) : Calls Try.prog 20 #[.int .i64 size] w fun e w' => e = .returned (chV size) ∧ Below w.heap.size w w' := by
  rcases hc : chOk size with _ | _
  · have HF := Lib.hid (show chV size = .tuple #[.int .i64 0, .bool false] by simp [chV, chN, hc])
    have HC := Lib.hid (show inB size 0 7 = false from hc); clear hc
    go_enter Try.func20, Try.ntmps20
    go_wp2_with fail
    refine (within_c size 0 7 _).mono ?_
    rintro e w1 ⟨rfl, rfl⟩
    rw [HC.out]
    go_wp2
    go_ret2
    exact ⟨by rw [HF.out]; rfl, Below.refl _ _⟩
  · have HF := Lib.hid (show chV size = .tuple #[.int .i64 (hTo size (allF fun _ => true).length : Nat), .bool true] by simp [chV, chN, hc, hTo_all])
    have HC := Lib.hid (show inB size 0 7 = true from hc); clear hc
    have hN := allF_le fun _ => true
    go_enter Try.func20, Try.ntmps20
    go_wp2_with fail
    refine (within_c size 0 7 _).mono ?_
    rintro e w1 ⟨rfl, rfl⟩
    rw [HC.out]
    go_wp2_with fail
    refine (allFaults_c _).mono ?_
    rintro e w1 ⟨u, rfl, ho, hb1⟩
    obtain ⟨a, c, rfl, _, _, HA⟩ := (Pairs.of_own ho).parts
    clear ho
    generalize hps : (allF fun _ => true) = ps at *
    go_wp2
    go_loopw [4, 6, 12] (fun m _ j wr => ∃ k : Nat, k ≤ ps.length ∧ j = .int .i64 (k : Int) ∧ m = .int .i64 (hTo size k : Nat) ∧ Below w.heap.size w wr ∧ Below w1.heap.size w1 wr) (fun _ _ j _ => ps.length - (intOf j).toNat)
    case atStart => exact ⟨0, by omega, rfl, rfl, hb1, Below.refl _ _⟩
    case round =>
      obtain ⟨k, hk, rfl, rfl, hb, hbb⟩ := hrel
      clear hb1
      by_cases hlt : k < ps.length
      · have hd : decide ((k : Int) < (ps.length : Int)) = true := by simp; omega
        obtain ⟨f, hf⟩ := elem_at hlt
        obtain ⟨b, off, rfl, f0, f1⟩ := HA.out k _ hf.out
        have g0 := cell_later hbb f0
        have g1 := cell_later hbb f1
        obtain ⟨d, l, rfl, hd1, hl1, hfree, _⟩ := mem_allF (q := fun _ => true) (by rw [hps]; exact List.mem_of_getElem? hf.out)
        have hor := orC_i64 (d := (d : Int)) (l := (l : Int)) (by omega) (by omega) (by omega) (by omega)
        have hco := cnt_or_all ⟨d, hd1⟩ ⟨l, hl1⟩ hfree
        have hco2 : cnt (orC (d : Int) (l : Int)) = cnt (d : Int) + cnt (l : Int) := hco
        have hS := hTo_succ (size := size) (k := k) (f := ((d : Int), (l : Int))) (by rw [hps]; exact hf.out)
        have hle := hTo_le size k
        generalize hTo size k = m at *
        have HS := Lib.hid hS; have HO := Lib.hid hor.1; have HC2 := Lib.hid hco2
        clear hS f0 f1 hco hco2
        simp only at g0 g1
        go_wp2_with fail
        refine (count_c _ hor.2.1 hor.2.2 _).mono ?_
        rintro e w2 ⟨rfl, rfl⟩
        have hp0 : 0 ≤ (d : Int) ∧ (d : Int) ≤ 127 ∧ 0 ≤ (l : Int) ∧ (l : Int) ≤ 127 := by omega
        rcases hq1 : (cnt (orC (d : Int) (l : Int)) == size) with _ | _
        · have hq : qH size ((d : Int), (l : Int)) = false := by unfold qH; rw [← HC2.out, hq1]; rfl
          have HS2 := Lib.hid (show hTo size (k + 1) = m by rw [HS.out, hq]; rfl)
          clear hq HS HO HC2 hor
          go_wp2
          go_roundw
          case rel => exact ⟨k + 1, by omega, by go_num, by rw [HS2.out], by (repeat (first | exact Below.refl _ _ | exact (Below.refl _ _).drew | assumption | exact below_one _ | refine Below.chain ?_ (by assumption) | refine Below.drew ?_ | refine Below.alc ?_ _ | refine below_drewN ?_ | (refine Below.setCell ?_ ?_ _) | exact Nat.le_refl _ | (simp; done) | (simp; omega))), by (repeat (first | exact Below.refl _ _ | exact (Below.refl _ _).drew | assumption | exact below_one _ | refine Below.chain ?_ (by assumption) | refine Below.drew ?_ | refine Below.alc ?_ _ | refine below_drewN ?_ | (refine Below.setCell ?_ ?_ _) | exact Nat.le_refl _ | (simp; done) | (simp; omega)))⟩
          case measure => simp [intOf]; omega
        · go_wp2_with fail
          refine (isHarmless_c (d : Int) (l : Int) _ hp0.1 hp0.2.1 hp0.2.2.1 hp0.2.2.2).mono ?_
          rintro e w3 ⟨rfl, hb3⟩
          have hb4 : Below w.heap.size w w3 := Below.chain (Below.alc hb _) hb3
          have hb5 : Below w1.heap.size w1 w3 := Below.chain (Below.alc hbb _) hb3
          rcases hq2 : decide ((grpL (d : Int) (l : Int)).length = 10) with _ | _
          · have hq : qH size ((d : Int), (l : Int)) = false := by unfold qH harmB; rw [hq2, Bool.and_false]
            have HS2 := Lib.hid (show hTo size (k + 1) = m by rw [HS.out, hq]; rfl)
            have HQ := Lib.hid hq2
            clear hq HS HO HC2 hor hb hbb hb3 hq2
            go_wp2
            go_roundw
            case rel => exact ⟨k + 1, by omega, by go_num, by rw [HS2.out], hb4, hb5⟩
            case measure => simp [intOf]; omega
          · have hq : qH size ((d : Int), (l : Int)) = true := by unfold qH harmB; rw [← HC2.out, hq1, hq2]; rfl
            have HS2 := Lib.hid (show hTo size (k + 1) = m + 1 by rw [HS.out, hq]; rfl)
            have HQ := Lib.hid hq2
            clear hq HS HO HC2 hor hb hbb hb3 hq2
            go_wp2
            go_roundw
            case rel => exact ⟨k + 1, by omega, by go_num, by rw [HS2.out]; exact int_val (by omega), hb4, hb5⟩
            case measure => simp [intOf]; omega
      · obtain rfl : k = ps.length := by omega
        go_wp2
        go_ret2
        exact ⟨by rw [HF.out]; rfl, hb⟩
theorem l3Size_c (d l : Int) (w : World) (d0 : 0 ≤ d) (d1 : d ≤ 127) (l0 : 0 ≤ l) (l1 : l ≤ 127) : Calls Try.prog 67 #[.agg #[.int .i64 d, .int .i64 l]] w fun e w' => e = .returned (.int .i64 (cnt d + cnt l)) ∧ Below w.heap.size w w' := by
  have b1 : 0 ≤ cnt d ∧ cnt d ≤ 7 := by
    obtain ⟨n, rfl⟩ := Int.eq_ofNat_of_zero_le d0
    have := onesF_all ⟨n, by omega⟩; exact ⟨this.2.1, this.2.2.1⟩
  have b2 : 0 ≤ cnt l ∧ cnt l ≤ 7 := by
    obtain ⟨n, rfl⟩ := Int.eq_ofNat_of_zero_le l0
    have := onesF_all ⟨n, by omega⟩; exact ⟨this.2.1, this.2.2.1⟩
  have hs : IntKind.i64.wrap (cnt d + cnt l) = cnt d + cnt l := IntWalk.i64_in _ (by omega)
  go_enter Try.func67, Try.ntmps67
  go_wp2_with fail
  go_quiet ((first | (go_at_call_of 91 (Value.int .i64 d); exact Calls.quiet_of_same ((l2Count_c d d0 d1 _).mono fun _ _ h => ⟨h.1, h.2.symm⟩)) | (go_at_call_of 91 (Value.int .i64 l); exact Calls.quiet_of_same ((l2Count_c l l0 l1 _).mono fun _ _ h => ⟨h.1, h.2.symm⟩))))
  go_wp2
  go_ret
  exact ⟨int_ret (by simp), by (repeat (first | exact Below.refl _ _ | exact (Below.refl _ _).drew | assumption | exact below_one _ | refine Below.chain ?_ (by assumption) | refine Below.drew ?_ | refine Below.alc ?_ _ | refine below_drewN ?_ | (refine Below.setCell ?_ ?_ _) | exact Nat.le_refl _ | (simp; done) | (simp; omega)))⟩
theorem fault_free {d l : Nat} (hd : d < 128) (hl : l < 128) : faultB (d : Int) (l : Int) = freeB d l := by
  unfold faultB cellB
  rw [inB_mk (by omega) (by omega), inB_mk (by omega) (by omega)]
  unfold andC freeB
  rw [Bool.eq_iff_iff]; simp
theorem sCountHarmless_c (size : Int) (w : World) : Calls Try.prog 21 #[.int .i64 size] w fun e w' => e = .returned (chV size) ∧ Below w.heap.size w w' := by
  rcases hc : chOk size with _ | _
  · have HF := Lib.hid (show chV size = .tuple #[.int .i64 0, .bool false] by simp [chV, chN, hc])
    have HC := Lib.hid (show inB size 0 7 = false from hc); clear hc
    go_enter Try.func21, Try.ntmps21
    go_wp2_with fail
    refine (l1In_c size 0 7 _).mono ?_
    rintro e w1 ⟨rfl, rfl⟩
    rw [HC.out]
    go_wp2
    go_ret2
    exact ⟨by rw [HF.out]; rfl, Below.refl _ _⟩
  · have HF := Lib.hid (show chV size = .tuple #[.int .i64 ((colF (qH size) 128).length : Nat), .bool true] by simp [chV, chN, hc, allF])
    have HC := Lib.hid (show inB size 0 7 = true from hc); clear hc
    go_enter Try.func21, Try.ntmps21
    go_wp2_with fail
    refine (l1In_c size 0 7 _).mono ?_
    rintro e w1 ⟨rfl, rfl⟩
    rw [HC.out]
    go_wp2
    go_loopw [4, 5, 6, 7] (fun m j _ _ wr => ∃ d : Nat, d ≤ 128 ∧ j = .int .i64 (d : Int) ∧ m = .int .i64 ((colF (qH size) d).length : Nat) ∧ Below w.heap.size w wr) (fun _ j _ _ _ => 129 - (intOf j).toNat)
    case atStart => exact ⟨0, by omega, rfl, rfl, Below.refl _ _⟩
    case round =>
      obtain ⟨d, hd, rfl, rfl, hb⟩ := hrel
      by_cases hlt : d < 128
      · have hdd : decide ((d : Int) < 128) = true := by simp; omega
        rw [← faultsTo_zero]
        go_wp2
        go_loopw [4, 6, 7] (fun m j _ wr => ∃ n : Nat, n ≤ 128 ∧ j = .int .i64 (n : Int) ∧ m = .int .i64 ((faultsTo (qH size) d n).length : Nat) ∧ Below w.heap.size w wr) (fun _ j _ _ => 129 - (intOf j).toNat)
        case atStart => exact ⟨0, by omega, rfl, rfl, hb⟩
        case round =>
          obtain ⟨n, hn, rfl, rfl, hb2⟩ := hrel
          clear hb
          by_cases hlt2 : n < 128
          · have hdn : decide ((n : Int) < 128) = true := by simp; omega
            have hff := fault_free hlt hlt2
            have hsc := faultsTo_succ (qH size) d n
            have hle := faultsTo_le (qH size) (d := d) (n := n) (by omega) (by omega)
            have hp0 : 0 ≤ (d : Int) ∧ (d : Int) ≤ 127 ∧ 0 ≤ (n : Int) ∧ (n : Int) ≤ 127 := by omega
            have hS : (faultsTo (qH size) d (n + 1)).length = (faultsTo (qH size) d n).length + if freeB d n && qH size ((d : Int), (n : Int)) then 1 else 0 := by
              rw [hsc, List.length_append]; cases (freeB d n && qH size ((d : Int), (n : Int))) <;> simp
            generalize (faultsTo (qH size) d n).length = m at *
            have HS := Lib.hid hS; have HFF := Lib.hid hff; clear hsc hS hff
            go_wp2_with fail
            refine (l3Fault_c (d : Int) (n : Int) _).mono ?_
            rintro e w2 ⟨rfl, hb3⟩
            rw [HFF.out]
            have q0 : w2.cell? ⟨wr.heap.size, 0, none⟩ = some (.int .i64 d) := by rw [(bcell hb3).1 _ _ (by simp), World.cell?_alloc_at _ _ _ _ rfl]; rfl
            have q1 : w2.cell? ⟨wr.heap.size, 1, none⟩ = some (.int .i64 n) := by rw [(bcell hb3).1 _ _ (by simp), World.cell?_alloc_at _ _ _ _ rfl]; rfl
            have hb4 : Below w.heap.size w w2 := Below.chain (Below.alc hb2 _) hb3
            clear hb2 hb3
            rcases hq0 : freeB d n with _ | _
            · have HS2 := Lib.hid (show (faultsTo (qH size) d (n + 1)).length = m by rw [HS.out, hq0]; rfl)
              have HQ := Lib.hid hq0
              clear HS hq0
              go_wp2
              go_roundw
              case rel => exact ⟨n + 1, by omega, by go_num, by rw [HS2.out], hb4⟩
              case measure => simp [intOf]; omega
            · have HQ := Lib.hid hq0
              clear hq0
              go_wp2_with fail
              refine (l3Size_c (d : Int) (n : Int) _ hp0.1 hp0.2.1 hp0.2.2.1 hp0.2.2.2).mono ?_
              rintro e w3 ⟨rfl, hb5⟩
              have q02 := cell_later hb5 q0
              have q12 := cell_later hb5 q1
              have hb6 := Below.chain hb4 hb5
              clear hb4 hb5 q0 q1
              rcases hq1 : (cnt (d : Int) + cnt (n : Int) == size) with _ | _
              · have hq : qH size ((d : Int), (n : Int)) = false := by unfold qH; rw [hq1]; rfl
                have HS2 := Lib.hid (show (faultsTo (qH size) d (n + 1)).length = m by rw [HS.out, hq, Bool.and_false]; rfl)
                clear HS hq
                go_wp2
                go_roundw
                case rel => exact ⟨n + 1, by omega, by go_num, by rw [HS2.out], hb6⟩
                case measure => simp [intOf]; omega
              · go_wp2_with fail
                refine (l3Groups_c (d : Int) (n : Int) _ hp0.1 hp0.2.1 hp0.2.2.1 hp0.2.2.2).mono ?_
                rintro e w4 ⟨u, rfl, ⟨vs, hov, _⟩, hb7⟩
                obtain ⟨a, c, rfl, _⟩ := (Sl.of_own hov).slice
                have hb8 := Below.chain hb6 hb7
                clear hb6 hb7 q02 q12 hov
                rcases hq2 : (((grpL (d : Int) (n : Int)).length : Int) == 10) with _ | _
                · have hg : harmB ((d : Int), (n : Int)) = false := by unfold harmB; simp at hq2 ⊢; omega
                  have hq : qH size ((d : Int), (n : Int)) = false := by unfold qH; rw [hg, Bool.and_false]
                  have HS2 := Lib.hid (show (faultsTo (qH size) d (n + 1)).length = m by rw [HS.out, hq, Bool.and_false]; rfl)
                  clear HS hq hg
                  go_wp2
                  go_roundw
                  case rel => exact ⟨n + 1, by omega, by go_num, by rw [HS2.out], hb8⟩
                  case measure => simp [intOf]; omega
                · have hg : harmB ((d : Int), (n : Int)) = true := by unfold harmB; simp at hq2 ⊢; omega
                  have hq : qH size ((d : Int), (n : Int)) = true := by unfold qH; rw [hg, hq1]; rfl
                  have HS2 := Lib.hid (show (faultsTo (qH size) d (n + 1)).length = m + 1 by rw [HS.out, hq, HQ.out]; rfl)
                  clear HS hq hg
                  go_wp2
                  go_roundw
                  case rel => exact ⟨n + 1, by omega, by go_num, by rw [HS2.out]; exact int_val (by omega), hb8⟩
                  case measure => simp [intOf]; omega
          · obtain rfl : n = 128 := by omega
            rw [faultsTo_full]
            go_wp2
            go_roundw
            case rel => exact ⟨d + 1, by omega, by go_num, rfl, hb2⟩
            case measure => simp [intOf]; omega
      · obtain rfl : d = 128 := by omega
        go_wp2
        go_ret2
        exact ⟨by rw [HF.out]; rfl, hb⟩
end Go.Proofs.Ytfbnmkpkihfocaa
