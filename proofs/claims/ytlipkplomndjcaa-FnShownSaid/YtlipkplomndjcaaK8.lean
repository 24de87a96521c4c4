/- Texts of this claim, gathered: DelV, SS, HelpFault, Vs, DrawS, DrawU2, Vi. -/
import Derived.Test.YtlipkplomndjcaaK7
import Derived.Deep.RegionHeld3
namespace Go.Proofs.Ytlipkplomndjcaa
open Go.RowKit
set_option linter.unusedVariables false
set_option maxRecDepth 100000
theorem Sl.partsV {w : World} {v : Value} {xs : List Value} (h : Sl w 1 v xs.length xs) : ∃ a c, v = .slice a xs.length c ∧ xs.length ≤ c ∧ c ≤ 9223372036854775807 ∧
    Hid (∀ k x, xs[k]? = some x → ∃ b off, a = some ⟨b, off, none⟩ ∧ w.cell? ⟨b, off + k, none⟩ = some x) := by
  obtain ⟨a, c, rfl, h1, h2, h3, h4⟩ := h
  refine ⟨a, c, rfl, h1, by unfold maxLen at h2; omega, fun k x hk => ?_⟩
  have hlt : k < xs.length := (List.getElem?_eq_some_iff.1 hk).1
  obtain ⟨b, off, rfl, hc⟩ := h4 (by omega)
  exact ⟨b, off, rfl, by rw [hc k (by omega), hk]⟩
theorem IndexFuncV_c (v : Value) (xs : List Value) (fn : Nat) (cap : Array Value) (p : Value → Bool) (w : World) (hv : Sl w 1 v xs.length xs) (hf : CallsIt fn)
    (hp : ∀ (x : Value) (w' : World), x ∈ xs → Below w.heap.size w w' → Calls Try.prog fn (#[x] ++ cap) w' fun e w'' => e = .returned (.bool (p x)) ∧ Below w'.heap.size w' w'') :
    Calls Try.prog 149 #[v, .func (.func fn) #[] cap] w fun e w' => e = .returned (.int .i64 (firstAt p xs)) ∧ Below w.heap.size w w' := by
  obtain ⟨a, c, rfl, hc1, hc2, HC⟩ := hv.partsV
  have hf' : ∀ (bs : Array Value) (w : World), (callFunc fn bs).run Try.prog w = .ok (.enter fn bs) w := hf
  go_enter Try.func149, Try.ntmps149
  go_wp2
  go_loopw [8] (fun i wr => ∃ k : Nat, k ≤ xs.length ∧ i = .int .i64 k ∧ Hid (∀ j x, j < k → xs[j]? = some x → p x = false) ∧ Below w.heap.size w wr) (fun i _ => xs.length - (intOf i).toNat)
  case atStart => exact ⟨0, by omega, rfl, fun j x hj => by omega, Below.refl _ _⟩
  case round =>
    obtain ⟨k, hk, rfl, hbef, hb⟩ := hrel
    have hlen := hv.le
    by_cases hlt : k < xs.length
    · obtain ⟨x, hx⟩ := elem_at hlt
      obtain ⟨b, off, rfl, g0⟩ := HC.out k x hx.out
      have hblt : b < w.heap.size := World.block_lt_of_cell? w _ g0
      have g1 : wr.cell? ⟨b, off + k, none⟩ = some x := ((bcell hb).1 _ _ hblt).trans g0
      clear g0
      go_wp2_with fail
      refine (hp x _ (List.mem_of_getElem? hx.out) hb).mono ?_
      rintro e w1 ⟨rfl, hb1⟩
      have hb2 : Below w.heap.size w w1 := hb.trans (hb1.mono hb.size)
      rcases hpx : p x with _ | _
      · have HP := Lib.hid hpx; clear hpx
        go_wp2
        go_roundw
        case rel => exact ⟨k + 1, by omega, by go_num, fun j y hj hy => by
          by_cases hj2 : j < k
          · exact hbef.out j y hj2 hy
          · obtain rfl : j = k := by omega
            rw [hx.out] at hy; obtain rfl := Option.some.inj hy; exact HP.out, hb2⟩
        case measure => simp [intOf]; omega
      · have HP := Lib.hid hpx; clear hpx
        go_wp2
        go_ret
        exact ⟨int_ret (firstAt_some hx.out HP.out hbef.out).symm, hb2⟩
    · go_wp2
      go_ret
      exact ⟨int_ret (firstAt_none (by omega) hbef.out).symm, hb⟩
theorem firstAt_cases {α : Type} (p : α → Bool) (xs : List α) : (firstAt p xs = -1 ∧ xs.filter (fun x => !p x) = xs) ∨ ∃ (k : Nat) (x : α), firstAt p xs = (k : Int) ∧ xs[k]? = some x ∧ p x = true ∧ ∀ (j : Nat) (y : α), j < k → xs[j]? = some y → p y = false := by
  unfold firstAt
  cases h : xs.findIdx? p with
  | none =>
    left
    rw [List.findIdx?_eq_none_iff] at h
    exact ⟨rfl, by rw [List.filter_eq_self]; intro x hx; rw [h x hx]; rfl⟩
  | some k =>
    right
    rw [List.findIdx?_eq_some_iff_getElem] at h
    obtain ⟨hk, hp, hb⟩ := h
    refine ⟨k, xs[k], rfl, List.getElem?_eq_getElem hk, hp, fun j y hj hy => ?_⟩
    have hjl : j < xs.length := by omega
    have := hb j hj
    rw [List.getElem?_eq_getElem hjl] at hy
    have e := Option.some.inj hy
    rw [e] at this
    simpa using this
theorem DeleteFuncV_c (u : Value) (vs : List Value) (fn lo : Nat) (p : Value → Bool) (w : World) (ho : w.ownsRow lo 24 1 u vs.length vs) (hf : CallsIt fn) (hsl : ∀ x ∈ vs, ∃ a n c, x = Value.slice a n c)
    (hp : ∀ (x : Value) (w' : World), x ∈ vs → Calls Try.prog fn #[x] w' fun e w'' => e = .returned (.bool (p x)) ∧ Below w'.heap.size w' w'') :
    Calls Try.prog 108 #[u, .func (.func fn) #[] #[]] w fun e w' => ∃ u', e = .returned u' ∧ w'.ownsRow lo 24 1 u' (vs.filter fun x => !p x).length (vs.filter fun x => !p x) ∧ w.grownBy w' u.ownBlock := by
  have hS : Sl w 1 u vs.length vs := Sl.of_own ho
  have hlen := hS.le
  have hf' : ∀ (bs : Array Value) (w : World), (callFunc fn bs).run Try.prog w = .ok (.enter fn bs) w := hf
  rcases firstAt_cases p vs with ⟨hm, hfil⟩ | ⟨k0, x0, hm, hx0, hp0, hbef⟩
  · have HM := Lib.hid hm; have HF := Lib.hid hfil
    clear hm hfil
    obtain ⟨a, c, rfl, _⟩ := hS.slice
    go_enter Try.func108, Try.ntmps108
    go_wp2_with fail
    refine (IndexFuncV_c _ vs fn #[] p _ hS hf (fun x w' hx _ => by simpa using hp x w' hx)).mono ?_
    rintro e w1 ⟨rfl, hb1⟩
    rw [HM.out]
    have hg := Below.gr hb1
    go_wp2
    go_ret
    exact ⟨_, rfl, by rw [HF.out]; exact own_keep ho hb1, ⟨hg.os, hg.tape, hg.output, hg.size, fun k hk _ => hg.block k hk (by simp)⟩⟩
  · have HM := Lib.hid hm
    have hk0 : k0 < vs.length := (List.getElem?_eq_some_iff.1 hx0).1
    have HD := Lib.hid (DInv.start hx0 hp0 hbef)
    clear hm hbef hx0 hp0
    obtain ⟨g, cap, rfl, hlo, hgl, hnc, hcm⟩ := own_form ho (by omega)
    have hcm2 : cap ≤ 9223372036854775807 := by unfold maxLen at hcm; omega
    have hne1 : (((k0 : Int)) == -1) = false := by simp
    have hne2 : decide ((k0 : Int) = -1) = false := by simp
    obtain ⟨inf, hi, hz0, hz1, hz2⟩ := info_parts info_ints
    have hzv : ∀ w : World, (zeroValue 24).run Try.prog w = .ok (.slice none 0 0) w := Try.zeroValue24
    have HZ := Lib.hid hzv
    clear hzv hi hz0 hz1 hz2
    go_enter Try.func108, Try.ntmps108
    go_wp2_with fail
    refine (IndexFuncV_c _ vs fn #[] p _ hS hf (fun x w' hx _ => by simpa using hp x w' hx)).mono ?_
    rintro e w1 ⟨rfl, hb1⟩
    rw [HM.out]
    have ho1 := own_keep ho hb1
    have hg1 : w.grownBy w1 (some g) := by
      have hg := Below.gr hb1
      exact ⟨hg.os, hg.tape, hg.output, hg.size, fun k hk _ => hg.block k hk (by simp)⟩
    clear hS ho hb1
    go_wp2
    go_loopw [5, 6] (fun s5 s6 wr => ∃ (i j : Nat) (R : List Value), s5 = .int .i64 (i : Int) ∧ s6 = .int .i64 (j : Int) ∧ i < j ∧ j ≤ vs.length ∧ Hid (DInv p vs j i R) ∧ wr.ownsRow lo 24 1 (.slice (some ⟨g, 0, none⟩) vs.length cap) vs.length R ∧ w.grownBy wr (some g)) (fun _ s6 _ => vs.length - (intOf s6).toNat)
    case atStart => exact ⟨k0, k0 + 1, vs, rfl, by go_num, by omega, by omega, HD, ho1, hg1⟩
    case round =>
      obtain ⟨i, j, R, rfl, rfl, hij, hjn, HI, ho, hg⟩ := hrel
      clear ho1 hg1 HD
      by_cases hlt : j < vs.length
      · have hd : decide ((j : Int) < (vs.length : Int)) = true := by simp; omega
        obtain ⟨x, hx⟩ := elem_at hlt
        obtain ⟨xa, xn, xc, rfl⟩ := hsl x (List.mem_of_getElem? hx.out)
        have g0 : wr.cell? ⟨g, j, none⟩ = some (.slice xa xn xc) := by rw [ho.cellAt j (by omega)]; exact HI.out.get hx.out
        go_wp2_with fail
        refine (hp _ _ (List.mem_of_getElem? hx.out)).mono ?_
        rintro e w2 ⟨rfl, hb2⟩
        have ho2 := own_keep ho hb2
        have hg2 : w.grownBy w2 (some g) := by
          have h := Below.gr hb2
          exact ⟨h.os.trans hg.os, h.tape.trans hg.tape, h.output.trans hg.output, Nat.le_trans hg.size h.size, fun k hk hne => (h.block k (Nat.lt_of_lt_of_le hk hg.size) (by simp)).trans (hg.block k hk hne)⟩
        have hRl := HI.out.len
        clear ho hg hb2 g0
        rcases hq : p (.slice xa xn xc) with _ | _
        · have HI2 := Lib.hid (HI.out.keep hx.out hq)
          have gi : w2.cell? ⟨g, i, none⟩ = some (R[i]'(by omega)) := by rw [ho2.cellAt i (by omega)]; exact List.getElem?_eq_getElem (by omega)
          have fi := ho2.frozenAt i
          have hst := ho2.stored i (.slice xa xn xc)
          have ho3 := hst.1
          have hg3 : w.grownBy (w2.setCell ⟨g, i, none⟩ (.slice xa xn xc)) (some g) :=
            ⟨hst.2.os.trans hg2.os, hst.2.tape.trans hg2.tape, hst.2.output.trans hg2.output, Nat.le_trans hg2.size hst.2.size, fun k hk hne => (hst.2.block k (Nat.lt_of_lt_of_le hk hg2.size) hne).trans (hg2.block k hk hne)⟩
          generalize R[i]'(by omega) = old at gi
          have HQ := Lib.hid hq
          have HO := Lib.hid ho3; have HG := Lib.hid hg3
          clear hst ho2 hg2 hq ho3 hg3
          go_wp2
          go_roundw
          case rel => exact ⟨i + 1, j + 1, R.set i (.slice xa xn xc), by go_num, by go_num, by omega, by omega, HI2, HO.out, HG.out⟩
          case measure => simp [intOf]; omega
        · have HI2 := Lib.hid (HI.out.skip hx.out hq)
          have HQ := Lib.hid hq
          clear hq
          go_wp2
          go_roundw
          case rel => exact ⟨i, j + 1, R, rfl, by go_num, by omega, by omega, HI2, ho2, hg2⟩
          case measure => simp [intOf]; omega
      · obtain rfl : j = vs.length := by omega
        have hdn := HI.out.done
        obtain ⟨ys, ho3, hys, hg3⟩ := own_cells (Builtin.zeroCells (Value.slice none 0 0).cells (vs.length - i)).toList i wr R ho
        have ho4 := own_cut ho3 (show i ≤ vs.length by omega)
        rw [Nat.mul_one, hys, hdn.1] at ho4
        have hcl : ∀ ty, (Builtin.clear_ #[54] ty #[.slice (some ⟨g, i, none⟩) (vs.length - i) (cap - i)]).run Try.prog wr = .ok (.tuple #[]) (wr.setCells g i (Builtin.zeroCells (Value.slice none 0 0).cells (vs.length - i)).toList) := fun ty =>
          run_clear_cells wr 54 24 ty (.slice none 0 0) Try.underlying54 HZ.out (by simp [Value.cells]; rfl) (by simp [Value.cells]) g i (vs.length - i) (cap - i) (by omega) (there_sub (own_there ho) (by omega) (by simp [Value.cells]; omega))
        have hg5 : w.grownBy (wr.setCells g i (Builtin.zeroCells (Value.slice none 0 0).cells (vs.length - i)).toList) (some g) :=
          ⟨hg3.os.trans hg.os, hg3.tape.trans hg.tape, hg3.output.trans hg.output, Nat.le_trans hg.size hg3.size, fun k hk hne => (hg3.block k (Nat.lt_of_lt_of_le hk hg.size) hne).trans (hg.block k hk hne)⟩
        have HDN := Lib.hid hdn.2
        have HO := Lib.hid ho4; have HG := Lib.hid hg5
        clear hdn ho4 hg5 ho3 hys hg3 ho hg
        go_wp2
        go_ret
        exact ⟨_, rfl, ownsRow_cast HO.out HDN.out rfl, HG.out⟩
end Go.Proofs.Ytlipkplomndjcaa
namespace Go.Proofs.Ytlipkplomndjcaa
open Go.RowKit
set_option linter.unusedVariables false
set_option maxRecDepth 100000
theorem Sl.keepB {w w' : World} {size n B : Nat} {v : Value} {xs : List Value} (h : Sl w size v n xs) (hb : Below B w w') (hv : ∀ g, v.ownBlock = some g → g < B) : Sl w' size v n xs := by
  obtain ⟨a, c, rfl, h1, h2, h3, h4⟩ := h
  refine ⟨a, c, rfl, h1, h2, h3, fun hn => ?_⟩
  obtain ⟨b, off, rfl, hc⟩ := h4 hn
  refine ⟨b, off, rfl, fun j hj => ?_⟩
  have hlt := hv b rfl
  rw [← hc j hj]
  exact hb.cell (p := ⟨b, off + j, none⟩) hlt
/-- a slice of slices that reads so, all its blocks below B -/
def RdSS (w : World) (B : Nat) (u : Value) (xss : List (List Int)) : Prop :=
  ∃ vs, vs.length = xss.length ∧ Sl w 1 u vs.length vs ∧ (∀ g, u.ownBlock = some g → g < B) ∧
    ∀ (k : Nat) (v : Value) (xs : List Int), vs[k]? = some v → xss[k]? = some xs → Ints w v xs ∧ ∀ g, v.ownBlock = some g → g < B
theorem RdSS.keep {w w' : World} {B B' : Nat} {u : Value} {xss : List (List Int)} (h : RdSS w B u xss) (hb : Below B' w w') (hB : B ≤ B') : RdSS w' B u xss := by
  obtain ⟨vs, h1, h2, h3, h4⟩ := h
  exact ⟨vs, h1, h2.keepB hb (fun g hg => Nat.lt_of_lt_of_le (h3 g hg) hB), h3, fun k v xs hv hx => ⟨Sl.keepB (h4 k v xs hv hx).1 hb (fun g hg => Nat.lt_of_lt_of_le ((h4 k v xs hv hx).2 g hg) hB), (h4 k v xs hv hx).2⟩⟩
theorem OwnSS.rd {w : World} {lo : Nat} {u : Value} {xss : List (List Int)} (h : OwnSS w lo u xss) : RdSS w w.heap.size u xss := by
  obtain ⟨vs, ho, hi⟩ := h
  exact ⟨vs, hi.1, Sl.of_own (ownsRow_cast ho hi.1.symm rfl), fun g hg => (ho.lt g hg).2, fun k v xs hv hx => ⟨Ints.of_own (hi.2.1 k v xs hv hx), fun g hg => ((hi.2.1 k v xs hv hx).lt g hg).2⟩⟩
theorem RdSS.parts {w : World} {B : Nat} {u : Value} {xss : List (List Int)} (h : RdSS w B u xss) : ∃ a c, u = .slice a xss.length c ∧ xss.length ≤ 9223372036854775807 ∧
    Hid (∀ k xs, xss[k]? = some xs → ∃ b off a' c', a = some ⟨b, off, none⟩ ∧ w.cell? ⟨b, off + k, none⟩ = some (.slice a' xs.length c') ∧ Ints w (.slice a' xs.length c') xs) := by
  obtain ⟨vs, h1, h2, h3, h4⟩ := h
  have hle := h2.le
  obtain ⟨a, c, rfl, _, _, HC⟩ := h2.partsV
  refine ⟨a, c, by rw [h1], by omega, fun k xs hk => ?_⟩
  have hlt : k < vs.length := by rw [h1]; exact (List.getElem?_eq_some_iff.1 hk).1
  have hv : vs[k]? = some vs[k] := List.getElem?_eq_getElem hlt
  obtain ⟨b, off, e, hc⟩ := HC.out k _ hv
  have hI := (h4 k _ xs hv hk).1
  obtain ⟨a', c', e2, _⟩ := hI.parts
  exact ⟨b, off, a', c', e, by rw [hc, e2], by rw [← e2]; exact hI⟩
/-! marks -/
def totSS (xss : List (List Int)) : Nat := (xss.map List.length).sum
def seqSS : Int → List (List Int) → List (List Int)
  | _, [] => []
  | k, xs :: t => seqI k xs.length :: seqSS (k + xs.length) t
theorem seqSS_len : ∀ (k : Int) (xss : List (List Int)), (seqSS k xss).length = xss.length
  | _, [] => rfl
  | k, xs :: t => by simp [seqSS, seqSS_len]
theorem seqSS_append : ∀ (k : Int) (a b : List (List Int)), seqSS k (a ++ b) = seqSS k a ++ seqSS (k + totSS a) b
  | k, [], b => by simp [seqSS, totSS]
  | k, xs :: t, b => by
    simp only [List.cons_append, seqSS, seqSS_append]
    congr 3
    simp only [totSS, List.map_cons, List.sum_cons]; omega
theorem totSS_succ {xss : List (List Int)} {i : Nat} {xs : List Int} (h : xss[i]? = some xs) : totSS (xss.take (i + 1)) = totSS (xss.take i) + xs.length := by
  unfold totSS; rw [take_snoc h, List.map_append, List.sum_append]; simp
theorem totSS_le (xss : List (List Int)) (i : Nat) : totSS (xss.take i) ≤ totSS xss := by
  have h : totSS xss = totSS (xss.take i) + totSS (xss.drop i) := by
    unfold totSS
    rw [← List.sum_append, ← List.map_append, List.take_append_drop]
  omega
theorem seqSS_at {k : Int} {xss : List (List Int)} {i : Nat} {xs : List Int} (h : xss[i]? = some xs) : (seqSS k xss)[i]? = some (seqI (k + totSS (xss.take i)) xs.length) := by
  have hi : i < xss.length := (List.getElem?_eq_some_iff.1 h).1
  have e : xss = xss.take i ++ xs :: xss.drop (i + 1) := by
    have hx : xss[i] = xs := (List.getElem?_eq_some_iff.1 h).2
    conv => lhs; rw [← List.take_append_drop i xss, List.drop_eq_getElem_cons hi, hx]
  have hl : (seqSS k (xss.take i)).length = i := by rw [seqSS_len, List.length_take]; omega
  conv => lhs; rw [e]
  rw [seqSS_append, List.getElem?_append_right (by omega), hl, Nat.sub_self]; rfl
/-- marked as far as i -/
def mkSS (k : Int) (xss : List (List Int)) (i : Nat) : List (List Int) := seqSS k (xss.take i) ++ xss.drop i
theorem mkSS_at {k : Int} {xss : List (List Int)} {i : Nat} (hi : i ≤ xss.length) : (mkSS k xss i)[i]? = xss[i]? := by
  unfold mkSS
  have hl : (seqSS k (xss.take i)).length = i := by rw [seqSS_len, List.length_take]; omega
  rw [List.getElem?_append_right (by omega), hl, Nat.sub_self, List.getElem?_drop, Nat.add_zero]
theorem mkSS_succ {k : Int} {xss : List (List Int)} {i : Nat} {xs : List Int} (h : xss[i]? = some xs) : (mkSS k xss i).set i (seqI (k + totSS (xss.take i)) xs.length) = mkSS k xss (i + 1) := by
  have hi : i < xss.length := (List.getElem?_eq_some_iff.1 h).1
  have hx : xss[i] = xs := (List.getElem?_eq_some_iff.1 h).2
  have hl : (seqSS k (xss.take i)).length = i := by rw [seqSS_len, List.length_take]; omega
  unfold mkSS
  rw [List.drop_eq_getElem_cons hi, set_mid _ _ _ _ hl.symm, take_snoc h, seqSS_append]
  simp [seqSS]
theorem mkSS_zero (k : Int) (xss : List (List Int)) : mkSS k xss 0 = xss := rfl
theorem mkSS_all (k : Int) (xss : List (List Int)) : mkSS k xss xss.length = seqSS k xss := by unfold mkSS; rw [List.take_length, List.drop_length, List.append_nil]
theorem mkSS_len {k : Int} {xss : List (List Int)} {i : Nat} (hi : i ≤ xss.length) : (mkSS k xss i).length = xss.length := by
  unfold mkSS; rw [List.length_append, seqSS_len, List.length_take, List.length_drop]; omega
theorem Inn.set {w w' : World} {lo : Nat} {vs : List Value} {xss : List (List Int)} {i : Nat} {v : Value} {ys : List Int} (h : Inn w lo vs xss) (hv : vs[i]? = some v) (hi : i < xss.length)
    (ho : w'.ownsRow lo 3 1 v ys.length (ints ys)) (hg : w.grownBy w' v.ownBlock) : Inn w' lo vs (xss.set i ys) := by
  refine ⟨by rw [List.length_set]; exact h.1, fun k a xs ha hx => ?_, h.2.2⟩
  by_cases hk : k = i
  · subst hk
    rw [List.getElem?_set_self hi] at hx
    rw [hv] at ha
    obtain rfl := Option.some.inj ha
    obtain rfl := Option.some.inj hx
    exact ho
  · rw [List.getElem?_set_ne (by omega)] at hx
    have h1 := h.2.1 k a xs ha hx
    refine h1.kept hg ?_
    by_cases hlt : k < i
    · rcases h.2.2 k i a v hlt ha hv with h2 | h2
      · rw [h2]; cases a.ownBlock <;> simp
      · exact .inr (fun e => h2 e.symm)
    · rcases h.2.2 i k v a (by omega) hv ha with h2 | h2
      · exact .inl h2
      · exact .inr h2
end Go.Proofs.Ytlipkplomndjcaa
namespace Go.Proofs.Ytlipkplomndjcaa
open Go.RowKit
set_option linter.unusedVariables false
set_option maxRecDepth 100000

end Go.Proofs.Ytlipkplomndjcaa
namespace Go.Proofs.Ytlipkplomndjcaa
open Go.RowKit
set_option linter.unusedVariables false
set_option maxRecDepth 100000
theorem vInts_c (v1 v2 : Value) (xs ys : List Int) (w : World) (h1 : Ints w v1 xs) (h2 : Ints w v2 ys) :
    Calls Try.prog 19 #[v1, v2] w fun e w' => e = .returned (.bool (decide (xs = ys))) ∧ Below w.heap.size w w' := by
  have hm1 := h1.le; have hm2 := h2.le
  obtain ⟨a1, c1, rfl, _, _, H1⟩ := h1.parts
  obtain ⟨a2, c2, rfl, _, _, H2⟩ := h2.parts
  by_cases hl : xs.length = ys.length
  · have hlb : ((xs.length : Int) != (ys.length : Int)) = false := by simp [hl]
    have HL := Lib.hid hl; clear hl
    go_enter Try.func19, Try.ntmps19
    go_wp2
    go_loopw [5] (fun i wr => ∃ k : Nat, k ≤ xs.length ∧ i = .int .i64 k ∧ Hid (∀ j, j < k → xs[j]? = ys[j]?) ∧ Hid (∃ n, wr = w.drewN n)) (fun i _ => xs.length - (intOf i).toNat)
    case atStart => exact ⟨0, by omega, rfl, fun j hj => by omega, ⟨0, rfl⟩⟩
    case round =>
      obtain ⟨k, hk, rfl, hsame, hw⟩ := hrel
      by_cases hlt : k < xs.length
      · have hlt2 : k < ys.length := by rw [← HL.out]; exact hlt
        obtain ⟨x, hx⟩ := elem_at hlt
        obtain ⟨y, hy⟩ := elem_at hlt2
        obtain ⟨b1, o1, rfl, g1⟩ := H1.out k x hx.out
        obtain ⟨b2, o2, rfl, g2⟩ := H2.out k y hy.out
        obtain ⟨n, rfl⟩ := hw.out
        clear h1 h2
        go_wp2
        go_quiet (fail)
        go_wp2
        · rename_i ht
          go_ret
          refine ⟨bool_ret ?_, below_drewN (below_drewN (Below.refl _ _))⟩
          symm; apply decide_eq_false; rintro rfl
          have := hx.out.symm.trans hy.out; simp at this ht; exact ht this
        · rename_i ht
          exact ⟨⟨k+1, by omega, by go_num, fun j hj => by
            by_cases hj2 : j < k
            · exact hsame.out j hj2
            · obtain rfl : j = k := by omega
              rw [hx.out, hy.out]; simp at ht; rw [ht], ⟨_, rfl⟩⟩, by simp [intOf]; omega⟩
      · obtain ⟨n, rfl⟩ := hw.out
        go_wp2
        go_ret
        refine ⟨bool_ret ?_, below_drewN (Below.refl _ _)⟩
        symm; apply decide_eq_true
        exact list_eq_of HL.out (by omega) hsame.out
  · have hlb : ((xs.length : Int) != (ys.length : Int)) = true := by simp; omega
    go_enter Try.func19, Try.ntmps19
    go_wp2
    go_ret
    refine ⟨bool_ret ?_, Below.refl _ _⟩
    symm; apply decide_eq_false; rintro rfl; exact hl rfl

theorem vGroups_c (u1 u2 : Value) (xss : List (List Int)) (B1 B2 : Nat) (w : World) (h1 : RdSS w B1 u1 xss) (h2 : RdSS w B2 u2 xss) :
    Calls Try.prog 51 #[u1, u2] w fun e w' => e = .returned (.bool true) ∧ Below w.heap.size w w' := by
  obtain ⟨a1, c1, rfl, hl1, H1⟩ := h1.parts
  obtain ⟨a2, c2, rfl, _, H2⟩ := h2.parts
  have hlb : ((xss.length : Int) != (xss.length : Int)) = false := by simp
  go_enter Try.func51, Try.ntmps51
  go_wp2
  go_loopw [5] (fun j wr => ∃ k : Nat, k ≤ xss.length ∧ j = .int .i64 (k : Int) ∧ Below w.heap.size w wr) (fun j _ => xss.length - (intOf j).toNat)
  case atStart => exact ⟨0, by omega, rfl, Below.refl _ _⟩
  case round =>
    obtain ⟨k, hk, rfl, hb⟩ := hrel
    by_cases hlt : k < xss.length
    · have hd : decide ((k : Int) < (xss.length : Int)) = true := by simp; omega
      obtain ⟨xs, hx⟩ := elem_at hlt
      obtain ⟨b1, o1, a1', c1', rfl, f1, i1⟩ := H1.out k xs hx.out
      obtain ⟨b2, o2, a2', c2', rfl, f2, i2⟩ := H2.out k xs hx.out
      have g1 := cell_later hb f1
      have g2 := cell_later hb f2
      have j1 := i1.below hb
      have j2 := i2.below hb
      clear f1 f2 i1 i2
      go_wp2_with fail
      go_region_held3 (fun w' => w'.cell? ⟨b1, o1 + k, none⟩ = some (.slice a1' xs.length c1') ∧ w'.cell? ⟨b2, o2 + k, none⟩ = some (.slice a2' xs.length c2'))
        (first | go_keep | (go_split_ands; exact ⟨cell_later hb2 (by assumption), cell_later hb2 (by assumption)⟩))
        (first | (go_at_call 19; refine (vInts_c _ _ xs xs _ j1.drew j2.drew).mono ?_; rintro e w' ⟨rfl, hb2⟩))
      have hb3 : Below w.heap.size w w' := Below.chain hb (Below.chain (Below.refl _ _).drew hb2)
      go_wp2
      go_roundw
      case rel => exact ⟨k + 1, by omega, by go_num, hb3⟩
      case measure => simp [intOf]; omega
    · obtain rfl : k = xss.length := by omega
      go_wp2
      go_ret
      exact ⟨rfl, hb⟩
theorem vHas_c (v : Value) (xs : List Int) (x : Int) (w : World) (h : Ints w v xs) :
    Calls Try.prog 52 #[v, .int .i64 x] w fun e w' => e = .returned (.bool (decide (x ∈ xs))) ∧ w = w' := by
  have hm1 := h.le
  obtain ⟨a1, c1, rfl, _, _, H1⟩ := h.parts
  clear h
  go_enter Try.func52, Try.ntmps52
  go_wp2
  go_loopw [5] (fun i wr => ∃ k : Nat, k ≤ xs.length ∧ i = .int .i64 k ∧ Hid (∀ (j : Nat) (y : Int), j < k → xs[j]? = some y → y ≠ x) ∧ w = wr) (fun i _ => xs.length - (intOf i).toNat)
  case atStart => exact ⟨0, by omega, rfl, fun j y hj => by omega, rfl⟩
  case round =>
    obtain ⟨k, hk, rfl, hno, rfl⟩ := hrel
    by_cases hlt : k < xs.length
    · obtain ⟨y, hy⟩ := elem_at hlt
      obtain ⟨b1, o1, rfl, g1⟩ := H1.out k y hy.out
      have hd : decide ((k : Int) < (xs.length : Int)) = true := by simp; omega
      by_cases he : y = x
      · subst he
        have hmem : decide (y ∈ xs) = true := decide_eq_true (List.mem_of_getElem? hy.out)
        have HM := Lib.hid hmem
        clear hmem
        go_wp2
        go_ret
        exact ⟨bool_ret HM.out.symm, rfl⟩
      · have heb : (y == x) = false := by simpa using he
        have HE := Lib.hid he
        clear he
        go_wp2
        go_roundw
        case rel => exact ⟨k + 1, by omega, by go_num, fun j z hj hz => by
          by_cases hj2 : j < k
          · exact hno.out j z hj2 hz
          · obtain rfl : j = k := by omega
            rw [hy.out] at hz; cases hz; exact HE.out, trivial⟩
        case measure => simp [intOf]; omega
    · have hd : decide ((k : Int) < (xs.length : Int)) = false := by simp; omega
      go_wp2
      go_ret
      refine ⟨bool_ret ?_, rfl⟩
      symm; apply decide_eq_false
      intro hm
      obtain ⟨j, hj⟩ := List.mem_iff_getElem?.1 hm
      have hjl := (List.getElem?_eq_some_iff.1 hj).1
      exact hno.out j x (by omega) hj rfl
end Go.Proofs.Ytlipkplomndjcaa
namespace Go.Proofs.Ytlipkplomndjcaa
open Go.RowKit
set_option linter.unusedVariables false
set_option linter.unusedSimpArgs false
set_option maxRecDepth 100000

theorem DrawShownCell_c (v : Value) (xs : List Nat) (w : World) (h : Code w v xs) :
    Calls Try.prog 23 #[v] w fun e w' => ∃ d l c : Int, e = .returned (.tuple #[.agg #[.int .i64 d, .int .i64 l], .int .i64 c]) ∧ Below w.heap.size w w' := by
  have HK := Lib.hid (cur_new (h.below (below_one (.cells #[.int .i64 0, .int .i64 0] 42))))
  have B0 := Lib.hid ((Bk.new w 42 #[.int .i64 0, .int .i64 0]).alloc (.cells #[v, .int .i64 0, .int .u64 0] 88))
  obtain ⟨a, c, rfl, _⟩ := h
  rw [World.size_alloc] at HK
  go_enter Try.func23, Try.ntmps23
  go_wp2_with fail
  refine (fault3_c (w.heap.size + 1) 0 _ HK.out (by omega)).mono ?_
  rintro e w1 ⟨d, l, rfl, hs⟩
  have HS := Lib.hid hs
  have B1 := Lib.hid (B0.out.step hs (by omega))
  clear hs B0
  go_wp2_with fail
  refine (cell_c (w.heap.size + 1) _ _ HS.out.cur (by omega)).mono ?_
  rintro e w2 ⟨x, rfl, _, hs⟩
  have HS2 := Lib.hid (HS.out.trans hs)
  have B2 := Lib.hid (B1.out.step hs (by omega))
  have q0 : w2.cell? ⟨w.heap.size, 0, none⟩ = some (.int .i64 0) := B2.out.cell 0
  have q1 : w2.cell? ⟨w.heap.size, 1, none⟩ = some (.int .i64 0) := B2.out.cell 1
  have f0 : w2.frozen? ⟨w.heap.size, 0, none⟩ = false := B2.out.frozen 0
  have f1 : w2.frozen? ⟨w.heap.size, 1, none⟩ = false := B2.out.frozen 1
  clear hs B1 HS
  go_wp2
  obtain ⟨z0, z1⟩ := two_res B2.out (.int .i64 d) (.int .i64 l)
  have hb : Below w.heap.size w w2 := ((Below.refl _ _).alloc (Nat.le_refl _) _).trans (((Below.refl _ _).alloc (by simp) _).trans (HS2.out.low (by omega) (by simp; omega)))
  exact bodyPost_ret (v := .tuple #[.agg #[.int .i64 d, .int .i64 l], .int .i64 x]) (by simp [results, Try.results23, go_sem, z0, z1]) rfl ⟨d, l, x, rfl, (hb.setCell (p := ⟨w.heap.size, 0, none⟩) (Nat.le_refl _) _).setCell (p := ⟨w.heap.size, 1, none⟩) (Nat.le_refl _) _⟩
theorem DrawShownRow_c (v : Value) (xs : List Nat) (w : World) (h : Code w v xs) :
    Calls Try.prog 27 #[v] w fun e w' => ∃ (v1 v2 : Value) (ps : List (Int × Int)) (r : List Int), e = .returned (.tuple #[v1, v2]) ∧ ps.length ≤ 7 ∧ r.length ≤ 7 ∧ Pairs w' v1 ps ∧ Ints w' v2 r ∧ Below w.heap.size w w' := by
  have HK := Lib.hid (cur_new h)
  obtain ⟨a, c, rfl, _⟩ := h
  go_enter Try.func27, Try.ntmps27
  go_wp2_with fail
  refine (digits_d w.heap.size 0 _ HK.out (by omega)).mono ?_
  rintro e w1 ⟨v2, r, rfl, hl, ho, hs⟩
  have HS := Lib.hid hs
  have HO := Lib.hid ho
  clear hs ho
  go_wp2_with fail
  refine (panel3_c v2 r w.heap.size _ _ HS.out.cur (by omega) (Ints.of_own HO.out) hl).mono ?_
  rintro e w2 ⟨v1, ps, rfl, hp, hpp, hne, hs⟩
  have HO2 := Lib.hid (hs.row HO.out (by simp))
  have HS2 := Lib.hid (HS.out.trans hs)
  clear hs
  go_wp2
  exact bodyPost_ret (v := .tuple #[v1, v2]) (by simp [results, Try.results27, go_sem]) rfl ⟨v1, v2, ps, r, rfl, hp, hl, hpp, Ints.of_own HO2.out, draw_below HS2.out⟩
end Go.Proofs.Ytlipkplomndjcaa
namespace Go.Proofs.Ytlipkplomndjcaa
open Go.RowKit
theorem Bk.two' {w : World} {g t : Nat} {a b : Value} (h : Bk w g t #[a, b]) : w.cell? ⟨g, 0, none⟩ = some a ∧ w.cell? ⟨g, 1, none⟩ = some b ∧ w.frozen? ⟨g, 0, none⟩ = false ∧ w.frozen? ⟨g, 1, none⟩ = false := ⟨h.cell 0, h.cell 1, h.frozen 0, h.frozen 1⟩
theorem two_below' {w W : World} {b : Nat} (h : Below w.heap.size w W) (hb : w.heap.size ≤ b) (X Y : Value) : Below w.heap.size w ((W.setCell ⟨b, 0, none⟩ X).setCell ⟨b, 1, none⟩ Y) :=
  (h.setCell (p := ⟨b, 0, none⟩) hb _).setCell (p := ⟨b, 1, none⟩) hb _
theorem chain_back {w a b : World} (k : Below a.heap.size a b) (h : Below w.heap.size w a) : Below w.heap.size w b := Below.chain h k
end Go.Proofs.Ytlipkplomndjcaa
namespace Go.Proofs.Ytlipkplomndjcaa
open Go.RowKit
theorem vIntsSame_c (v1 v2 : Value) (xs : List Int) (w : World) (h1 : Ints w v1 xs) (h2 : Ints w v2 xs) :
    Calls Try.prog 19 #[v1, v2] w fun e w' => e = .returned (.bool true) ∧ Below w.heap.size w w' :=
  (vInts_c v1 v2 xs xs w h1 h2).mono fun e w' h => ⟨by rw [h.1, decide_eq_true rfl], h.2⟩
end Go.Proofs.Ytlipkplomndjcaa
