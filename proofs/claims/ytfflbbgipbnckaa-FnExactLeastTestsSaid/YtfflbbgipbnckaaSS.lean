/- Slices of slices of ints: read, marked, held, compared. -/
import Derived.Test.YtfflbbgipbnckaaDelV
import Derived.Test.YtfflbbgipbnckaaHelp
namespace Go.Proofs.Ytfflbbgipbnckaa
open Go.RowKit
set_option linter.unusedVariables false
set_option maxRecDepth 100000
theorem Sl.keepB {w w' : World} {size n B : Nat} {v : Value} {xs : List Value} (h : Sl w size v n xs) (hb : Below B w w') (hv : ∀ g, v.ownBlock = some g → g < B) : Sl w' size v n xs := by
  obtain ⟨a, c, rfl, h1, h2, h3, h4⟩ := h
  refine ⟨a, c, rfl, h1, h2, h3, fun hn => ?_⟩
  obtain ⟨b, off, rfl, hc⟩ := h4 hn
  refine ⟨b, off, rfl, fun j hj => ?_⟩
  have hlt := hv b rfl
  rw [← hc j hj]
  exact hb.cell (p := ⟨b, off + j, none⟩) hlt
/-- a slice of slices that reads so, all its blocks below B -/
def RdSS (w : World) (B : Nat) (u : Value) (xss : List (List Int)) : Prop :=
  ∃ vs, vs.length = xss.length ∧ Sl w 1 u vs.length vs ∧ (∀ g, u.ownBlock = some g → g < B) ∧
    ∀ (k : Nat) (v : Value) (xs : List Int), vs[k]? = some v → xss[k]? = some xs → Ints w v xs ∧ ∀ g, v.ownBlock = some g → g < B
theorem RdSS.keep {w w' : World} {B B' : Nat} {u : Value} {xss : List (List Int)} (h : RdSS w B u xss) (hb : Below B' w w') (hB : B ≤ B') : RdSS w' B u xss := by
  obtain ⟨vs, h1, h2, h3, h4⟩ := h
  exact ⟨vs, h1, h2.keepB hb (fun g hg => Nat.lt_of_lt_of_le (h3 g hg) hB), h3, fun k v xs hv hx => ⟨Sl.keepB (h4 k v xs hv hx).1 hb (fun g hg => Nat.lt_of_lt_of_le ((h4 k v xs hv hx).2 g hg) hB), (h4 k v xs hv hx).2⟩⟩
theorem OwnSS.rd {w : World} {lo : Nat} {u : Value} {xss : List (List Int)} (h : OwnSS w lo u xss) : RdSS w w.heap.size u xss := by
  obtain ⟨vs, ho, hi⟩ := h
  exact ⟨vs, hi.1, Sl.of_own (ownsRow_cast ho hi.1.symm rfl), fun g hg => (ho.lt g hg).2, fun k v xs hv hx => ⟨Ints.of_own (hi.2.1 k v xs hv hx), fun g hg => ((hi.2.1 k v xs hv hx).lt g hg).2⟩⟩
theorem RdSS.parts {w : World} {B : Nat} {u : Value} {xss : List (List Int)} (h : RdSS w B u xss) : ∃ a c, u = .slice a xss.length c ∧ xss.length ≤ 9223372036854775807 ∧
    Hid (∀ k xs, xss[k]? = some xs → ∃ b off a' c', a = some ⟨b, off, none⟩ ∧ w.cell? ⟨b, off + k, none⟩ = some (.slice a' xs.length c') ∧ Ints w (.slice a' xs.length c') xs) := by
  obtain ⟨vs, h1, h2, h3, h4⟩ := h
  have hle := h2.le
  obtain ⟨a, c, rfl, _, _, HC⟩ := h2.partsV
  refine ⟨a, c, by rw [h1], by omega, fun k xs hk => ?_⟩
  have hlt : k < vs.length := by rw [h1]; exact (List.getElem?_eq_some_iff.1 hk).1
  have hv : vs[k]? = some vs[k] := List.getElem?_eq_getElem hlt
  obtain ⟨b, off, e, hc⟩ := HC.out k _ hv
  have hI := (h4 k _ xs hv hk).1
  obtain ⟨a', c', e2, _⟩ := hI.parts
  exact ⟨b, off, a', c', e, by rw [hc, e2], by rw [← e2]; exact hI⟩
theorem eqIntSS_c (u1 u2 : Value) (xss : List (List Int)) (B1 B2 : Nat) (w : World) (h1 : RdSS w B1 u1 xss) (h2 : RdSS w B2 u2 xss) :
    Calls Try.prog 18 #[u1, u2] w fun e w' => e = .returned (.bool true) ∧ Below w.heap.size w w' := by
  obtain ⟨a1, c1, rfl, hl1, H1⟩ := h1.parts
  obtain ⟨a2, c2, rfl, _, H2⟩ := h2.parts
  have hlb : ((xss.length : Int) != (xss.length : Int)) = false := by simp
  go_enter Try.func18, Try.ntmps18
  go_wp2
  go_loopw [5] (fun j wr => ∃ k : Nat, k ≤ xss.length ∧ j = .int .i64 (k : Int) ∧ Below w.heap.size w wr) (fun j _ => xss.length - (intOf j).toNat)
  case atStart => exact ⟨0, by omega, rfl, Below.refl _ _⟩
  case round =>
    obtain ⟨k, hk, rfl, hb⟩ := hrel
    by_cases hlt : k < xss.length
    · have hd : decide ((k : Int) < (xss.length : Int)) = true := by simp; omega
      obtain ⟨xs, hx⟩ := elem_at hlt
      obtain ⟨b1, o1, a1', c1', rfl, f1, i1⟩ := H1.out k xs hx.out
      obtain ⟨b2, o2, a2', c2', rfl, f2, i2⟩ := H2.out k xs hx.out
      have g1 := cell_later hb f1
      have g2 := cell_later hb f2
      have j1 := i1.below hb
      have j2 := i2.below hb
      clear f1 f2 i1 i2
      go_wp2_with fail
      go_region_held3 (fun w' => w'.cell? ⟨b1, o1 + k, none⟩ = some (.slice a1' xs.length c1') ∧ w'.cell? ⟨b2, o2 + k, none⟩ = some (.slice a2' xs.length c2'))
        (first | go_keep | (go_split_ands; exact ⟨cell_later hb2 (by assumption), cell_later hb2 (by assumption)⟩))
        (first | (go_at_call 11; refine (eqIntS_c _ _ xs xs _ j1.drew j2.drew).mono ?_; rintro e w' ⟨rfl, hb2⟩))
      have hb3 : Below w.heap.size w w' := Below.chain hb (Below.chain (Below.refl _ _).drew hb2)
      go_wp2
      go_roundw
      case rel => exact ⟨k + 1, by omega, by go_num, hb3⟩
      case measure => simp [intOf]; omega
    · obtain rfl : k = xss.length := by omega
      go_wp2
      go_ret
      exact ⟨rfl, hb⟩
/-! marks -/
def totSS (xss : List (List Int)) : Nat := (xss.map List.length).sum
def seqSS : Int → List (List Int) → List (List Int)
  | _, [] => []
  | k, xs :: t => seqI k xs.length :: seqSS (k + xs.length) t
theorem seqSS_len : ∀ (k : Int) (xss : List (List Int)), (seqSS k xss).length = xss.length
  | _, [] => rfl
  | k, xs :: t => by simp [seqSS, seqSS_len]
theorem seqSS_append : ∀ (k : Int) (a b : List (List Int)), seqSS k (a ++ b) = seqSS k a ++ seqSS (k + totSS a) b
  | k, [], b => by simp [seqSS, totSS]
  | k, xs :: t, b => by
    simp only [List.cons_append, seqSS, seqSS_append]
    congr 3
    simp only [totSS, List.map_cons, List.sum_cons]; omega
theorem totSS_succ {xss : List (List Int)} {i : Nat} {xs : List Int} (h : xss[i]? = some xs) : totSS (xss.take (i + 1)) = totSS (xss.take i) + xs.length := by
  unfold totSS; rw [take_snoc h, List.map_append, List.sum_append]; simp
theorem totSS_le (xss : List (List Int)) (i : Nat) : totSS (xss.take i) ≤ totSS xss := by
  have h : totSS xss = totSS (xss.take i) + totSS (xss.drop i) := by
    unfold totSS
    rw [← List.sum_append, ← List.map_append, List.take_append_drop]
  omega
theorem seqSS_at {k : Int} {xss : List (List Int)} {i : Nat} {xs : List Int} (h : xss[i]? = some xs) : (seqSS k xss)[i]? = some (seqI (k + totSS (xss.take i)) xs.length) := by
  have hi : i < xss.length := (List.getElem?_eq_some_iff.1 h).1
  have e : xss = xss.take i ++ xs :: xss.drop (i + 1) := by
    have hx : xss[i] = xs := (List.getElem?_eq_some_iff.1 h).2
    conv => lhs; rw [← List.take_append_drop i xss, List.drop_eq_getElem_cons hi, hx]
  have hl : (seqSS k (xss.take i)).length = i := by rw [seqSS_len, List.length_take]; omega
  conv => lhs; rw [e]
  rw [seqSS_append, List.getElem?_append_right (by omega), hl, Nat.sub_self]; rfl
/-- marked as far as i -/
def mkSS (k : Int) (xss : List (List Int)) (i : Nat) : List (List Int) := seqSS k (xss.take i) ++ xss.drop i
theorem mkSS_at {k : Int} {xss : List (List Int)} {i : Nat} (hi : i ≤ xss.length) : (mkSS k xss i)[i]? = xss[i]? := by
  unfold mkSS
  have hl : (seqSS k (xss.take i)).length = i := by rw [seqSS_len, List.length_take]; omega
  rw [List.getElem?_append_right (by omega), hl, Nat.sub_self, List.getElem?_drop, Nat.add_zero]
theorem mkSS_succ {k : Int} {xss : List (List Int)} {i : Nat} {xs : List Int} (h : xss[i]? = some xs) : (mkSS k xss i).set i (seqI (k + totSS (xss.take i)) xs.length) = mkSS k xss (i + 1) := by
  have hi : i < xss.length := (List.getElem?_eq_some_iff.1 h).1
  have hx : xss[i] = xs := (List.getElem?_eq_some_iff.1 h).2
  have hl : (seqSS k (xss.take i)).length = i := by rw [seqSS_len, List.length_take]; omega
  unfold mkSS
  rw [List.drop_eq_getElem_cons hi, set_mid _ _ _ _ hl.symm, take_snoc h, seqSS_append]
  simp [seqSS]
theorem mkSS_zero (k : Int) (xss : List (List Int)) : mkSS k xss 0 = xss := rfl
theorem mkSS_all (k : Int) (xss : List (List Int)) : mkSS k xss xss.length = seqSS k xss := by unfold mkSS; rw [List.take_length, List.drop_length, List.append_nil]
theorem mkSS_len {k : Int} {xss : List (List Int)} {i : Nat} (hi : i ≤ xss.length) : (mkSS k xss i).length = xss.length := by
  unfold mkSS; rw [List.length_append, seqSS_len, List.length_take, List.length_drop]; omega
theorem Inn.set {w w' : World} {lo : Nat} {vs : List Value} {xss : List (List Int)} {i : Nat} {v : Value} {ys : List Int} (h : Inn w lo vs xss) (hv : vs[i]? = some v) (hi : i < xss.length)
    (ho : w'.ownsRow lo 3 1 v ys.length (ints ys)) (hg : w.grownBy w' v.ownBlock) : Inn w' lo vs (xss.set i ys) := by
  refine ⟨by rw [List.length_set]; exact h.1, fun k a xs ha hx => ?_, h.2.2⟩
  by_cases hk : k = i
  · subst hk
    rw [List.getElem?_set_self hi] at hx
    rw [hv] at ha
    obtain rfl := Option.some.inj ha
    obtain rfl := Option.some.inj hx
    exact ho
  · rw [List.getElem?_set_ne (by omega)] at hx
    have h1 := h.2.1 k a xs ha hx
    refine h1.kept hg ?_
    by_cases hlt : k < i
    · rcases h.2.2 k i a v hlt ha hv with h2 | h2
      · rw [h2]; cases a.ownBlock <;> simp
      · exact .inr (fun e => h2 e.symm)
    · rcases h.2.2 i k v a (by omega) hv ha with h2 | h2
      · exact .inl h2
      · exact .inr h2
theorem markIntSS_c (u : Value) (xss : List (List Int)) (k0 : Int) (lo : Nat) (w : World) (h : OwnSS w lo u xss) (hlo : lo ≤ w.heap.size) (hk0 : 0 ≤ k0) (hk1 : k0 + totSS xss ≤ 4611686018427387904) :
    Calls Try.prog 19 #[u, .int .i64 k0] w fun e w' => e = .returned (.int .i64 (k0 + totSS xss)) ∧ OwnSS w' lo u (seqSS k0 xss) ∧ Below lo w w' := by
  obtain ⟨vs, ho, hin⟩ := h
  have hlen := hin.1
  have hSl := Sl.of_own ho
  have hle := hSl.le
  obtain ⟨a, c, hu, _⟩ := hSl.slice
  have hel : Hid (∀ (wr : World) i, wr.ownsRow lo 22 1 u xss.length vs → i < xss.length → ∃ b off, a = some ⟨b, off, none⟩ ∧ wr.cell? ⟨b, off + i, none⟩ = vs[i]?) := fun wr i h hi => by
    obtain ⟨a', c', e, _, _, _, h4⟩ := Sl.of_own h
    rw [hu] at e
    injection e with e1 e2 e3
    obtain ⟨b, off, e4, hc⟩ := h4 (by omega)
    exact ⟨b, off, e1.trans e4, hc i (by omega)⟩
  have hty : Hid (∀ (wr : World) v xs, wr.ownsRow lo 22 1 u xss.length vs → wr.ownsRow lo 3 1 v xs.length (ints xs) → u.ownBlock = none ∨ u.ownBlock ≠ v.ownBlock) := fun wr v xs h1 h2 => own_ne_type h1 h2 (by decide)
  have hT := Lib.hid (totSS_le xss)
  clear hSl
  subst hu
  go_enter Try.func19, Try.ntmps19
  go_wp2
  go_loopw [1, 5] (fun q j wr => ∃ i : Nat, i ≤ xss.length ∧ j = .int .i64 (i : Int) ∧ q = .int .i64 (k0 + totSS (xss.take i)) ∧ wr.ownsRow lo 22 1 (.slice a xss.length c) xss.length vs ∧ Inn wr lo vs (mkSS k0 xss i) ∧ Below lo w wr) (fun _ j _ => xss.length - (intOf j).toNat)
  case atStart => exact ⟨0, by omega, rfl, by simp [totSS], ho, hin, Below.refl _ _⟩
  case round =>
    obtain ⟨i, hi, rfl, rfl, ho1, hin1, hb1⟩ := hrel
    clear ho hin
    by_cases hlt : i < xss.length
    · have hd : decide ((i : Int) < (xss.length : Int)) = true := by simp; omega
      obtain ⟨xs, hx⟩ := elem_at hlt
      obtain ⟨v, hv⟩ := elem_at (show i < vs.length by omega)
      obtain ⟨b, off, rfl, g0⟩ := hel.out wr i ho1 hlt
      rw [hv.out] at g0
      have hown := hin1.2.1 i v xs hv.out (by rw [mkSS_at hi]; exact hx.out)
      obtain ⟨av, cv, rfl, _⟩ := (Sl.of_own hown).slice
      have ht1 := hT.out (i + 1)
      have ht2 := totSS_succ hx.out
      have HS := Lib.hid ht2
      have hbnd : k0 + (totSS (xss.take i) : Int) + xs.length ≤ 4611686018427387904 := by omega
      generalize htt : totSS (xss.take i) = tt at *
      go_wp2_with fail
      refine (markIntS_c _ xs (k0 + tt) lo _ _ hown (by omega) (by omega)).mono ?_
      rintro e w2 ⟨rfl, ho2, hg2⟩
      have ho3 := ho1.kept hg2 (hty.out _ _ _ ho1 hown)
      have hin3 := hin1.set hv.out (by rw [mkSS_len hi]; exact hlt) (ys := seqI (k0 + tt) xs.length) (by rw [seqI_length]; exact ho2) hg2
      rw [← htt, mkSS_succ hx.out] at hin3
      have hb3 : Below lo w w2 := ⟨hg2.os.trans hb1.os, hg2.tape.trans hb1.tape, hg2.output.trans hb1.output, Nat.le_trans hb1.size hg2.size, fun k hk => (hg2.block k (by have := hb1.size; omega) (fun e => by have := (hown.lt k e.symm).1; omega)).trans (hb1.block k hk)⟩
      clear ho1 hin1 hb1 hg2 ho2 hown g0 ht1 ht2 htt
      go_wp2
      go_roundw
      case rel => exact ⟨i + 1, by omega, by go_num, by rw [HS.out]; exact int_val (by omega), ho3, hin3, hb3⟩
      case measure => simp [intOf]; omega
    · obtain rfl : i = xss.length := by omega
      rw [List.take_length]
      rw [mkSS_all] at hin1
      go_wp2
      go_ret
      exact ⟨rfl, ⟨vs, by rw [seqSS_len]; exact ho1, hin1⟩, hb1⟩
theorem heldIntSS_c (u : Value) (xss : List (List Int)) (k0 : Int) (B : Nat) (w : World) (h : RdSS w B u (seqSS k0 xss)) (hk0 : 0 ≤ k0) (hk1 : k0 + totSS xss ≤ 4611686018427387904) :
    Calls Try.prog 20 #[u, .int .i64 k0] w fun e w' => e = .returned (.int .i64 (k0 + totSS xss)) ∧ Below w.heap.size w w' := by
  obtain ⟨a, c, rfl, hl, HC⟩ := h.parts
  rw [seqSS_len] at hl
  have hT := Lib.hid (totSS_le xss)
  have HS2 : Hid ((seqSS k0 xss).length = xss.length) := seqSS_len _ _
  rw [HS2.out]
  clear h
  go_enter Try.func20, Try.ntmps20
  go_wp2
  go_loopw [1, 5] (fun q j wr => ∃ i : Nat, i ≤ xss.length ∧ j = .int .i64 (i : Int) ∧ q = .int .i64 (k0 + totSS (xss.take i)) ∧ Below w.heap.size w wr) (fun _ j _ => xss.length - (intOf j).toNat)
  case atStart => exact ⟨0, by omega, rfl, by simp [totSS], Below.refl _ _⟩
  case round =>
    obtain ⟨i, hi, rfl, rfl, hb⟩ := hrel
    by_cases hlt : i < xss.length
    · have hd : decide ((i : Int) < (xss.length : Int)) = true := by simp; omega
      obtain ⟨xs, hx⟩ := elem_at hlt
      obtain ⟨b1, o1, a1', c1', rfl, f1, i1⟩ := HC.out i _ (seqSS_at hx.out)
      have g1 := cell_later hb f1
      have j1 := i1.below hb
      have ht1 := hT.out (i + 1)
      have ht2 := totSS_succ hx.out
      have HS := Lib.hid ht2
      have hbnd : k0 + (totSS (xss.take i) : Int) + xs.length ≤ 4611686018427387904 := by omega
      generalize totSS (xss.take i) = tt at *
      clear f1 i1
      rw [seqI_length] at g1 j1
      go_wp2_with fail
      refine (heldIntS_c _ xs.length (k0 + tt) _ j1 (by omega) (by omega)).mono ?_
      rintro e w2 ⟨rfl, hb2⟩
      have hb3 := Below.chain hb hb2
      have hnn : ¬ (k0 + (tt : Int) + (xs.length : Int)) < 0 := by omega
      clear hb hb2 g1 j1
      go_wp2
      go_roundw
      case rel => exact ⟨i + 1, by omega, by go_num, by rw [HS.out]; exact int_val (by omega), hb3⟩
      case measure => simp [intOf]; omega
    · obtain rfl : i = xss.length := by omega
      rw [List.take_length]
      go_wp2
      go_ret
      exact ⟨rfl, hb⟩
end Go.Proofs.Ytfflbbgipbnckaa
