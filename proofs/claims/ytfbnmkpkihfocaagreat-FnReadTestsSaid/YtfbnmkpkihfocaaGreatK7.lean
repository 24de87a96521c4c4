/- Texts of this claim, gathered: QuS. -/
import Derived.Test.YtfbnmkpkihfocaaGreatK6
namespace Go.Proofs.YtfbnmkpkihfocaaGreat
open Go.RowKit
set_option linter.unusedVariables false
set_option linter.unusedSimpArgs false
set_option maxRecDepth 100000
/-- the orders that begin with one of the first so many -/
def ordTo (n : Nat) (l : List Int) (i : Nat) : List (List Int) := (List.range i).flatMap fun i => (ordS n (l.eraseIdx i)).map (l.getD i 0 :: ·)
theorem ordTo_all (n : Nat) (l : List Int) : ordTo n l l.length = ordS (n + 1) l := rfl
theorem ordTo_succ (n : Nat) (l : List Int) (i : Nat) : ordTo n l (i + 1) = ordTo n l i ++ (ordS n (l.eraseIdx i)).map (l.getD i 0 :: ·) := by
  unfold ordTo; rw [List.range_succ, List.flatMap_append]; simp
theorem ordS_le : ∀ (n : Nat) (l : List Int), l.length ≤ 6 → (ordS n l).length ≤ 6 ^ n
  | 0, _, _ => by simp [ordS]
  | n + 1, l, h => by
    have key : ∀ i, i ≤ 6 → (ordTo n l i).length ≤ i * 6 ^ n := by
      intro i
      induction i with
      | zero => intro _; simp [ordTo]
      | succ i ih =>
        intro hi
        rw [ordTo_succ, List.length_append, List.length_map, Nat.succ_mul]
        have h1 := ordS_le n (l.eraseIdx i) (by have := List.length_eraseIdx_le l i; omega)
        have h2 := ih (by omega)
        omega
    rw [← ordTo_all]
    have h1 := key l.length h
    calc _ ≤ l.length * 6 ^ n := h1
      _ ≤ 6 * 6 ^ n := Nat.mul_le_mul_right _ h
      _ = 6 ^ (n + 1) := by rw [Nat.pow_succ, Nat.mul_comm]
theorem ordTo_le {n : Nat} {l : List Int} {i : Nat} (h : l.length ≤ 6) (hi : i ≤ 6) (hn : n ≤ 6) : (ordTo n l i).length ≤ 300000 := by
  have key : ∀ i, (ordTo n l i).length ≤ i * 6 ^ n := by
    intro i
    induction i with
    | zero => simp [ordTo]
    | succ i ih =>
      rw [ordTo_succ, List.length_append, List.length_map, Nat.succ_mul]
      have h1 := ordS_le n (l.eraseIdx i) (by have := List.length_eraseIdx_le l i; omega)
      omega
  have h1 := key i
  have h2 : 6 ^ n ≤ 6 ^ 6 := Nat.pow_le_pow_right (by omega) hn
  have h3 : i * 6 ^ n ≤ 6 * 6 ^ 6 := Nat.mul_le_mul hi h2
  omega
theorem ordS_le6 {n : Nat} {l : List Int} (h : l.length ≤ 6) (hn : n ≤ 6) : (ordS n l).length ≤ 50000 := by
  have h1 := ordS_le n l h
  have h2 : 6 ^ n ≤ 6 ^ 6 := Nat.pow_le_pow_right (by omega) hn
  omega
theorem ordS_row : ∀ {n : Nat} {l s : List Int}, l.length = n → s ∈ ordS n l → s.length = n := fun h hs => by
  rw [← h]; exact ((ordS_perm _ _ _ h).1 hs).length_eq
/-- rows whose blocks have not been turned are as they were -/
theorem own_same {w w' : World} {lo n size : Nat} {e : TypeId} {v : Value} {xs : List Value} (h : w.ownsRow lo e size v n xs) (hk : ∀ k, lo ≤ k → k < w.heap.size → w'.heap[k]? = w.heap[k]?) : w'.ownsRow lo e size v n xs := by
  refine ⟨h.1, ?_⟩
  rcases h.2 with h2 | ⟨g, cap, cur, rfl, hb, hg, h3⟩
  · exact Or.inl h2
  · exact Or.inr ⟨g, cap, cur, rfl, hb, by rw [hk g hb (Array.getElem?_eq_some_iff.1 hg).1]; exact hg, h3⟩
theorem OwnSS.same {w w' : World} {lo : Nat} {u : Value} {xss : List (List Int)} (h : OwnSS w lo u xss) (hk : ∀ k, lo ≤ k → k < w.heap.size → w'.heap[k]? = w.heap[k]?) : OwnSS w' lo u xss := by
  obtain ⟨vs, h1, h2⟩ := h
  exact ⟨vs, own_same h1 hk, h2.1, fun k v xs a b => own_same (h2.2.1 k v xs a b) hk, h2.2.2⟩
theorem off_cells {w : World} {b off : Nat} {n c : Nat} {xs : List Int} (h : Ints w (.slice (some ⟨b, off, none⟩) n c) xs) (k : Nat) : ∀ j u, (ints (xs.take k))[j]? = some u → w.cell? ((⟨b, off, none⟩ : Addr).add j) = some u := fun j u hu => by
  refine ints_cells h j u ?_
  simp only [ints, List.map_take, List.getElem?_take] at hu ⊢
  split at hu
  · exact hu
  · cases hu
theorem off_drop {w : World} {b off : Nat} {n c : Nat} {xs : List Int} (h : Ints w (.slice (some ⟨b, off, none⟩) n c) xs) (k : Nat) : ∀ j u, (ints (xs.drop k))[j]? = some u → w.cell? ((⟨b, off + k, none⟩ : Addr).add j) = some u := fun j u hu => by
  have hu2 : (ints xs)[k + j]? = some u := by simpa [ints, List.map_drop] using hu
  have := ints_cells h (k + j) u hu2
  rw [Addr.add_lit] at this ⊢
  rw [Nat.add_assoc]; exact this
theorem lit1 (w : World) (x : Int) : (w.alloc (.cells #[.int .i64 x] 3)).ownsRow w.heap.size 3 1 (.slice (some ⟨w.heap.size, 0, none⟩) 1 1) 1 (ints [x]) :=
  ownsRow_cast (World.ownsRow_lit (e := 3) (size := 1) (base := w.heap.size) w #[.int .i64 x] 1 (Nat.le_refl _) (by decide) (by simp)) rfl (by simp)
/-- the orders at hand, with so many of the next ones -/
def ordIn (P R : List (List Int)) (x : Int) (m : Nat) : List (List Int) := P ++ (R.take m).map (x :: ·)
theorem ordIn_zero (P R : List (List Int)) (x : Int) : ordIn P R x 0 = P := by simp [ordIn]
theorem ordIn_succ {P R : List (List Int)} {x : Int} {m : Nat} {r : List Int} (h : R[m]? = some r) : ordIn P R x (m + 1) = ordIn P R x m ++ [x :: r] := by
  unfold ordIn; rw [take_snoc h]; simp
theorem ordIn_all (P R : List (List Int)) (x : Int) : ordIn P R x R.length = P ++ R.map (x :: ·) := by simp [ordIn]
theorem ordIn_le (P R : List (List Int)) (x : Int) (m : Nat) : (ordIn P R x m).length ≤ P.length + R.length := by
  simp [ordIn]; omega
/-- a slice of slices of which none is nil -/
def OwnSN (w : World) (lo : Nat) (u : Value) (xss : List (List Int)) : Prop :=
  ∃ vs, w.ownsRow lo 24 1 u xss.length vs ∧ Inn w lo vs xss ∧ ∀ v ∈ vs, v.ownBlock ≠ none
theorem OwnSN.ss {w : World} {lo : Nat} {u : Value} {xss : List (List Int)} (h : OwnSN w lo u xss) : OwnSS w lo u xss := by
  obtain ⟨vs, h1, h2, _⟩ := h; exact ⟨vs, h1, h2⟩
theorem own_some {w : World} {lo n size : Nat} {e : TypeId} {v : Value} {xs : List Value} (h : w.ownsRow lo e size v n xs) (hn : v.ownBlock ≠ none) : ∃ g cap, v = .slice (some ⟨g, 0, none⟩) n cap := by
  rcases h.2 with ⟨rfl, _⟩ | ⟨g, cap, cur, rfl, _⟩
  · exact absurd rfl hn
  · exact ⟨g, cap, rfl⟩
theorem own_ncells {w : World} {lo g n cap : Nat} {xs : List Int} (h : w.ownsRow lo 3 1 (.slice (some ⟨g, 0, none⟩) n cap) n (ints xs)) : ∀ j u, (ints xs)[j]? = some u → w.cell? ((⟨g, 0, none⟩ : Addr).add j) = some u := fun j u hu => by
  rw [Addr.add_lit, Nat.zero_add]
  have hlen : (ints xs).length = n * 1 := h.1
  have hj := (List.getElem?_eq_some_iff.1 hu).1
  rw [h.cellAt j (by omega)]; exact hu
set_option maxHeartbeats 8000000 in
theorem l7Orders_c : ∀ (n : Nat) (v : Value) (l : List Int) (w : World), l.length = n → n ≤ 6 → Ints w v l →
    Calls Tryz.prog 56 #[v] w fun e w' => ∃ u, e = .returned u ∧ OwnSN w' w.heap.size u (ordS n l) ∧ Below w.heap.size w w'
  | 0, v, l, w, hln, _, hv => by
    obtain ⟨a, c, rfl, _, _, _⟩ := hv.parts
    have hl0 : l = [] := List.eq_nil_of_length_eq_zero hln
    subst hl0
    have O1 := (World.ownsRow_lit (e := 3) (size := 1) (base := w.heap.size) w #[] 0 (Nat.le_refl _) (by decide) rfl).alloc (.cells #[.slice (some ⟨w.heap.size, 0, none⟩) 0 0] 24)
    have O2 := World.ownsRow_lit (e := 24) (size := 1) (base := w.heap.size) (w.alloc (.cells #[] 3)) #[.slice (some ⟨w.heap.size, 0, none⟩) 0 0] 1 (by simp) (by decide) rfl
    have hO : OwnSN ((w.alloc (.cells #[] 3)).alloc (.cells #[.slice (some ⟨w.heap.size, 0, none⟩) 0 0] 24)) w.heap.size (.slice (some ⟨(w.alloc (.cells #[] 3)).heap.size, 0, none⟩) 1 1) (ordS 0 []) := by
      refine ⟨[.slice (some ⟨w.heap.size, 0, none⟩) 0 0], O2, ⟨rfl, fun k v xs h1 h2 => ?_, fun i j a b hij h1 h2 => ?_⟩, fun v hv2 => by simp only [List.mem_singleton] at hv2; subst hv2; simp [Value.ownBlock]⟩
      · cases k with
        | zero =>
          simp [ordS] at h1 h2
          subst h1 h2
          exact O1
        | succ k => simp at h1
      · cases j with
        | zero => omega
        | succ j => simp at h2
    have HB : Below w.heap.size w ((w.alloc (.cells #[] 3)).alloc (.cells #[.slice (some ⟨w.heap.size, 0, none⟩) 0 0] 24)) := by (repeat (first | exact Below.refl _ _ | exact (Below.refl _ _).drew | assumption | exact below_one _ | refine Below.chain ?_ (by assumption) | refine Below.drew ?_ | refine Below.alc ?_ _ | refine below_drewN ?_ | (refine Below.setCell ?_ ?_ _) | exact Nat.le_refl _ | (simp; done) | (simp; omega)))
    rw [World.size_alloc] at hO
    have HO := Lib.hid hO
    clear O1 O2 hO hv
    simp only [List.length_nil]
    go_enter Tryz.func56, Tryz.ntmps56
    go_wp2
    go_ret
    exact ⟨_, rfl, HO.out, HB⟩
  | n + 1, v, l, w, hln, hn6, hv => by
    have ih := Lib.hid (fun v l w h hv => l7Orders_c n v l w h (by omega) hv)
    obtain ⟨inf, hi, hz0, hz1, hz2⟩ := info_parts info_int
    obtain ⟨inS, hiS, hs0, hs1, hs2⟩ := info_parts info_ints
    have HV := Lib.hid hv
    obtain ⟨a, cap, rfl, hlc, hcm, HC⟩ := hv.parts
    obtain ⟨x00, hx00⟩ := elem_at (show 0 < l.length by omega)
    obtain ⟨b, off, rfl, hcb0⟩ := HC.out 0 x00 hx00.out
    have hbw : b < w.heap.size := World.block_lt_of_cell? _ _ hcb0
    clear hcb0
    have HOT := Lib.hid (ordTo_succ n l)
    have HOL := Lib.hid (fun i hi => ordTo_le (n := n) (l := l) (i := i) (by omega) hi (by omega))
    have HOA := Lib.hid (ordTo_all n l)
    have hne0 : ((l.length : Int) == 0) = false := by rw [beq_eq_false_iff_ne]; omega
    have hl6 : l.length ≤ 6 := by omega
    have HLN := Lib.hid hln
    clear hv HC hx00 hln
    go_enter Tryz.func56, Tryz.ntmps56
    go_wp2
    go_loopw [3, 4] (fun o j wr => ∃ (i : Nat) (vs : List Value), i ≤ l.length ∧ j = .int .i64 (i : Int) ∧ Hid (wr.ownsRow w.heap.size 24 1 o (ordTo n l i).length vs) ∧ Hid (Inn wr w.heap.size vs (ordTo n l i)) ∧ Hid (∀ v ∈ vs, v.ownBlock ≠ none) ∧ Hid (Below w.heap.size w wr)) (fun _ j _ => l.length - (intOf j).toNat)
    case atStart => exact ⟨0, [], by omega, rfl, World.ownsRow_lit (e := 24) (size := 1) (base := w.heap.size) w #[] 0 (Nat.le_refl _) (by decide) rfl, Inn.nil_ _ _, fun v hv2 => by simp at hv2, below_one _⟩
    case round =>
      obtain ⟨k, vs, hk, rfl, HO, HI, HNN, HB⟩ := hrel
      by_cases hlt : k < l.length
      · have hd : decide ((k : Int) < (l.length : Int)) = true := by simp; omega
        have n0 : (0 : Int) ≤ (k : Int) := by omega
        have n1 : (k : Int) ≤ (l.length : Int) := by omega
        have n2 : (l.length : Int) ≤ (cap : Int) := by omega
        have n3 : (k : Int) + 1 ≤ (l.length : Int) := by omega
        have n4 : (0 : Int) ≤ (k : Int) + 1 := by omega
        have n5 : (k : Int) ≤ (cap : Int) := by omega
        have n6 : ((k : Int) + 1).toNat = k + 1 := by omega
        have hw : IntKind.i64.wrap ((k : Int) + 1) = (k : Int) + 1 := IntWalk.i64_in _ (by omega)
        have hw2 : IntKind.i64.wrap (k : Int) = (k : Int) := IntWalk.i64_in _ (by omega)
        have HVr := Lib.hid (HV.out.below HB.out)
        have HE := Lib.hid (erase_len hlt)
        obtain ⟨x, hx⟩ := elem_at hlt
        have HOK := Lib.hid (HOT.out k)
        have HO1 := HOL.out k (by omega)
        have hR6 := ordS_le6 (n := n) (l := l.eraseIdx k) (by have := HE.out; omega) (by omega)
        have hRl : Hid (∀ s, s ∈ ordS n (l.eraseIdx k) → s.length = n) := fun s hs => ordS_row (by have := HE.out; have := HLN.out; omega) hs
        have hgx : l.getD k 0 = x := by rw [List.getD_eq_getElem?_getD, hx.out]; rfl
        rw [hgx] at HOK
        clear hgx
        have HRE : Hid ((l.eraseIdx k).length = n) := by have h1 := HE.out; have h2 := HLN.out; show _ = _; omega
        have HRN : Hid (0 < (ordS n (l.eraseIdx k)).length) := by
          obtain ⟨ra, rr, hrr⟩ := ordS_ne n (l.eraseIdx k) HRE.out
          show 0 < _
          rw [hrr]; simp
        generalize hRR : ordS n (l.eraseIdx k) = R at *
        have HRR := Lib.hid hRR
        clear hRR
        by_cases hce : cap = k + 1
        · have hck : (cap = k + 1) = True := by simp [hce]
          have HCE := Lib.hid hce
          clear hce
          as_aux_lemma =>
            go_wp2
            go_region_held3 (fun _ => True) (trivial)
              (first | (go_at_call 75; refine (l1Own_c ⟨b, off, none⟩ k cap (l.take k) _ (off_cells (HVr.out.below (Below.refl _ _).drew) k) (by simp; omega) (by omega)).mono ?_; rintro e wa ⟨u, rfl, hou, hbb⟩; have hbc : Below wr.heap.size wr wa := Below.chain (Below.refl _ _).drew hbb; have hsz := hbc.size) | (go_at_call 56; refine (ih.out v2 (l.eraseIdx k) _ HRE.out hI2).mono ?_; rintro e wc ⟨u5, rfl, hO5, hbd⟩; have hbe := Below.chain hb2 hbd) | (refine step_append_at (by rfl) _ _ _ (by rfl) wr.heap.size 3 inf (.int .i64 0) 1 8 Tryz.underlying24 hi hz0 hz1 hz2 rfl (by decide) u k (ints (l.take k)) (by rfl) (own_lo hou (by simp)) _ _ _ [] (by rfl) (by have := HCE.out; simp; omega) (fun j u hj => by simp at hj) (by simp) (by unfold maxLen; omega) (by omega) hsz ?_; intro v2 wb hO2 hg2 hat2; have hb2 : Below wr.heap.size wr wb := hbc.grown hg2 hsz (fun q hq => by have := (hou.lt q hq).1; simp at this; omega); have hI2 : Ints wb v2 (l.eraseIdx k) := Ints.of_own (ownsRow_cast hO2 (by rw [HE.out]) (show ints (l.take k) ++ [] = ints (l.eraseIdx k) by rw [← erase_ints, List.drop_eq_nil_of_le (by have := HCE.out; omega)]; simp [ints]))))
            have HSZ := hb2.size
            rw [HRR.out] at hO5
            obtain ⟨vs5, hO51, hO52, hO53⟩ := hO5
            have HO51 := Lib.hid hO51
            have HO52 := Lib.hid hO52
            have HO53 := Lib.hid hO53
            have HBW := Lib.hid (Below.chain HB.out hbe)
            have HOE := Lib.hid (own_keep HO.out hbe)
            have HIE := Lib.hid (HI.out.keep hbe)
            have HLT := Lib.hid (fun g hg => (HO.out.lt g hg).2)
            have hlo5 : wr.heap.size ≤ wb.heap.size := HSZ
            have hlow : w.heap.size ≤ wr.heap.size := HB.out.size
            have hhi5 : wb.heap.size ≤ wc.heap.size := hbd.size
            have h5 : ∃ g5 cap5, u5 = .slice (some ⟨g5, 0, none⟩) R.length cap5 := by
              rcases hO51.2 with ⟨rfl, h0⟩ | ⟨g, cp, cur, rfl, _⟩
              · have := HRN.out; omega
              · exact ⟨g, cp, rfl⟩
            obtain ⟨g5, cap5, rfl⟩ := h5
            have hg5 := hO51.lt g5 rfl
            have HOB : Hid (∀ g, _ → g < wb.heap.size ∨ wc.heap.size ≤ g) := fun g hg => Or.inl (Nat.lt_of_lt_of_le (HLT.out g hg) hlo5)
            generalize hP : ordTo n l k = P at *
            have HPP := Lib.hid hP
            have HSP : Hid (∀ m, (ordIn P R x m).length ≤ 350000) := fun m => Nat.le_trans (ordIn_le P R x m) (by omega)
            have H0 := Lib.hid (ordIn_zero P R x)
            have H1 := Lib.hid (fun m r (h : R[m]? = some r) => ordIn_succ (P := P) (x := x) h)
            have HA := Lib.hid (ordIn_all P R x)
            generalize hQQ : ordIn P R x = QQ at *
            clear hO51 hO52 hO53 hbe hbd hO2 hg2 hat2 hb2 hI2 hou hbb hbc hsz HSZ hP hQQ HO HI HLT
            generalize hNb : wb.heap.size = Nb at *
            generalize hNc : wc.heap.size = Nc at *
            go_wp2
            go_loopw [3, 6] (fun o j wq => ∃ (m : Nat) (us : List Value), m ≤ R.length ∧ j = .int .i64 (m : Int) ∧ Hid (wq.ownsRow w.heap.size 24 1 o (QQ m).length us) ∧ Hid (Inn wq w.heap.size us (QQ m)) ∧ Hid (∀ v ∈ us, v.ownBlock ≠ none) ∧ Hid (∀ g, o.ownBlock = some g → g < Nb ∨ Nc ≤ g) ∧ Hid (∀ q, Nb ≤ q → q < Nc → wq.heap[q]? = wc.heap[q]?) ∧ Hid (Nc ≤ wq.heap.size) ∧ Hid (Below w.heap.size w wq)) (fun _ j _ => R.length - (intOf j).toNat)
            case atStart => exact ⟨0, vs, by omega, rfl, by rw [H0.out]; exact HOE, by rw [H0.out]; exact HIE, HNN, HOB, fun q _ _ => rfl, Nat.le_of_eq hNc.symm, HBW⟩
            case round =>
              obtain ⟨m, us, hm, rfl, HP, HJ, HN2, HOB2, HSM, HSZ2, HBL⟩ := hrel
              clear HOE HIE HNN HOB HBW
              by_cases hltm : m < R.length
              · have hdm : decide ((m : Int) < (R.length : Int)) = true := by simp; omega
                obtain ⟨r, hr⟩ := elem_at hltm
                have hr6 : r.length ≤ 6 := by have := hRl.out r (List.mem_of_getElem? hr.out); omega
                have S5 := own_same HO51.out (fun q h1 h2 => HSM.out q (by omega) (by omega))
                obtain ⟨vr, hvr⟩ : ∃ vr, vs5[m]? = some vr := ⟨_, List.getElem?_eq_getElem (by rw [HO52.out.1]; exact hltm)⟩
                have R5 := own_same (HO52.out.2.1 m vr r hvr hr.out) (fun q h1 h2 => HSM.out q (by omega) (by omega))
                obtain ⟨gr, cr, rfl⟩ := own_some R5 (HO53.out vr (List.mem_of_getElem? hvr))
                have f0 : wr.cell? ⟨g5, m, none⟩ = some (.slice (some ⟨gr, 0, none⟩) r.length cr) := by
                  have hl : vs5.length = R.length * 1 := S5.1
                  rw [S5.cellAt m (by omega)]; exact hvr
                have RC := Lib.hid (own_ncells R5)
                obtain ⟨_, _, he, _, _, H2⟩ := (HV.out.below HBL.out).parts
                cases he
                obtain ⟨b9, off9, he9, f1⟩ := H2.out k x hx.out
                cases he9
                have HQ := Lib.hid (H1.out m r hr.out)
                have hqs := HSP.out m
                have HPd := Lib.hid HP.out
                generalize QQ m = C at *
                have hm0 : (0 : Int) ≤ (m : Int) := by omega
                have hm1 : (m : Int) < (R.length : Int) := by omega
                have hk1 : (k : Int) < (l.length : Int) := by omega
                clear H2 hvr S5 R5
                go_wp2_with fail
                have hrh : (wr.drew.cell? ⟨b, off + k, none⟩ = some (.int .i64 x) ∧ wr.drew.cell? ⟨g5, m, none⟩ = some (.slice (some ⟨gr, 0, none⟩) r.length cr)) := ⟨f1, f0⟩
                have HPx := Lib.hid (show wr.drew.ownsRow w.heap.size 24 1 _ C.length us from HPd.out)
                have HJx := Lib.hid (show Inn wr.drew w.heap.size us C from HJ.out)
                have RCx := Lib.hid (show ∀ j u, (ints r)[j]? = some u → wr.drew.cell? ((⟨gr, 0, none⟩ : Addr).add j) = some u from RC.out)
                have HSMx := Lib.hid (show ∀ q, Nb ≤ q → q < Nc → wr.drew.heap[q]? = wc.heap[q]? from HSM.out)
                have HSZx := Lib.hid (show Nc ≤ wr.drew.heap.size from HSZ2.out)
                have HBLx := Lib.hid (show Below w.heap.size w wr.drew from HBL.out.drew)
                refine wp_region_noPanic ?_
                refine wp_region_held_drew (S := fun w' : World => w'.cell? ⟨b, off + k, none⟩ = some (.int .i64 x) ∧ w'.cell? ⟨g5, m, none⟩ = some (.slice (some ⟨gr, 0, none⟩) r.length cr)) (by kernel_rfl) hrh (fun hHeld => ?_)
                clear f0 f1 HPd HP HJ RC HSM HSZ2 HBL hrh
                have HPd := HPx
                have HJ := HJx
                have RC := RCx
                have HSM := HSMx
                have HSZ2 := HSZx
                have HBL := HBLx
                clear HPx HJx RCx HSMx HSZx HBLx
                generalize World.drew _ = wd at *
                refine' wpAnyH_take (i := 0) (oi := _) (v := _) ?e_1 ?a_1 ?b_1 ?c_1 ?q_1 ?y_1 hHeld ?r_1
                case e_1 => (simp only [List.getElem?_toArray, List.getElem?_cons_zero, List.getElem?_cons_succ]; exact rfl)
                case a_1 => kernel_rfl
                case b_1 => kernel_rfl
                case c_1 => kernel_rfl
                case q_1 => exact fun _ _ _ h => h
                case y_1 => exact Or.inl ⟨by rfl, by (intro w hSw; (try dsimp only at hSw); go_simp; first | done | with_reducible rfl)⟩
                try simp only [Act.put, List.setIfInBounds_toArray, List.set_cons_zero, List.set_cons_succ]
                refine' wpAnyH_take (i := 1) (oi := _) (v := _) ?e_2 ?a_2 ?b_2 ?c_2 ?q_2 ?y_2 hHeld ?r_2
                case e_2 => (simp only [List.getElem?_toArray, List.getElem?_cons_zero, List.getElem?_cons_succ]; exact rfl)
                case a_2 => kernel_rfl
                case b_2 => kernel_rfl
                case c_2 => kernel_rfl
                case q_2 => exact fun _ _ _ h => h
                case y_2 => exact Or.inl ⟨by rfl, by (intro w hSw; (try dsimp only at hSw); go_simp; first | done | with_reducible rfl)⟩
                try simp only [Act.put, List.setIfInBounds_toArray, List.set_cons_zero, List.set_cons_succ]
                refine' wpAnyH_take (i := 2) (oi := _) (v := _) ?e_3 ?a_3 ?b_3 ?c_3 ?q_3 ?y_3 hHeld ?r_3
                case e_3 => (simp only [List.getElem?_toArray, List.getElem?_cons_zero, List.getElem?_cons_succ]; exact rfl)
                case a_3 => kernel_rfl
                case b_3 => kernel_rfl
                case c_3 => kernel_rfl
                case q_3 => exact fun _ _ _ h => h
                case y_3 => exact Or.inl ⟨by rfl, by (intro w hSw; (try dsimp only at hSw); go_simp; first | done | with_reducible rfl)⟩
                try simp only [Act.put, List.setIfInBounds_toArray, List.set_cons_zero, List.set_cons_succ]
                refine' wpAnyH_take (i := 3) (oi := _) (v := _) ?e_4 ?a_4 ?b_4 ?c_4 ?q_4 ?y_4 hHeld ?r_4
                case e_4 => (simp only [List.getElem?_toArray, List.getElem?_cons_zero, List.getElem?_cons_succ]; exact rfl)
                case a_4 => kernel_rfl
                case b_4 => kernel_rfl
                case c_4 => kernel_rfl
                case q_4 => exact fun _ _ _ h => h
                case y_4 => exact Or.inl ⟨by rfl, by (intro w hSw; (try dsimp only at hSw); go_simp; first | done | with_reducible rfl)⟩
                try simp only [Act.put, List.setIfInBounds_toArray, List.set_cons_zero, List.set_cons_succ]
                refine' wpAnyH_take (i := 4) (oi := _) (v := _) ?e_5 ?a_5 ?b_5 ?c_5 ?q_5 ?y_5 hHeld ?r_5
                case e_5 => (simp only [List.getElem?_toArray, List.getElem?_cons_zero, List.getElem?_cons_succ]; exact rfl)
                case a_5 => kernel_rfl
                case b_5 => kernel_rfl
                case c_5 => kernel_rfl
                case q_5 => exact fun _ _ _ h => h
                case y_5 => exact Or.inl ⟨by rfl, by (intro w hSw; (try dsimp only at hSw); go_simp; first | done | with_reducible rfl)⟩
                try simp only [Act.put, List.setIfInBounds_toArray, List.set_cons_zero, List.set_cons_succ]
                refine' wpAnyH_take (i := 6) (oi := _) (v := _) ?e_6 ?a_6 ?b_6 ?c_6 ?q_6 ?y_6 hHeld ?r_6
                case e_6 => (simp only [List.getElem?_toArray, List.getElem?_cons_zero, List.getElem?_cons_succ]; exact rfl)
                case a_6 => kernel_rfl
                case b_6 => kernel_rfl
                case c_6 => kernel_rfl
                case q_6 => exact fun _ _ _ h => h
                case y_6 => exact Or.inl ⟨by rfl, by (intro w hSw; (try dsimp only at hSw); go_simp; first | done | with_reducible rfl)⟩
                try simp only [Act.put, List.setIfInBounds_toArray, List.set_cons_zero, List.set_cons_succ]
                refine' wpAnyH_take (i := 7) (oi := _) (v := _) ?e_7 ?a_7 ?b_7 ?c_7 ?q_7 ?y_7 hHeld ?r_7
                case e_7 => (simp only [List.getElem?_toArray, List.getElem?_cons_zero, List.getElem?_cons_succ]; exact rfl)
                case a_7 => kernel_rfl
                case b_7 => kernel_rfl
                case c_7 => kernel_rfl
                case q_7 => exact fun _ _ _ h => h
                case y_7 => exact Or.inl ⟨by rfl, by (intro w hSw; (try dsimp only at hSw); go_simp; first | done | with_reducible rfl)⟩
                try simp only [Act.put, List.setIfInBounds_toArray, List.set_cons_zero, List.set_cons_succ]
                refine' wpAnyH_take (i := 8) (oi := _) (v := _) ?e_8 ?a_8 ?b_8 ?c_8 ?q_8 ?y_8 hHeld ?r_8
                case e_8 => (simp only [List.getElem?_toArray, List.getElem?_cons_zero, List.getElem?_cons_succ]; exact rfl)
                case a_8 => kernel_rfl
                case b_8 => kernel_rfl
                case c_8 => kernel_rfl
                case q_8 => exact fun _ _ _ h => h
                case y_8 => exact Or.inl ⟨by rfl, by (intro w hSw; (try dsimp only at hSw); go_simp; first | done | with_reducible rfl)⟩
                try simp only [Act.put, List.setIfInBounds_toArray, List.set_cons_zero, List.set_cons_succ]
                refine' wpAnyH_take (i := 9) (oi := _) (v := _) ?e_9 ?a_9 ?b_9 ?c_9 ?q_9 ?y_9 hHeld ?r_9
                case e_9 => (simp only [List.getElem?_toArray, List.getElem?_cons_zero, List.getElem?_cons_succ]; exact rfl)
                case a_9 => kernel_rfl
                case b_9 => kernel_rfl
                case c_9 => kernel_rfl
                case q_9 => exact fun _ _ _ h => h
                case y_9 => exact Or.inl ⟨by rfl, by (intro w hSw; (try dsimp only at hSw); go_simp; first | done | with_reducible rfl)⟩
                try simp only [Act.put, List.setIfInBounds_toArray, List.set_cons_zero, List.set_cons_succ]
                refine wpAnyH_ready (rs := [5]) (by kernel_rfl) (by simp) ?_
                refine' AllReadyH.cons (o := _) ?e_10 ?st_10 AllReadyH.nil
                case e_10 => (simp only [List.getElem?_toArray, List.getElem?_cons_zero, List.getElem?_cons_succ]; exact rfl)
                intro K hK
                go_simp
                obtain ⟨hc1, hc2⟩ := hHeld
                have P1 := lit1 wd x
                have BW1 := below_one (w := wd) (.cells #[.int .i64 x] 3)
                refine hK.out _ _ ⟨cell_later BW1 hc1, cell_later BW1 hc2⟩ (fun hHeld => ?_)
                clear hK K
                try simp only [Act.put, List.setIfInBounds_toArray, List.set_cons_zero, List.set_cons_succ]
                refine wpAnyH_ready (rs := [10]) (by kernel_rfl) (by simp) ?_
                refine' AllReadyH.cons (o := _) ?e_11 ?st_11 AllReadyH.nil
                case e_11 => (simp only [List.getElem?_toArray, List.getElem?_cons_zero, List.getElem?_cons_succ]; exact rfl)
                intro K hK
                refine step_append_at (by rfl) _ _ _ (by rfl) wd.heap.size 3 inf (.int .i64 0) 1 8 Tryz.underlying24 hi hz0 hz1 hz2 rfl (by decide) _ 1 (ints [x]) (by rfl) P1 ⟨gr, 0, none⟩ r.length cr (ints r) (by rfl) (by simp) (fun j u hu => cell_later BW1 (RC.out j u hu)) ints_one (by unfold maxLen; omega) (by omega) (by simp) ?_
                intro v1 w2 hO2 hg2 hat2
                have BW2 : Below wd.heap.size wd w2 := BW1.grown hg2 (by simp) (fun q hq => (P1.lt q hq).1)
                have hv1 : v1.ownBlock ≠ none := by rcases hat2 with h | h <;> rw [h] <;> simp [Value.ownBlock]
                obtain ⟨av, cv, ev, _⟩ := (Sl.of_own hO2).slice
                subst ev
                clear hat2 hg2 P1
                refine hK.out _ _ ⟨cell_later BW2 hc1, cell_later BW2 hc2⟩ (fun hHeld => ?_)
                clear hK K
                try simp only [Act.put, List.setIfInBounds_toArray, List.set_cons_zero, List.set_cons_succ]
                refine wpAnyH_ready (rs := [11]) (by kernel_rfl) (by simp) ?_
                refine' AllReadyH.cons (o := _) ?e_12 ?st_12 AllReadyH.nil
                case e_12 => (simp only [List.getElem?_toArray, List.getElem?_cons_zero, List.getElem?_cons_succ]; exact rfl)
                intro K hK
                go_simp
                have BW3 := Below.alc BW2 (.cells #[.slice av (1 + r.length) cv] 24)
                refine hK.out _ _ ⟨cell_later BW3 hc1, cell_later BW3 hc2⟩ (fun hHeld => ?_)
                clear hK K
                try simp only [Act.put, List.setIfInBounds_toArray, List.set_cons_zero, List.set_cons_succ]
                refine wpAnyH_ready (rs := [12]) (by kernel_rfl) (by simp) ?_
                refine' AllReadyH.cons (o := _) ?e_13 ?st_13 AllReadyH.nil
                case e_13 => (simp only [List.getElem?_toArray, List.getElem?_cons_zero, List.getElem?_cons_succ]; exact rfl)
                intro K hK
                have OP3 := own_keep HPd.out BW3
                refine step_append_at (by rfl) _ _ _ (by rfl) w.heap.size 24 inS (.slice none 0 0) 1 24 Tryz.underlying81 hiS hs0 hs1 hs2 rfl (by decide) _ C.length us (by rfl) OP3 ⟨w2.heap.size, 0, none⟩ 1 1 [.slice av (1 + r.length) cv] (by rfl) rfl (news_new _ [.slice av (1 + r.length) cv] _) (by simp [Value.oneCell']) (by unfold maxLen; omega) (by omega) (by have := BW3.size; have := HBL.out.size; simp at *; omega) ?_
                intro v4 w4 hO4 hg4 hat4
                have hwl : w.heap.size ≤ wd.heap.size := HBL.out.size
                have hcs := HSZ2.out
                have hI3 : Inn (w2.alloc (.cells #[.slice av (1 + r.length) cv] 24)) w.heap.size (us ++ [.slice av (1 + r.length) cv]) (C ++ [x :: r]) :=
                  Inn.snoc (HJ.out.keep BW3) (ownsRow_cast (own_keep hO2 (below_one _)) (by simp; omega) (by simp)) hwl (HJ.out.lt)
                have F1 := Lib.hid (ownsRow_cast hO4 (show C.length + 1 = (C ++ [x :: r]).length by simp) rfl)
                have F2 := Lib.hid (hI3.grown OP3 (by decide) hg4)
                have F3 : Hid (∀ v ∈ us ++ [.slice av (1 + r.length) cv], v.ownBlock ≠ none) := fun v hv => by
                  rcases List.mem_append.1 hv with h | h
                  · exact HN2.out v h
                  · simp only [List.mem_singleton] at h; subst h; exact hv1
                have F4 : Hid (∀ g, v4.ownBlock = some g → g < Nb ∨ Nc ≤ g) := fun g hg => by
                  rcases hat4 with h | h
                  · exact HOB2.out g (h ▸ hg)
                  · rw [h] at hg
                    injection hg with hg
                    have := BW3.size
                    right; omega
                have F5 : Hid (∀ q, Nb ≤ q → q < Nc → w4.heap[q]? = wc.heap[q]?) := fun q h1 h2 => by
                  rw [hg4.block q (by have := BW3.size; omega) (fun e => by rcases HOB2.out q e.symm with h | h <;> omega), BW3.block q (by omega)]
                  exact HSM.out q h1 h2
                have F6 : Hid (Nc ≤ w4.heap.size) := by
                  have h1 := hg4.size; have h2 := BW3.size
                  show _ ≤ _
                  omega
                have F7 : Hid (Below w.heap.size w w4) := (Below.chain HBL.out BW3).grown hg4 (by have := BW3.size; omega) (fun q hq => (OP3.lt q hq).1)
                refine hK.out _ _ ⟨?_, ?_⟩ (fun hHeld => ?_)
                · rw [World.cell?_of_block (w := w2.alloc (.cells #[.slice av (1 + r.length) cv] 24)) (a := ⟨b, off + k, none⟩) (hg4.block b (World.block_lt_of_cell? _ _ (cell_later BW3 hc1)) (fun e => by have := (OP3.lt b e.symm).1; omega))]; exact cell_later BW3 hc1
                · rw [World.cell?_of_block (w := w2.alloc (.cells #[.slice av (1 + r.length) cv] 24)) (a := ⟨g5, m, none⟩) (hg4.block g5 (World.block_lt_of_cell? _ _ (cell_later BW3 hc2)) (fun e => by rcases HOB2.out g5 e.symm with h | h <;> omega))]; exact cell_later BW3 hc2
                clear hO4 hg4 hat4 hI3 OP3 hO2
                clear hK K
                try simp only [Act.put, List.setIfInBounds_toArray, List.set_cons_zero, List.set_cons_succ]
                refine' wpAnyH_take (i := 13) (oi := _) (v := _) ?e_14 ?a_14 ?b_14 ?c_14 ?q_14 ?y_14 hHeld ?r_14
                case e_14 => (simp only [List.getElem?_toArray, List.getElem?_cons_zero, List.getElem?_cons_succ]; exact rfl)
                case a_14 => kernel_rfl
                case b_14 => kernel_rfl
                case c_14 => kernel_rfl
                case q_14 => exact fun _ _ _ h => h
                case y_14 => exact Or.inl ⟨by rfl, by (intro w hSw; (try dsimp only at hSw); go_simp; first | done | with_reducible rfl)⟩
                try simp only [Act.put, List.setIfInBounds_toArray, List.set_cons_zero, List.set_cons_succ]
                refine wpAnyH_done (by kernel_rfl) ?_ _
                refine NoPanic.normal ?_
                clear hHeld
                go_wp2
                go_roundw
                case rel => exact ⟨m + 1, us ++ [.slice av (1 + r.length) cv], by omega, by go_num, by rw [HQ.out]; exact F1, by rw [HQ.out]; exact F2, F3, F4, F5, F6, F7⟩
                case measure => simp [intOf]; omega
              · obtain rfl : m = R.length := by omega
                have hdm : decide ((R.length : Int) < (R.length : Int)) = false := by simp
                have HQ : Hid (QQ R.length = ordTo n l (k + 1)) := by
                  show _ = _
                  rw [HA.out, HOK.out]
                rw [HQ.out] at HP HJ
                go_wp2
                go_roundw
                case rel => exact ⟨k + 1, us, by omega, by go_num, HP, HJ, HN2, HBL⟩
                case measure => simp [intOf]; omega
        · have hck : (cap = k + 1) = False := by simp [hce]
          as_aux_lemma =>
            go_wp2
            go_region_held3 (fun _ => True) (trivial)
              (first | (go_at_call 75; refine (l1Own_c ⟨b, off, none⟩ k cap (l.take k) _ (off_cells (HVr.out.below (Below.refl _ _).drew) k) (by simp; omega) (by omega)).mono ?_; rintro e wa ⟨u, rfl, hou, hbb⟩; have hbc : Below wr.heap.size wr wa := Below.chain (Below.refl _ _).drew hbb; have hsz := hbc.size) | (go_at_call 56; refine (ih.out v2 (l.eraseIdx k) _ HRE.out hI2).mono ?_; rintro e wc ⟨u5, rfl, hO5, hbd⟩; have hbe := Below.chain hb2 hbd) | (refine step_append_at (by rfl) _ _ _ (by rfl) wr.heap.size 3 inf (.int .i64 0) 1 8 Tryz.underlying24 hi hz0 hz1 hz2 rfl (by decide) u k (ints (l.take k)) (by rfl) (own_lo hou (by simp)) ⟨b, off + (k + 1), none⟩ (l.length - (k + 1)) _ (ints (l.drop (k + 1))) (by rfl) (by simp) (off_drop (HVr.out.below hbc) (k + 1)) ints_one (by unfold maxLen; omega) (by omega) hsz ?_; intro v2 wb hO2 hg2 hat2; have hb2 : Below wr.heap.size wr wb := hbc.grown hg2 hsz (fun q hq => by have := (hou.lt q hq).1; simp at this; omega); have hI2 : Ints wb v2 (l.eraseIdx k) := Ints.of_own (ownsRow_cast hO2 (by rw [HE.out]) (show ints (l.take k) ++ ints (l.drop (k + 1)) = ints (l.eraseIdx k) from erase_ints l k))))
            have HSZ := hb2.size
            rw [HRR.out] at hO5
            obtain ⟨vs5, hO51, hO52, hO53⟩ := hO5
            have HO51 := Lib.hid hO51
            have HO52 := Lib.hid hO52
            have HO53 := Lib.hid hO53
            have HBW := Lib.hid (Below.chain HB.out hbe)
            have HOE := Lib.hid (own_keep HO.out hbe)
            have HIE := Lib.hid (HI.out.keep hbe)
            have HLT := Lib.hid (fun g hg => (HO.out.lt g hg).2)
            have hlo5 : wr.heap.size ≤ wb.heap.size := HSZ
            have hlow : w.heap.size ≤ wr.heap.size := HB.out.size
            have hhi5 : wb.heap.size ≤ wc.heap.size := hbd.size
            have h5 : ∃ g5 cap5, u5 = .slice (some ⟨g5, 0, none⟩) R.length cap5 := by
              rcases hO51.2 with ⟨rfl, h0⟩ | ⟨g, cp, cur, rfl, _⟩
              · have := HRN.out; omega
              · exact ⟨g, cp, rfl⟩
            obtain ⟨g5, cap5, rfl⟩ := h5
            have hg5 := hO51.lt g5 rfl
            have HOB : Hid (∀ g, _ → g < wb.heap.size ∨ wc.heap.size ≤ g) := fun g hg => Or.inl (Nat.lt_of_lt_of_le (HLT.out g hg) hlo5)
            generalize hP : ordTo n l k = P at *
            have HPP := Lib.hid hP
            have HSP : Hid (∀ m, (ordIn P R x m).length ≤ 350000) := fun m => Nat.le_trans (ordIn_le P R x m) (by omega)
            have H0 := Lib.hid (ordIn_zero P R x)
            have H1 := Lib.hid (fun m r (h : R[m]? = some r) => ordIn_succ (P := P) (x := x) h)
            have HA := Lib.hid (ordIn_all P R x)
            generalize hQQ : ordIn P R x = QQ at *
            clear hO51 hO52 hO53 hbe hbd hO2 hg2 hat2 hb2 hI2 hou hbb hbc hsz HSZ hP hQQ HO HI HLT
            generalize hNb : wb.heap.size = Nb at *
            generalize hNc : wc.heap.size = Nc at *
            go_wp2
            go_loopw [3, 6] (fun o j wq => ∃ (m : Nat) (us : List Value), m ≤ R.length ∧ j = .int .i64 (m : Int) ∧ Hid (wq.ownsRow w.heap.size 24 1 o (QQ m).length us) ∧ Hid (Inn wq w.heap.size us (QQ m)) ∧ Hid (∀ v ∈ us, v.ownBlock ≠ none) ∧ Hid (∀ g, o.ownBlock = some g → g < Nb ∨ Nc ≤ g) ∧ Hid (∀ q, Nb ≤ q → q < Nc → wq.heap[q]? = wc.heap[q]?) ∧ Hid (Nc ≤ wq.heap.size) ∧ Hid (Below w.heap.size w wq)) (fun _ j _ => R.length - (intOf j).toNat)
            case atStart => exact ⟨0, vs, by omega, rfl, by rw [H0.out]; exact HOE, by rw [H0.out]; exact HIE, HNN, HOB, fun q _ _ => rfl, Nat.le_of_eq hNc.symm, HBW⟩
            case round =>
              obtain ⟨m, us, hm, rfl, HP, HJ, HN2, HOB2, HSM, HSZ2, HBL⟩ := hrel
              clear HOE HIE HNN HOB HBW
              by_cases hltm : m < R.length
              · have hdm : decide ((m : Int) < (R.length : Int)) = true := by simp; omega
                obtain ⟨r, hr⟩ := elem_at hltm
                have hr6 : r.length ≤ 6 := by have := hRl.out r (List.mem_of_getElem? hr.out); omega
                have S5 := own_same HO51.out (fun q h1 h2 => HSM.out q (by omega) (by omega))
                obtain ⟨vr, hvr⟩ : ∃ vr, vs5[m]? = some vr := ⟨_, List.getElem?_eq_getElem (by rw [HO52.out.1]; exact hltm)⟩
                have R5 := own_same (HO52.out.2.1 m vr r hvr hr.out) (fun q h1 h2 => HSM.out q (by omega) (by omega))
                obtain ⟨gr, cr, rfl⟩ := own_some R5 (HO53.out vr (List.mem_of_getElem? hvr))
                have f0 : wr.cell? ⟨g5, m, none⟩ = some (.slice (some ⟨gr, 0, none⟩) r.length cr) := by
                  have hl : vs5.length = R.length * 1 := S5.1
                  rw [S5.cellAt m (by omega)]; exact hvr
                have RC := Lib.hid (own_ncells R5)
                obtain ⟨_, _, he, _, _, H2⟩ := (HV.out.below HBL.out).parts
                cases he
                obtain ⟨b9, off9, he9, f1⟩ := H2.out k x hx.out
                cases he9
                have HQ := Lib.hid (H1.out m r hr.out)
                have hqs := HSP.out m
                have HPd := Lib.hid HP.out
                generalize QQ m = C at *
                have hm0 : (0 : Int) ≤ (m : Int) := by omega
                have hm1 : (m : Int) < (R.length : Int) := by omega
                have hk1 : (k : Int) < (l.length : Int) := by omega
                clear H2 hvr S5 R5
                go_wp2_with fail
                have hrh : (wr.drew.cell? ⟨b, off + k, none⟩ = some (.int .i64 x) ∧ wr.drew.cell? ⟨g5, m, none⟩ = some (.slice (some ⟨gr, 0, none⟩) r.length cr)) := ⟨f1, f0⟩
                have HPx := Lib.hid (show wr.drew.ownsRow w.heap.size 24 1 _ C.length us from HPd.out)
                have HJx := Lib.hid (show Inn wr.drew w.heap.size us C from HJ.out)
                have RCx := Lib.hid (show ∀ j u, (ints r)[j]? = some u → wr.drew.cell? ((⟨gr, 0, none⟩ : Addr).add j) = some u from RC.out)
                have HSMx := Lib.hid (show ∀ q, Nb ≤ q → q < Nc → wr.drew.heap[q]? = wc.heap[q]? from HSM.out)
                have HSZx := Lib.hid (show Nc ≤ wr.drew.heap.size from HSZ2.out)
                have HBLx := Lib.hid (show Below w.heap.size w wr.drew from HBL.out.drew)
                refine wp_region_noPanic ?_
                refine wp_region_held_drew (S := fun w' : World => w'.cell? ⟨b, off + k, none⟩ = some (.int .i64 x) ∧ w'.cell? ⟨g5, m, none⟩ = some (.slice (some ⟨gr, 0, none⟩) r.length cr)) (by kernel_rfl) hrh (fun hHeld => ?_)
                clear f0 f1 HPd HP HJ RC HSM HSZ2 HBL hrh
                have HPd := HPx
                have HJ := HJx
                have RC := RCx
                have HSM := HSMx
                have HSZ2 := HSZx
                have HBL := HBLx
                clear HPx HJx RCx HSMx HSZx HBLx
                generalize World.drew _ = wd at *
                refine' wpAnyH_take (i := 0) (oi := _) (v := _) ?e_1x ?a_1x ?b_1x ?c_1x ?q_1x ?y_1x hHeld ?r_1x
                case e_1x => (simp only [List.getElem?_toArray, List.getElem?_cons_zero, List.getElem?_cons_succ]; exact rfl)
                case a_1x => kernel_rfl
                case b_1x => kernel_rfl
                case c_1x => kernel_rfl
                case q_1x => exact fun _ _ _ h => h
                case y_1x => exact Or.inl ⟨by rfl, by (intro w hSw; (try dsimp only at hSw); go_simp; first | done | with_reducible rfl)⟩
                try simp only [Act.put, List.setIfInBounds_toArray, List.set_cons_zero, List.set_cons_succ]
                refine' wpAnyH_take (i := 1) (oi := _) (v := _) ?e_2x ?a_2x ?b_2x ?c_2x ?q_2x ?y_2x hHeld ?r_2x
                case e_2x => (simp only [List.getElem?_toArray, List.getElem?_cons_zero, List.getElem?_cons_succ]; exact rfl)
                case a_2x => kernel_rfl
                case b_2x => kernel_rfl
                case c_2x => kernel_rfl
                case q_2x => exact fun _ _ _ h => h
                case y_2x => exact Or.inl ⟨by rfl, by (intro w hSw; (try dsimp only at hSw); go_simp; first | done | with_reducible rfl)⟩
                try simp only [Act.put, List.setIfInBounds_toArray, List.set_cons_zero, List.set_cons_succ]
                refine' wpAnyH_take (i := 2) (oi := _) (v := _) ?e_3x ?a_3x ?b_3x ?c_3x ?q_3x ?y_3x hHeld ?r_3x
                case e_3x => (simp only [List.getElem?_toArray, List.getElem?_cons_zero, List.getElem?_cons_succ]; exact rfl)
                case a_3x => kernel_rfl
                case b_3x => kernel_rfl
                case c_3x => kernel_rfl
                case q_3x => exact fun _ _ _ h => h
                case y_3x => exact Or.inl ⟨by rfl, by (intro w hSw; (try dsimp only at hSw); go_simp; first | done | with_reducible rfl)⟩
                try simp only [Act.put, List.setIfInBounds_toArray, List.set_cons_zero, List.set_cons_succ]
                refine' wpAnyH_take (i := 3) (oi := _) (v := _) ?e_4x ?a_4x ?b_4x ?c_4x ?q_4x ?y_4x hHeld ?r_4x
                case e_4x => (simp only [List.getElem?_toArray, List.getElem?_cons_zero, List.getElem?_cons_succ]; exact rfl)
                case a_4x => kernel_rfl
                case b_4x => kernel_rfl
                case c_4x => kernel_rfl
                case q_4x => exact fun _ _ _ h => h
                case y_4x => exact Or.inl ⟨by rfl, by (intro w hSw; (try dsimp only at hSw); go_simp; first | done | with_reducible rfl)⟩
                try simp only [Act.put, List.setIfInBounds_toArray, List.set_cons_zero, List.set_cons_succ]
                refine' wpAnyH_take (i := 4) (oi := _) (v := _) ?e_5x ?a_5x ?b_5x ?c_5x ?q_5x ?y_5x hHeld ?r_5x
                case e_5x => (simp only [List.getElem?_toArray, List.getElem?_cons_zero, List.getElem?_cons_succ]; exact rfl)
                case a_5x => kernel_rfl
                case b_5x => kernel_rfl
                case c_5x => kernel_rfl
                case q_5x => exact fun _ _ _ h => h
                case y_5x => exact Or.inl ⟨by rfl, by (intro w hSw; (try dsimp only at hSw); go_simp; first | done | with_reducible rfl)⟩
                try simp only [Act.put, List.setIfInBounds_toArray, List.set_cons_zero, List.set_cons_succ]
                refine' wpAnyH_take (i := 6) (oi := _) (v := _) ?e_6x ?a_6x ?b_6x ?c_6x ?q_6x ?y_6x hHeld ?r_6x
                case e_6x => (simp only [List.getElem?_toArray, List.getElem?_cons_zero, List.getElem?_cons_succ]; exact rfl)
                case a_6x => kernel_rfl
                case b_6x => kernel_rfl
                case c_6x => kernel_rfl
                case q_6x => exact fun _ _ _ h => h
                case y_6x => exact Or.inl ⟨by rfl, by (intro w hSw; (try dsimp only at hSw); go_simp; first | done | with_reducible rfl)⟩
                try simp only [Act.put, List.setIfInBounds_toArray, List.set_cons_zero, List.set_cons_succ]
                refine' wpAnyH_take (i := 7) (oi := _) (v := _) ?e_7x ?a_7x ?b_7x ?c_7x ?q_7x ?y_7x hHeld ?r_7x
                case e_7x => (simp only [List.getElem?_toArray, List.getElem?_cons_zero, List.getElem?_cons_succ]; exact rfl)
                case a_7x => kernel_rfl
                case b_7x => kernel_rfl
                case c_7x => kernel_rfl
                case q_7x => exact fun _ _ _ h => h
                case y_7x => exact Or.inl ⟨by rfl, by (intro w hSw; (try dsimp only at hSw); go_simp; first | done | with_reducible rfl)⟩
                try simp only [Act.put, List.setIfInBounds_toArray, List.set_cons_zero, List.set_cons_succ]
                refine' wpAnyH_take (i := 8) (oi := _) (v := _) ?e_8x ?a_8x ?b_8x ?c_8x ?q_8x ?y_8x hHeld ?r_8x
                case e_8x => (simp only [List.getElem?_toArray, List.getElem?_cons_zero, List.getElem?_cons_succ]; exact rfl)
                case a_8x => kernel_rfl
                case b_8x => kernel_rfl
                case c_8x => kernel_rfl
                case q_8x => exact fun _ _ _ h => h
                case y_8x => exact Or.inl ⟨by rfl, by (intro w hSw; (try dsimp only at hSw); go_simp; first | done | with_reducible rfl)⟩
                try simp only [Act.put, List.setIfInBounds_toArray, List.set_cons_zero, List.set_cons_succ]
                refine' wpAnyH_take (i := 9) (oi := _) (v := _) ?e_9x ?a_9x ?b_9x ?c_9x ?q_9x ?y_9x hHeld ?r_9x
                case e_9x => (simp only [List.getElem?_toArray, List.getElem?_cons_zero, List.getElem?_cons_succ]; exact rfl)
                case a_9x => kernel_rfl
                case b_9x => kernel_rfl
                case c_9x => kernel_rfl
                case q_9x => exact fun _ _ _ h => h
                case y_9x => exact Or.inl ⟨by rfl, by (intro w hSw; (try dsimp only at hSw); go_simp; first | done | with_reducible rfl)⟩
                try simp only [Act.put, List.setIfInBounds_toArray, List.set_cons_zero, List.set_cons_succ]
                refine wpAnyH_ready (rs := [5]) (by kernel_rfl) (by simp) ?_
                refine' AllReadyH.cons (o := _) ?e_10x ?st_10x AllReadyH.nil
                case e_10x => (simp only [List.getElem?_toArray, List.getElem?_cons_zero, List.getElem?_cons_succ]; exact rfl)
                intro K hK
                go_simp
                obtain ⟨hc1, hc2⟩ := hHeld
                have P1 := lit1 wd x
                have BW1 := below_one (w := wd) (.cells #[.int .i64 x] 3)
                refine hK.out _ _ ⟨cell_later BW1 hc1, cell_later BW1 hc2⟩ (fun hHeld => ?_)
                clear hK K
                try simp only [Act.put, List.setIfInBounds_toArray, List.set_cons_zero, List.set_cons_succ]
                refine wpAnyH_ready (rs := [10]) (by kernel_rfl) (by simp) ?_
                refine' AllReadyH.cons (o := _) ?e_11x ?st_11x AllReadyH.nil
                case e_11x => (simp only [List.getElem?_toArray, List.getElem?_cons_zero, List.getElem?_cons_succ]; exact rfl)
                intro K hK
                refine step_append_at (by rfl) _ _ _ (by rfl) wd.heap.size 3 inf (.int .i64 0) 1 8 Tryz.underlying24 hi hz0 hz1 hz2 rfl (by decide) _ 1 (ints [x]) (by rfl) P1 ⟨gr, 0, none⟩ r.length cr (ints r) (by rfl) (by simp) (fun j u hu => cell_later BW1 (RC.out j u hu)) ints_one (by unfold maxLen; omega) (by omega) (by simp) ?_
                intro v1 w2 hO2 hg2 hat2
                have BW2 : Below wd.heap.size wd w2 := BW1.grown hg2 (by simp) (fun q hq => (P1.lt q hq).1)
                have hv1 : v1.ownBlock ≠ none := by rcases hat2 with h | h <;> rw [h] <;> simp [Value.ownBlock]
                obtain ⟨av, cv, ev, _⟩ := (Sl.of_own hO2).slice
                subst ev
                clear hat2 hg2 P1
                refine hK.out _ _ ⟨cell_later BW2 hc1, cell_later BW2 hc2⟩ (fun hHeld => ?_)
                clear hK K
                try simp only [Act.put, List.setIfInBounds_toArray, List.set_cons_zero, List.set_cons_succ]
                refine wpAnyH_ready (rs := [11]) (by kernel_rfl) (by simp) ?_
                refine' AllReadyH.cons (o := _) ?e_12x ?st_12x AllReadyH.nil
                case e_12x => (simp only [List.getElem?_toArray, List.getElem?_cons_zero, List.getElem?_cons_succ]; exact rfl)
                intro K hK
                go_simp
                have BW3 := Below.alc BW2 (.cells #[.slice av (1 + r.length) cv] 24)
                refine hK.out _ _ ⟨cell_later BW3 hc1, cell_later BW3 hc2⟩ (fun hHeld => ?_)
                clear hK K
                try simp only [Act.put, List.setIfInBounds_toArray, List.set_cons_zero, List.set_cons_succ]
                refine wpAnyH_ready (rs := [12]) (by kernel_rfl) (by simp) ?_
                refine' AllReadyH.cons (o := _) ?e_13x ?st_13x AllReadyH.nil
                case e_13x => (simp only [List.getElem?_toArray, List.getElem?_cons_zero, List.getElem?_cons_succ]; exact rfl)
                intro K hK
                have OP3 := own_keep HPd.out BW3
                refine step_append_at (by rfl) _ _ _ (by rfl) w.heap.size 24 inS (.slice none 0 0) 1 24 Tryz.underlying81 hiS hs0 hs1 hs2 rfl (by decide) _ C.length us (by rfl) OP3 ⟨w2.heap.size, 0, none⟩ 1 1 [.slice av (1 + r.length) cv] (by rfl) rfl (news_new _ [.slice av (1 + r.length) cv] _) (by simp [Value.oneCell']) (by unfold maxLen; omega) (by omega) (by have := BW3.size; have := HBL.out.size; simp at *; omega) ?_
                intro v4 w4 hO4 hg4 hat4
                have hwl : w.heap.size ≤ wd.heap.size := HBL.out.size
                have hcs := HSZ2.out
                have hI3 : Inn (w2.alloc (.cells #[.slice av (1 + r.length) cv] 24)) w.heap.size (us ++ [.slice av (1 + r.length) cv]) (C ++ [x :: r]) :=
                  Inn.snoc (HJ.out.keep BW3) (ownsRow_cast (own_keep hO2 (below_one _)) (by simp; omega) (by simp)) hwl (HJ.out.lt)
                have F1 := Lib.hid (ownsRow_cast hO4 (show C.length + 1 = (C ++ [x :: r]).length by simp) rfl)
                have F2 := Lib.hid (hI3.grown OP3 (by decide) hg4)
                have F3 : Hid (∀ v ∈ us ++ [.slice av (1 + r.length) cv], v.ownBlock ≠ none) := fun v hv => by
                  rcases List.mem_append.1 hv with h | h
                  · exact HN2.out v h
                  · simp only [List.mem_singleton] at h; subst h; exact hv1
                have F4 : Hid (∀ g, v4.ownBlock = some g → g < Nb ∨ Nc ≤ g) := fun g hg => by
                  rcases hat4 with h | h
                  · exact HOB2.out g (h ▸ hg)
                  · rw [h] at hg
                    injection hg with hg
                    have := BW3.size
                    right; omega
                have F5 : Hid (∀ q, Nb ≤ q → q < Nc → w4.heap[q]? = wc.heap[q]?) := fun q h1 h2 => by
                  rw [hg4.block q (by have := BW3.size; omega) (fun e => by rcases HOB2.out q e.symm with h | h <;> omega), BW3.block q (by omega)]
                  exact HSM.out q h1 h2
                have F6 : Hid (Nc ≤ w4.heap.size) := by
                  have h1 := hg4.size; have h2 := BW3.size
                  show _ ≤ _
                  omega
                have F7 : Hid (Below w.heap.size w w4) := (Below.chain HBL.out BW3).grown hg4 (by have := BW3.size; omega) (fun q hq => (OP3.lt q hq).1)
                refine hK.out _ _ ⟨?_, ?_⟩ (fun hHeld => ?_)
                · rw [World.cell?_of_block (w := w2.alloc (.cells #[.slice av (1 + r.length) cv] 24)) (a := ⟨b, off + k, none⟩) (hg4.block b (World.block_lt_of_cell? _ _ (cell_later BW3 hc1)) (fun e => by have := (OP3.lt b e.symm).1; omega))]; exact cell_later BW3 hc1
                · rw [World.cell?_of_block (w := w2.alloc (.cells #[.slice av (1 + r.length) cv] 24)) (a := ⟨g5, m, none⟩) (hg4.block g5 (World.block_lt_of_cell? _ _ (cell_later BW3 hc2)) (fun e => by rcases HOB2.out g5 e.symm with h | h <;> omega))]; exact cell_later BW3 hc2
                clear hO4 hg4 hat4 hI3 OP3 hO2
                clear hK K
                try simp only [Act.put, List.setIfInBounds_toArray, List.set_cons_zero, List.set_cons_succ]
                refine' wpAnyH_take (i := 13) (oi := _) (v := _) ?e_14x ?a_14x ?b_14x ?c_14x ?q_14x ?y_14x hHeld ?r_14x
                case e_14x => (simp only [List.getElem?_toArray, List.getElem?_cons_zero, List.getElem?_cons_succ]; exact rfl)
                case a_14x => kernel_rfl
                case b_14x => kernel_rfl
                case c_14x => kernel_rfl
                case q_14x => exact fun _ _ _ h => h
                case y_14x => exact Or.inl ⟨by rfl, by (intro w hSw; (try dsimp only at hSw); go_simp; first | done | with_reducible rfl)⟩
                try simp only [Act.put, List.setIfInBounds_toArray, List.set_cons_zero, List.set_cons_succ]
                refine wpAnyH_done (by kernel_rfl) ?_ _
                refine NoPanic.normal ?_
                clear hHeld
                go_wp2
                go_roundw
                case rel => exact ⟨m + 1, us ++ [.slice av (1 + r.length) cv], by omega, by go_num, by rw [HQ.out]; exact F1, by rw [HQ.out]; exact F2, F3, F4, F5, F6, F7⟩
                case measure => simp [intOf]; omega
              · obtain rfl : m = R.length := by omega
                have hdm : decide ((R.length : Int) < (R.length : Int)) = false := by simp
                have HQ : Hid (QQ R.length = ordTo n l (k + 1)) := by
                  show _ = _
                  rw [HA.out, HOK.out]
                rw [HQ.out] at HP HJ
                go_wp2
                go_roundw
                case rel => exact ⟨k + 1, us, by omega, by go_num, HP, HJ, HN2, HBL⟩
                case measure => simp [intOf]; omega
      · obtain rfl : k = l.length := by omega
        have hd : decide ((l.length : Int) < (l.length : Int)) = false := by simp
        have HOF := Lib.hid (show OwnSN wr w.heap.size _ (ordS (n + 1) l) from ⟨vs, by rw [← HOA.out]; exact HO.out, by rw [← HOA.out]; exact HI.out, HNN.out⟩)
        go_wp2
        go_ret
        exact ⟨_, rfl, HOF.out, HB.out⟩
end Go.Proofs.YtfbnmkpkihfocaaGreat
