/- Walks of ConfusedDigits, both texts. -/
import Derived.Test.YtahpknjligaliaaSS
import Derived.Test.YtahpknjligaliaaBox
import Derived.Test.YtahpknjligaliaaTold
namespace Go.Proofs.Ytahpknjligaliaa
open Go.RowKit
set_option linter.unusedVariables false
set_option maxRecDepth 100000
theorem Inn.tail {w : World} {lo : Nat} {v : Value} {vs : List Value} {xs : List Int} {xss : List (List Int)} (h : Inn w lo (v :: vs) (xs :: xss)) : Inn w lo vs xss :=
  ⟨by have := h.1; simpa using this, fun k a ys ha hy => h.2.1 (k + 1) a ys (by simpa using ha) (by simpa using hy), fun i j a b hij ha hb => h.2.2 (i + 1) (j + 1) a b (by omega) (by simpa using ha) (by simpa using hb)⟩
theorem Inn.head {w : World} {lo : Nat} {v : Value} {vs : List Value} {xs : List Int} {xss : List (List Int)} (h : Inn w lo (v :: vs) (xs :: xss)) : w.ownsRow lo 3 1 v xs.length (ints xs) ∧ ∀ b ∈ vs, b.ownBlock = none ∨ b.ownBlock ≠ v.ownBlock :=
  ⟨h.2.1 0 v xs rfl rfl, fun b hb => by obtain ⟨j, hj, rfl⟩ := List.getElem_of_mem hb; exact h.2.2 0 (j + 1) v vs[j] (by omega) rfl (by simp [hj])⟩
theorem Inn.cons {w : World} {lo : Nat} {v : Value} {vs : List Value} {xs : List Int} {xss : List (List Int)} (h : Inn w lo vs xss) (ho : w.ownsRow lo 3 1 v xs.length (ints xs)) (hd : ∀ b ∈ vs, b.ownBlock = none ∨ b.ownBlock ≠ v.ownBlock) : Inn w lo (v :: vs) (xs :: xss) := by
  refine ⟨by simp [h.1], fun k a ys ha hy => ?_, fun i j a b hij ha hb => ?_⟩
  · cases k with
    | zero => simp at ha hy; subst ha hy; exact ho
    | succ k => exact h.2.1 k a ys (by simpa using ha) (by simpa using hy)
  · cases i with
    | zero =>
      cases j with
      | zero => omega
      | succ j => simp at ha hb; subst ha; exact hd b (List.mem_of_getElem? hb)
    | succ i =>
      cases j with
      | zero => omega
      | succ j => exact h.2.2 i j a b (by omega) (by simpa using ha) (by simpa using hb)
theorem Inn.filter {w : World} {lo : Nat} {q : Value → Bool} {q' : List Int → Bool} : ∀ {vs : List Value} {xss : List (List Int)}, Inn w lo vs xss → (∀ (k : Nat) v xs, vs[k]? = some v → xss[k]? = some xs → q v = q' xs) → Inn w lo (vs.filter q) (xss.filter q')
  | [], [], h, _ => Inn.nil_ _ _
  | [], _ :: _, h, _ => by have := h.1; simp at this
  | _ :: _, [], h, _ => by have := h.1; simp at this
  | v :: vs, xs :: xss, h, hq => by
    have ih := Inn.filter h.tail (fun k a b ha hb => hq (k + 1) a b (by simpa using ha) (by simpa using hb))
    have h0 := hq 0 v xs rfl rfl
    cases hv : q v
    · rw [hv] at h0
      rw [List.filter_cons_of_neg (by simp [hv]), List.filter_cons_of_neg (by simp [← h0])]
      exact ih
    · rw [hv] at h0
      rw [List.filter_cons_of_pos hv, List.filter_cons_of_pos h0.symm]
      exact ih.cons h.head.1 (fun b hb => h.head.2 b (List.mem_filter.1 hb).1)
/-- a slice of one element -/
def oneV : Value → Bool
  | .slice _ n _ => n == 1
  | _ => false
theorem own_oneV {w : World} {lo n size : Nat} {e : TypeId} {v : Value} {xs : List Value} (h : w.ownsRow lo e size v n xs) : oneV v = (n == 1) := by
  rcases h.2 with ⟨rfl, rfl⟩ | ⟨g, c, cur, rfl, _⟩ <;> rfl
def cfF (xs : List Int) : Bool := !(xs.length == 1)
def cfL (d l : Int) : List (List Int) := if faultB d l then (grpL d l).filter cfF else []
theorem totSS_filter (q : List Int → Bool) (xss : List (List Int)) (h : ∀ xs ∈ xss, xs.length ≤ 10) : totSS (xss.filter q) ≤ 10 * xss.length := by
  induction xss with
  | nil => simp [totSS]
  | cons a t ih =>
    have h1 := ih (fun xs hx => h xs (List.mem_cons_of_mem _ hx))
    have h2 := h a List.mem_cons_self
    rw [List.filter_cons]
    split
    · simp only [totSS, List.map_cons, List.sum_cons, List.length_cons] at h1 ⊢; omega
    · simp only [List.length_cons]; omega
theorem cfL_le (d l : Int) : totSS (cfL d l) ≤ 100 := by
  unfold cfL
  split
  · have h1 := totSS_filter cfF (grpL d l) (fun xs hx => by
      unfold grpL grpTo at hx
      simp only [List.mem_map] at hx
      obtain ⟨x, _, rfl⟩ := hx
      exact digL_le _ _ _)
    have h2 : (grpL d l).length ≤ 10 := grpTo_le _ _ _
    omega
  · simp [totSS]
/-- the post of a text that returns a slice of slices of the call's own and a bool -/
def SSPost (w : World) (L : List (List Int)) (b : Bool) (e : Ending) (w' : World) : Prop :=
  ∃ u, e = .returned (.tuple #[u, .bool b]) ∧ OwnSS w' w.heap.size u L ∧ Below w.heap.size w w'
theorem SSPost.mk' {w w' : World} {L L' : List (List Int)} {b b' : Bool} {u : Value} (hL : L = L') (hbb : b = b') (ho : OwnSS w' w.heap.size u L') (hb : Below w.heap.size w w') : SSPost w L b (.returned (.tuple #[u, .bool b'])) w' := by
  subst hL hbb; exact ⟨u, rfl, ho, hb⟩
theorem OwnSS.nil_ (w : World) (lo : Nat) : OwnSS w lo (.slice none 0 0) [] := ⟨[], World.ownsRow_nil _ _ _ _, Inn.nil_ _ _⟩
theorem Inn.lo' {w : World} {lo lo' : Nat} {vs : List Value} {xss : List (List Int)} (h : Inn w lo vs xss) (hl : lo' ≤ lo) : Inn w lo' vs xss := ⟨h.1, fun k v xs h1 h2 => own_lo (h.2.1 k v xs h1 h2) hl, h.2.2⟩
theorem Inn.slices {w : World} {lo : Nat} {vs : List Value} {xss : List (List Int)} (h : Inn w lo vs xss) : ∀ x ∈ vs, ∃ a n c, x = Value.slice a n c := by
  intro x hx
  obtain ⟨k, hk, rfl⟩ := List.getElem_of_mem hx
  obtain ⟨a, c, e, _⟩ := (Sl.of_own (h.2.1 k vs[k] (xss[k]'(by rw [← h.1]; exact hk)) (List.getElem?_eq_getElem hk) (List.getElem?_eq_getElem (by rw [← h.1]; exact hk)))).slice
  exact ⟨a, _, c, e⟩
theorem ConfusedDigits1_c (a : Option Addr) (n c : Nat) (w : World) (hn : n ≤ 9223372036854775807) : Calls Try.prog 136 #[.slice a n c] w fun e w' => e = .returned (.bool (oneV (.slice a n c))) ∧ Below w.heap.size w w' := by
  go_enter Try.func136, Try.ntmps136
  go_wp2
  go_ret
  exact ⟨bool_ret (by unfold oneV; rw [Bool.eq_iff_iff]; simp; omega), Below.refl _ _⟩
theorem ConfusedDigits_c (d l : Int) (w : World) : Calls Try.prog 54 #[.agg #[.int .i64 d, .int .i64 l]] w (SSPost w (cfL d l) (faultB d l)) := by
  rcases ha : faultB d l with _ | _
  · have HL := Lib.hid (show cfL d l = [] by simp [cfL, ha])
    have HA := Lib.hid ha; clear ha
    go_enter Try.func54, Try.ntmps54
    go_wp2_with fail
    refine (IsFault_c d l _).mono ?_
    rintro e w1 ⟨rfl, hb1⟩
    rw [HA.out]
    go_wp2
    go_ret2
    exact SSPost.mk' HL.out rfl (OwnSS.nil_ _ _) (Below.chain (below_one _) hb1)
  · have HL := Lib.hid (show cfL d l = (grpL d l).filter cfF by simp [cfL, ha])
    have bd := faultB_true ha
    have HA := Lib.hid ha; clear ha
    go_enter Try.func54, Try.ntmps54
    go_wp2_with fail
    refine (IsFault_c d l _).mono ?_
    rintro e w1 ⟨rfl, hb1⟩
    rw [HA.out]
    have q0 := (box_after hb1).1 0 _ rfl
    have q1 := (box_after hb1).1 1 _ rfl
    have hb2 := Below.chain (below_one _) hb1
    clear hb1
    go_wp2_with fail
    refine (groups_c d l _ bd.1 bd.2.1 bd.2.2.1 bd.2.2.2.1).mono ?_
    rintro e w2 ⟨u, rfl, ⟨vs, ho, hin⟩, hb3⟩
    have hb4 := Below.chain hb2 hb3
    have h10 : (grpL d l).length ≤ 10 := grpTo_le _ _ _
    have hvl : ∀ x ∈ vs, ∀ a n c, x = Value.slice a n c → n ≤ 9223372036854775807 := by
      intro x hx a n c e
      obtain ⟨k, hk, rfl⟩ := List.getElem_of_mem hx
      have hI := Sl.of_own (hin.2.1 k vs[k] ((grpL d l)[k]'(by rw [← hin.1]; exact hk)) (List.getElem?_eq_getElem hk) (List.getElem?_eq_getElem (by rw [← hin.1]; exact hk)))
      have hle := hI.le
      obtain ⟨a', c', e2, _⟩ := hI.slice
      rw [e] at e2
      injection e2 with _ e3 _
      omega
    have hsl := hin.slices
    obtain ⟨a, c, rfl, _⟩ := (Sl.of_own ho).slice
    have hcl : CallsIt 136 := fun bs w => by kernel_rfl
    have hlo := hb2.size
    clear hb3 hb2 q0 q1
    go_wp2_with fail
    refine (DeleteFuncV_c _ vs _ w1.heap.size oneV _ (ownsRow_cast ho hin.1.symm rfl) hcl hsl (fun x w' hx => by
      obtain ⟨a, n, c, rfl⟩ := hsl x hx
      exact ConfusedDigits1_c a n c w' (hvl _ hx a n c rfl))).mono ?_
    rintro e w3 ⟨u', rfl, ho3, hg3⟩
    have hin3 := Inn.grown hin ho (by decide) hg3
    have hf := hin3.filter (q := fun x => !oneV x) (q' := cfF) (fun k v xs hv hx => by
      have := own_oneV (hin3.2.1 k v xs hv hx)
      show (!oneV v) = !(xs.length == 1)
      rw [this])
    have hb5 : Below w.heap.size w w3 := hb4.grown hg3 hb4.size (fun g hg => by have := (ho.lt g hg).1; omega)
    go_wp2
    go_ret2
    exact SSPost.mk' HL.out rfl ⟨_, ownsRow_cast (own_lo ho3 hlo) hf.1 rfl, hf.lo' hlo⟩ hb5
theorem filter_succ {vs : List Value} {q : Value → Bool} {k : Nat} {v : Value} (h : vs[k]? = some v) : (vs.take (k + 1)).filter q = (vs.take k).filter q ++ if q v then [v] else [] := by
  rw [take_snoc h, List.filter_append]
  cases hq : q v <;> simp [hq]
theorem sConfusedDigits_c (d l : Int) (w : World) : Calls Try.prog 52 #[.agg #[.int .i64 d, .int .i64 l]] w (SSPost w (cfL d l) (faultB d l)) := by
  obtain ⟨inf, hi, hz0, hz1, hz2⟩ := info_parts info_ints
  have ho0 := World.ownsRow_lit (e := 35) (size := 1) (base := w.heap.size) (w.alloc (.cells #[.int .i64 d, .int .i64 l] 65)) #[] 0 (by simp) (by decide) rfl
  have q0 : ((w.alloc (.cells #[.int .i64 d, .int .i64 l] 65)).alloc (.cells #[] 35)).cell? ⟨w.heap.size, 0, none⟩ = some (.int .i64 d) := cell_later (below_one _) (by rw [World.cell?_alloc_at _ _ _ _ rfl]; rfl)
  have q1 : ((w.alloc (.cells #[.int .i64 d, .int .i64 l] 65)).alloc (.cells #[] 35)).cell? ⟨w.heap.size, 1, none⟩ = some (.int .i64 l) := cell_later (below_one _) (by rw [World.cell?_alloc_at _ _ _ _ rfl]; rfl)
  have hb0 : Below w.heap.size w ((w.alloc (.cells #[.int .i64 d, .int .i64 l] 65)).alloc (.cells #[] 35)) := by (repeat (first | exact Below.refl _ _ | exact (Below.refl _ _).drew | assumption | exact below_one _ | refine Below.chain ?_ (by assumption) | refine Below.drew ?_ | refine Below.alc ?_ _ | refine below_drewN ?_ | (refine Below.setCell ?_ ?_ _) | exact Nat.le_refl _ | (simp; done) | (simp; omega)))
  simp only [World.size_alloc] at ho0
  rcases ha : faultB d l with _ | _
  · have HL := Lib.hid (show cfL d l = [] by simp [cfL, ha])
    have HA := Lib.hid ha; clear ha
    go_enter Try.func52, Try.ntmps52
    go_wp2_with fail
    refine (l3Fault_c d l _).mono ?_
    rintro e w1 ⟨rfl, hb1⟩
    rw [HA.out]
    have ho1 := own_keep ho0 hb1
    go_wp2
    go_ret2
    exact SSPost.mk' HL.out rfl ⟨[], ho1, Inn.nil_ _ _⟩ (Below.chain hb0 hb1)
  · have HL := Lib.hid (show cfL d l = (grpL d l).filter cfF by simp [cfL, ha])
    have bd := faultB_true ha
    have HA := Lib.hid ha; clear ha
    go_enter Try.func52, Try.ntmps52
    go_wp2_with fail
    refine (l3Fault_c d l _).mono ?_
    rintro e w1 ⟨rfl, hb1⟩
    rw [HA.out]
    have r0 := cell_later hb1 q0
    have r1 := cell_later hb1 q1
    have ho1 := own_keep ho0 hb1
    have hb2 := Below.chain hb0 hb1
    clear hb0 hb1 q0 q1 ho0
    go_wp2_with fail
    refine (l3Groups_c d l _ bd.1 bd.2.1 bd.2.2.1 bd.2.2.2.1).mono ?_
    rintro e w2 ⟨u, rfl, ⟨vs, hou, hin⟩, hb3⟩
    have hb4 := Below.chain hb2 hb3
    have ho2 := own_keep ho1 hb3
    have h10 : (grpL d l).length ≤ 10 := grpTo_le _ _ _
    have hvl : Hid (vs.length = (grpL d l).length) := hin.1
    have hlo := hb2.size
    have hul := hou.lt
    have hdis : u.ownBlock = none ∨ u.ownBlock ≠ some (w.heap.size + 1) := by
      cases hub : u.ownBlock with
      | none => exact .inl rfl
      | some g => right; intro e; injection e with e; have h1 := (hul g hub).1; have h3 : w.heap.size + 1 < w1.heap.size := (ho1.lt _ rfl).2; omega
    have hSu := Sl.of_own (ownsRow_cast hou hin.1.symm rfl)
    have hgr : Hid (∀ (wr wr' : World) (o : Value) (n : Nat) (xs : List Value), Inn wr w1.heap.size vs (grpL d l) → wr.ownsRow w.heap.size 35 1 o n xs → wr.grownBy wr' o.ownBlock → Inn wr' w1.heap.size vs (grpL d l)) := fun wr wr' o n xs h1 h2 h3 => h1.grown h2 (by decide) h3
    have hone : Hid (∀ (wr : World) (k : Nat) (v : Value) (xs : List Int), Inn wr w1.heap.size vs (grpL d l) → vs[k]? = some v → (grpL d l)[k]? = some xs → oneV v = (xs.length == 1)) := fun wr k v xs h h1 h2 => own_oneV (h.2.1 k v xs h1 h2)
    have hHN : Hid (∀ (k : Nat) (xs : List Int), (grpL d l)[k]? = some xs → 0 < xs.length) := fun k xs h => grpL_pos h
    generalize grpL d l = xss at *
    have hsl := hin.slices
    obtain ⟨a, c, hu, _⟩ := hSu.slice
    have hcell : Hid (∀ (wr : World) (k : Nat) (v : Value), Sl wr 1 u vs.length vs → vs[k]? = some v → ∃ b off, a = some ⟨b, off, none⟩ ∧ wr.cell? ⟨b, off + k, none⟩ = some v) := fun wr k v h hk => by
      obtain ⟨a', c', e, _, _, HC⟩ := h.partsV
      rw [hu] at e
      injection e with e1
      obtain ⟨b, off, e2, hc⟩ := HC.out k v hk
      exact ⟨b, off, e1.trans e2, hc⟩
    clear hou hb3 hb2 r0 r1 ho1
    rw [hvl.out] at hu
    obtain ⟨U, hUe⟩ : ∃ U, U = u := ⟨_, rfl⟩
    rw [← hUe] at hcell hSu hdis hul
    have HU := Lib.hid hUe
    clear hUe
    subst hu
    go_wp2
    go_loopw [4, 6] (fun o j wr => ∃ k : Nat, k ≤ xss.length ∧ j = .int .i64 (k : Int) ∧ wr.ownsRow w.heap.size 35 1 o ((vs.take k).filter fun x => !oneV x).length ((vs.take k).filter fun x => !oneV x) ∧ Inn wr w1.heap.size vs xss ∧ Sl wr 1 U vs.length vs ∧ (U.ownBlock = none ∨ U.ownBlock ≠ o.ownBlock) ∧ Below w.heap.size w wr ∧ w2.heap.size ≤ wr.heap.size) (fun _ j _ => xss.length - (intOf j).toNat)
    case atStart => exact ⟨0, by omega, rfl, ho2, hin, hSu, hdis, hb4, Nat.le_refl _⟩
    case round =>
      obtain ⟨k, hk, rfl, ho, hin, hS, hdi, hb, hsz⟩ := hrel
      clear ho2 hSu hdis hb4
      by_cases hlt : k < xss.length
      · have hd : decide ((k : Int) < (xss.length : Int)) = true := by simp; omega
        obtain ⟨xs, hx⟩ := elem_at hlt
        obtain ⟨v, hv⟩ := elem_at (show k < vs.length by rw [hvl.out]; exact hlt)
        obtain ⟨va, vn, vc, rfl⟩ := hsl v (List.mem_of_getElem? hv.out)
        obtain ⟨b, off, rfl, g0⟩ := hcell.out wr k _ hS hv.out
        have h1v := hone.out wr k _ xs hin hv.out hx.out
        have hpos := hHN.out k xs hx.out
        have hI := hin.2.1 k _ xs hv.out hx.out
        have hvn : vn = xs.length := by
          obtain ⟨a', c', e, _⟩ := (Sl.of_own hI).slice
          injection e
        subst hvn
        have hxle := (Sl.of_own hI).le
        have hS2 := filter_succ (q := fun x => !oneV x) hv.out
        have hle : ((vs.take k).filter fun x => !oneV x).length ≤ 10 := Nat.le_trans (List.length_filter_le _ _) (Nat.le_trans (List.length_take_le _ _) (by omega))
        generalize ((vs.take k).filter fun x => !oneV x) = cur at *
        rcases hq : xs.length == 1 with _ | _
        · have hgt : decide ((1 : Int) < (xs.length : Int)) = true := by simp at hq ⊢; omega
          have HS := Lib.hid (show ((vs.take (k + 1)).filter fun x => !oneV x) = cur ++ [.slice va xs.length vc] by rw [hS2, h1v, hq]; rfl)
          have HSl := Lib.hid hS; have HI := Lib.hid hin; have HD := Lib.hid hdi
          clear hS2 h1v hS hin hdi hI
          go_wp2_with (at_builtin; refine wpList_append_own_at _ rfl _ _ 62 rfl w.heap.size 35 inf (.slice none 0 0) 1 24 Try.underlying62 hi hz0 hz1 hz2 rfl (by decide) _ cur.length cur rfl (ho.alloc _) ⟨wr.heap.size, 0, none⟩ 1 1 [.slice va xs.length vc] rfl rfl (news_new _ [.slice va xs.length vc] _) (by simp [Value.oneCell']) (by unfold maxLen; omega) (by omega) (by have := hb.size; simp; omega) ?_)
          intro v' w3 ho5 hg5 _ hat
          have hb7 : Below w.heap.size w w3 := (Below.alc hb _).grown hg5 (by have := hb.size; simp; omega) (fun g hg => (ho.lt g hg).1)
          have hin7 := hgr.out _ _ _ _ _ (HI.out.keep (below_one _)) (ho.alloc _) hg5
          have hS7 := (HSl.out.alloc (.cells #[.slice va xs.length vc] 35)).grown hg5 HD.out
          have hd7 : U.ownBlock = none ∨ U.ownBlock ≠ v'.ownBlock := by
            rcases hat with e | e
            · rw [e]; exact HD.out
            · rw [e]
              cases hub : U.ownBlock with
              | none => exact .inl rfl
              | some g => right; intro e2; injection e2 with e2; have := (hul g hub).2; (try simp at e2); omega
          have hsz7 : w2.heap.size ≤ w3.heap.size := Nat.le_trans (by simp; omega) hg5.size
          have H7 := Lib.hid (And.intro hin7 (And.intro hS7 hd7))
          clear ho hb hg5 HSl HI HD hin7 hS7 hd7 hat
          go_wp2
          go_roundw
          case rel => exact ⟨k + 1, by omega, by go_num, by rw [HS.out]; exact ownsRow_cast ho5 (by simp) rfl, H7.out.1, H7.out.2.1, H7.out.2.2, hb7, hsz7⟩
          case measure => simp [intOf]; omega
        · have hgt : decide ((1 : Int) < (xs.length : Int)) = false := by simp at hq ⊢; omega
          have HS := Lib.hid (show ((vs.take (k + 1)).filter fun x => !oneV x) = cur by rw [hS2, h1v, hq]; simp)
          have H7 := Lib.hid (And.intro hin (And.intro hS hdi))
          clear hS2 h1v hS hin hdi hI
          go_wp2
          go_roundw
          case rel => exact ⟨k + 1, by omega, by go_num, by rw [HS.out]; exact ho, H7.out.1, H7.out.2.1, H7.out.2.2, hb, hsz⟩
          case measure => simp [intOf]; omega
      · obtain rfl : k = xss.length := by omega
        rw [← hvl.out, List.take_length] at ho
        have hf := hin.filter (q := fun x => !oneV x) (q' := cfF) (fun k v xs hv hx => by
          have := hone.out wr k v xs hin hv hx
          show (!oneV v) = !(xs.length == 1)
          rw [this])
        have HP := Lib.hid (show OwnSS wr w.heap.size u4 (xss.filter cfF) from ⟨_, ownsRow_cast ho hf.1 rfl, hf.lo' hlo⟩)
        clear hf ho hin hS hdi
        go_wp2
        go_ret2
        exact SSPost.mk' HL.out rfl HP.out hb
end Go.Proofs.Ytahpknjligaliaa
