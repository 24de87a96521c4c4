/- Texts of this claim, gathered: Tdp, Told2, Draw, App, DrawL, DrawT. -/
import Derived.Test.YtfbnmkpkihfocaaK6
import Derived.Maps.AppendAt
import Derived.OrdersHeld
namespace Go.Proofs.Ytfbnmkpkihfocaa
set_option linter.unusedVariables false
theorem sum_add {α : Type} (f g : α → Nat) : ∀ H : List α, (H.map fun h => f h + g h).sum = (H.map f).sum + (H.map g).sum
  | [] => rfl
  | a :: t => by simp [sum_add f g t]; omega
theorem sum_ind {α : Type} (p : α → Bool) : ∀ H : List α, (H.map fun h => if p h then 1 else 0).sum = (H.filter p).length
  | [] => rfl
  | a :: t => by cases hp : p a <;> simp [hp, sum_ind p t]; omega
theorem sum_swap {α β : Type} (p : α → β → Bool) (H : List α) : ∀ L : List β, (H.map fun h => (L.filter (p h)).length).sum = (L.map fun y => (H.filter fun h => p h y).length).sum
  | [] => by
    simp only [List.filter_nil, List.length_nil, List.map_nil, List.sum_nil]
    induction H with
    | nil => rfl
    | cons a t ih => simp [ih]
  | y :: L => by
    have e : ∀ h, ((y :: L).filter (p h)).length = (if p h y then 1 else 0) + (L.filter (p h)).length := by
      intro h; cases hp : p h y <;> simp [hp]; omega
    simp only [e]
    rw [sum_add, sum_ind (fun h => p h y), sum_swap p H L]; simp
theorem sum_one {α : Type} (f : α → Nat) : ∀ L : List α, (∀ y ∈ L, f y = 1) → (L.map f).sum = L.length
  | [], _ => rfl
  | a :: t, h => by simp [h a (by simp), sum_one f t (fun y hy => h y (by simp [hy]))]; omega
theorem filter_eq_one {l : List Int} (hn : l.Nodup) {x : Int} (hx : x ∈ l) : (l.filter fun h => h == x).length = 1 := by
  induction l with
  | nil => simp at hx
  | cons a t ih =>
    rw [List.nodup_cons] at hn
    by_cases ha : a = x
    · subst ha
      have : (t.filter fun h => h == a) = [] := by
        rw [List.filter_eq_nil_iff]; intro y hy e
        simp at e; subst e; exact hn.1 hy
      simp [this]
    · have hx2 : x ∈ t := by
        rcases List.mem_cons.1 hx with e | e
        · exact absurd e.symm ha
        · exact e
      have hax : (a == x) = false := by simpa using ha
      simp [hax, ih hn.2 hx2]
theorem mem_grpOf {d l x y : Int} : y ∈ grpOf d l x ↔ y ∈ tenI ∧ shC d l (dg y) = shC d l (dg x) := by
  unfold grpOf digL
  rw [List.mem_filter]; simp
theorem grpOf_same {d l x y : Int} (h : y ∈ grpOf d l x) : grpOf d l y = grpOf d l x := by
  have := (mem_grpOf.1 h).2
  unfold grpOf; rw [this]
theorem grpOf_self {d l x : Int} (h : x ∈ tenI) : x ∈ grpOf d l x := mem_grpOf.2 ⟨h, rfl⟩
theorem headD_mem {xs : List Int} {x : Int} (h : x ∈ xs) : xs.headD (-1) ∈ xs := by cases xs <;> simp_all
def headsL (d l : Int) : List Int := tenI.filter (isHead d l)
theorem grpL_heads (d l : Int) : grpL d l = (headsL d l).map (grpOf d l) := rfl
theorem ten_nodup : tenI.Nodup := by decide
theorem one_head (d l : Int) {y : Int} (hy : y ∈ tenI) : ((headsL d l).filter fun h => shC d l (dg y) == shC d l (dg h)).length = 1 := by
  have h0 := headD_mem (grpOf_self (d := d) (l := l) hy)
  have hg := grpOf_same h0
  have e : (headsL d l).filter (fun h => shC d l (dg y) == shC d l (dg h)) = (headsL d l).filter fun h => h == (grpOf d l y).headD (-1) := by
    apply List.filter_congr
    intro h hh
    unfold headsL at hh
    rw [List.mem_filter] at hh
    have hH : (grpOf d l h).headD (-1) = h := by simpa [isHead] using hh.2
    rw [Bool.eq_iff_iff, beq_iff_eq, beq_iff_eq]
    constructor
    · intro e
      have : grpOf d l h = grpOf d l y := by unfold grpOf; rw [e]
      rw [← this, hH]
    · intro e
      subst e
      exact (mem_grpOf.1 h0).2.symm
  rw [e]
  refine filter_eq_one (ten_nodup.filter _) ?_
  rw [List.mem_filter]
  refine ⟨(mem_grpOf.1 h0).1, ?_⟩
  unfold isHead
  rw [hg]; simp
theorem grp_sum (d l : Int) : ((grpL d l).map List.length).sum = 10 := by
  rw [grpL_heads, List.map_map]
  have e : (List.length ∘ grpOf d l) = fun h => (tenI.filter fun y => shC d l (dg y) == shC d l (dg h)).length := rfl
  rw [e, sum_swap (fun h y => shC d l (dg y) == shC d l (dg h))]
  exact sum_one _ tenI (fun y hy => one_head d l hy)
theorem mem_grpL {d l : Int} {g : List Int} (h : g ∈ grpL d l) : 1 ≤ g.length ∧ ∀ e ∈ g, grpOf d l e = g := by
  rw [grpL_heads, List.mem_map] at h
  obtain ⟨x, hx, rfl⟩ := h
  unfold headsL at hx
  rw [List.mem_filter] at hx
  refine ⟨List.length_pos_of_mem (grpOf_self hx.1), fun e he => grpOf_same he⟩
theorem part_sum (G : List (List Int)) (h : ∀ g ∈ G, 1 ≤ g.length) :
    ((G.filter fun xs => xs.length == 1).length + ((G.filter cfF).map List.length).sum = (G.map List.length).sum) ∧
    ((G.filter fun xs => xs.length == 1).length + (G.filter cfF).length = G.length) ∧ 2 * (G.filter cfF).length ≤ ((G.filter cfF).map List.length).sum := by
  induction G with
  | nil => simp
  | cons g t ih =>
    obtain ⟨i1, i2, i3⟩ := ih (fun x hx => h x (by simp [hx]))
    have hg := h g (by simp)
    cases hq : (g.length == 1)
    · have hc : cfF g = true := by simp [cfF, hq]
      have : g.length ≠ 1 := by simpa using hq
      simp only [List.filter_cons, hq, hc, if_true, List.map_cons, List.sum_cons, List.length_cons]
      simp only [Bool.false_eq_true, if_false]
      omega
    · have hc : cfF g = false := by simp [cfF, hq]
      have : g.length = 1 := by simpa using hq
      simp only [List.filter_cons, hq, hc, if_true, List.map_cons, List.sum_cons, List.length_cons]
      simp only [Bool.false_eq_true, if_false]
      omega
theorem told_parts {d l : Int} (hf : faultB d l = true) :
    (tdL d l).length + ((cfL d l).map List.length).sum = 10 ∧ (grpL d l).length = (tdL d l).length + (cfL d l).length ∧ (decide ((grpL d l).length = 10) = decide ((tdL d l).length = 10)) := by
  obtain ⟨h1, h2, h3⟩ := part_sum (grpL d l) (fun g hg => (mem_grpL hg).1)
  have ht : (tdL d l).length = ((grpL d l).filter fun xs => xs.length == 1).length := by
    unfold tdL toldTo; rw [if_pos hf, List.take_length, List.length_map]
  have hc : cfL d l = (grpL d l).filter cfF := by unfold cfL; rw [if_pos hf]
  have hs := grp_sum d l
  rw [ht, hc]
  refine ⟨by omega, by omega, ?_⟩
  rw [decide_eq_decide]; omega
theorem cfL_two {d l : Int} {g : List Int} (h : g ∈ cfL d l) : 2 ≤ g.length ∧ ∀ e ∈ g, decide (e ∈ tdL d l) = false := by
  unfold cfL at h
  split at h
  · rename_i hf
    rw [List.mem_filter] at h
    have hm := mem_grpL h.1
    have h1 : g.length ≠ 1 := by have := h.2; simp [cfF] at this; exact this
    refine ⟨by omega, fun e he => decide_eq_false ?_⟩
    intro ht
    unfold tdL toldTo at ht
    rw [if_pos hf, List.take_length, List.mem_map] at ht
    obtain ⟨g', hg', e'⟩ := ht
    rw [List.mem_filter] at hg'
    have hl1 : g'.length = 1 := by simpa using hg'.2
    have hmem : e ∈ g' := by
      cases g' with
      | nil => simp at hl1
      | cons a t => simp at e'; subst e'; simp
    have e1 := (mem_grpL hg'.1).2 e hmem
    have e2 := hm.2 e he
    rw [e1] at e2; subst e2; exact h1 hl1
  · simp at h
theorem ds_has {d l c : Int} (h : scOk d l c = true) {x : Int} (h0 : 0 ≤ x) (h1 : x ≤ 9) : decide (x ∈ dsL d l c) = (shC d l (dg x) == c) := by
  unfold dsL; rw [if_pos h]
  unfold digL
  rw [Bool.eq_iff_iff, decide_eq_true_eq, List.mem_filter]
  have hx : x ∈ tenI := by
    obtain ⟨k, rfl⟩ := Int.eq_ofNat_of_zero_le h0
    exact List.mem_of_getElem? (tenI_at (k := k) (by omega))
  simp [hx]
theorem cnt_pos : ∀ n : Fin 128, cnt (n.1 : Int) = 0 → n.1 = 0 := by decide +kernel
theorem cnt_ge : ∀ n : Fin 128, 0 ≤ cnt (n.1 : Int) := by decide +kernel
theorem harm_zero : harmB (0, 0) = true := by decide
theorem qH_zero {f : Int × Int} (h : f ∈ allF (qH 0)) : f = (0, 0) := by
  obtain ⟨d, l, rfl, hd, hl, _, hq⟩ := mem_allF h
  unfold qH at hq
  rw [Bool.and_eq_true, beq_iff_eq] at hq
  have a := cnt_ge ⟨d, hd⟩; have b := cnt_ge ⟨l, hl⟩
  simp only at a b hq
  have e1 := cnt_pos ⟨d, hd⟩ (by simp only; omega)
  have e2 := cnt_pos ⟨l, hl⟩ (by simp only; omega)
  simp only at e1 e2
  subst e1 e2; rfl
theorem ch_zero : chN 0 = 1 := by
  have h1 : ∀ f ∈ allF (qH 0), f = (0, 0) := fun f hf => qH_zero hf
  have h2 : (allF (qH 0)).Pairwise befF := colF_asc _ _
  have h3 : ((0 : Int), (0 : Int)) ∈ allF (qH 0) := by
    unfold allF colF
    rw [List.mem_flatMap]
    refine ⟨0, by simp, ?_⟩
    unfold rowF
    rw [List.mem_map]
    refine ⟨0, ?_, rfl⟩
    rw [List.mem_filter]
    refine ⟨by simp, ?_⟩
    have hz : harmB (((0 : Nat) : Int), ((0 : Nat) : Int)) = true := harm_zero
    unfold qH
    rw [hz]; decide
  have h4 : (allF (qH 0)).length = 1 := by
    generalize allF (qH 0) = L at *
    cases L with
    | nil => simp at h3
    | cons a t =>
      cases t with
      | nil => rfl
      | cons b t =>
        exfalso
        have ha := h1 a (by simp); have hb := h1 b (by simp)
        rw [List.pairwise_cons] at h2
        have := h2.1 b (by simp)
        subst ha hb
        unfold befF at this; simp at this
  unfold chN
  rw [show chOk 0 = true by decide, if_pos rfl, h4]; rfl
theorem ch_last (size : Int) : chOk size = true → 0 ≤ chN size := by
  intro h; unfold chN; rw [if_pos h]; omega
def sumTo (C : List (List Int)) (k : Nat) : Nat := ((C.take k).map List.length).sum
theorem sumTo_succ {C : List (List Int)} {k : Nat} {g : List Int} (h : C[k]? = some g) : sumTo C (k + 1) = sumTo C k + g.length := by
  unfold sumTo; rw [take_snoc h]; simp
theorem sumTo_le (C : List (List Int)) (k : Nat) : sumTo C k ≤ (C.map List.length).sum := by
  unfold sumTo
  have : C = C.take k ++ C.drop k := (List.take_append_drop k C).symm
  have e : (C.map List.length).sum = ((C.take k).map List.length).sum + ((C.drop k).map List.length).sum := by
    rw [← List.sum_append, ← List.map_append, List.take_append_drop]
  omega
theorem told_facts {d l : Int} (hf : faultB d l = true) :
    (tdL d l).length + sumTo (cfL d l) (cfL d l).length = 10 ∧ (if faultB d l = true then ((grpL d l).length : Int) else 0) = ((tdL d l).length : Int) + ((cfL d l).length : Int) ∧ (faultB d l && decide ((grpL d l).length = 10)) = decide ((tdL d l).length = 10) ∧ (cfL d l).length ≤ 10 := by
  obtain ⟨h1, h2, h3⟩ := told_parts hf
  have h4 : (grpL d l).length ≤ 10 := grpTo_le _ _ _
  refine ⟨by unfold sumTo; rw [List.take_length]; exact h1, by rw [if_pos hf]; omega, by rw [hf, h3]; rfl, by omega⟩
theorem ds_facts {d l c : Int} (h : scOk d l c = true) {x : Int} (h0 : 0 ≤ x) (h1 : x ≤ 9) :
    scV d l (dg x) = .tuple #[.int .i64 (shC d l (dg x)), .bool true] ∧ coV x = .tuple #[.int .i64 (dg x), .bool true] ∧ decide (x ∈ dsL d l c) = (shC d l (dg x) == c) := by
  have hf : faultB d l = true := by unfold scOk at h; rw [Bool.and_eq_true] at h; exact h.1
  have hd := dg_bd x
  refine ⟨?_, ?_, ds_has h h0 h1⟩
  · unfold scV scOk; rw [hf, show cellB (dg x) = true from inB_mk hd.1 hd.2]; rfl
  · unfold coV; rw [show digitB x = true from inB_mk h0 h1]; rfl
theorem ch_facts {size : Int} (h : chOk size = true) : 0 ≤ chN size ∧ (0 < size ∨ chN size = 1) := by
  refine ⟨ch_last size h, ?_⟩
  have := inB_true h
  by_cases h0 : 0 < size
  · exact .inl h0
  · right
    obtain rfl : size = 0 := by omega
    exact ch_zero
end Go.Proofs.Ytfbnmkpkihfocaa
namespace Go.Proofs.Ytfbnmkpkihfocaa
open Go.RowKit
set_option linter.unusedVariables false
set_option linter.unusedSimpArgs false
set_option maxRecDepth 100000
/-- the parts of slices of slices of the call's own, with the bounds of their blocks -/
theorem OwnSS.partsB {w : World} {lo : Nat} {u : Value} {xss : List (List Int)} (h : OwnSS w lo u xss) : ∃ a c, u = .slice a xss.length c ∧ xss.length ≤ 9223372036854775807 ∧
    Hid (∀ (k : Nat) (xs : List Int), xss[k]? = some xs → ∃ b off a' c', a = some ⟨b, off, none⟩ ∧ lo ≤ b ∧ b < w.heap.size ∧ w.cell? ⟨b, off + k, none⟩ = some (.slice a' xs.length c') ∧ xs.length ≤ 9223372036854775807 ∧
      ∀ x, xs[0]? = some x → ∃ b2 o2, a' = some ⟨b2, o2, none⟩ ∧ lo ≤ b2 ∧ b2 < w.heap.size ∧ w.cell? ⟨b2, o2, none⟩ = some (.int .i64 x)) := by
  have hb := h
  obtain ⟨vs, ho, hi⟩ := h
  obtain ⟨a, c, e, hl, HP⟩ := hb.parts
  refine ⟨a, c, e, hl, fun k xs hk => ?_⟩
  obtain ⟨b, off, a', c', ea, hc, hxl, hI⟩ := HP.out k xs hk
  have hlt := ho.lt b (by rw [e, ea]; rfl)
  have hkl : k < vs.length := by rw [hi.1]; exact (List.getElem?_eq_some_iff.1 hk).1
  have hv : vs[k]? = some vs[k] := List.getElem?_eq_getElem hkl
  have hcell : w.cell? ⟨b, off + k, none⟩ = vs[k]? := by
    obtain ⟨a2, c2, e2, _, _, _, h4⟩ := Sl.of_own ho
    obtain ⟨b4, off4, e4, h5⟩ := h4 (by have := (List.getElem?_eq_some_iff.1 hk).1; omega)
    rw [e] at e2
    cases e2
    rw [ea] at e4
    cases e4
    exact h5 k (by have := (List.getElem?_eq_some_iff.1 hk).1; omega)
  have hvk : vs[k] = .slice a' xs.length c' := by
    rw [hcell, hv] at hc; exact Option.some.inj hc
  refine ⟨b, off, a', c', ea, hlt.1, hlt.2, hc, hxl, fun x hx => ?_⟩
  obtain ⟨a3, c3, e3, _, _, HI⟩ := hI.parts
  cases e3
  obtain ⟨b2, o2, e5, h6⟩ := HI.out 0 x hx
  have hin := (hi.2.1 k _ xs hv hk).lt b2 (by rw [hvk, e5]; rfl)
  exact ⟨b2, o2, e5, hin.1, hin.2, by simpa using h6⟩
theorem sToldDigits_c (d l : Int) (w : World) : Calls Try.prog 8 #[.agg #[.int .i64 d, .int .i64 l]] w (IntsPost w (tdL d l) (faultB d l)) := by
  obtain ⟨i, hi, hz0, hz1, hz2⟩ := info_parts info_int
  have B0 := Lib.hid ((Bk.new w 25 #[.int .i64 d, .int .i64 l]).alloc (.cells #[] 3))
  have HO : Hid (((w.alloc (.cells #[.int .i64 d, .int .i64 l] 25)).alloc (.cells #[] 3)).ownsRow w.heap.size 3 1 (.slice (some ⟨w.heap.size + 1, 0, none⟩) 0 0) 0 []) := by
    have := World.ownsRow_lit (e := 3) (size := 1) (base := w.heap.size) (w.alloc (.cells #[.int .i64 d, .int .i64 l] 25)) #[] 0 (by simp) (by decide) rfl
    rw [World.size_alloc] at this
    exact this
  have HB : Hid (Below w.heap.size w ((w.alloc (.cells #[.int .i64 d, .int .i64 l] 25)).alloc (.cells #[] 3))) := Below.alc (below_one _) _
  have hs0 : ((w.alloc (.cells #[.int .i64 d, .int .i64 l] 25)).alloc (.cells #[] 3)).heap.size = w.heap.size + 2 := by simp
  rcases ha : faultB d l with _ | _
  · have HL := Lib.hid (show tdL d l = [] by simp [tdL, ha])
    have HA := Lib.hid ha; clear ha
    go_enter Try.func8, Try.ntmps8
    go_wp2_with fail
    refine (l3Fault_c d l _).mono ?_
    rintro e w1 ⟨rfl, hb1⟩
    rw [HA.out]
    have ho1 := Lib.hid (own_keep HO.out hb1)
    have hb2 := Lib.hid (HB.out.trans (hb1.mono HB.out.size))
    clear hb1
    go_wp2
    go_ret2
    exact IntsPost.mk' HL.out rfl ho1.out hb2.out
  · have HL := Lib.hid (show tdL d l = toldTo (grpL d l) (grpL d l).length by simp [tdL, ha])
    have bd := faultB_true ha
    have HA := Lib.hid ha; clear ha
    go_enter Try.func8, Try.ntmps8
    go_wp2_with fail
    refine (l3Fault_c d l _).mono ?_
    rintro e w1 ⟨rfl, hb1⟩
    rw [HA.out]
    have ho1 := Lib.hid (own_keep HO.out hb1)
    have hb2 := Lib.hid (HB.out.trans (hb1.mono HB.out.size))
    have q0 : w1.cell? ⟨w.heap.size, 0, none⟩ = some (.int .i64 d) := (B0.out.below hb1).cell 0
    have q1 : w1.cell? ⟨w.heap.size, 1, none⟩ = some (.int .i64 l) := (B0.out.below hb1).cell 1
    have hs1 : w.heap.size + 2 ≤ w1.heap.size := by have := hb1.size; omega
    clear hb1 B0 HO HB hs0
    go_wp2_with fail
    refine (l3Groups_c d l _ bd.1 bd.2.1 bd.2.2.1 bd.2.2.2.1).mono ?_
    rintro e w2 ⟨u, rfl, ho, hb3⟩
    have hb4 := Lib.hid (Below.chain hb2.out hb3)
    have ho2 := Lib.hid (own_keep ho1.out hb3)
    have hs2 : w1.heap.size ≤ w2.heap.size := hb3.size
    clear hb3 hb2 q0 q1 ho1
    have h10 : (grpL d l).length ≤ 10 := grpTo_le _ _ _
    have HN : Hid (∀ (k : Nat) (xs : List Int), (grpL d l)[k]? = some xs → 0 < xs.length) := fun k xs h => grpL_pos h
    generalize grpL d l = xss at *
    obtain ⟨a, c, rfl, hxl, HC⟩ := ho.partsB
    clear ho
    go_wp2
    go_loopw [4, 6] (fun o j wr => ∃ k : Nat, k ≤ xss.length ∧ j = .int .i64 (k : Int) ∧ Hid (wr.ownsRow w.heap.size 3 1 o (toldTo xss k).length ((toldTo xss k).map (Value.int .i64))) ∧ Hid (Below w.heap.size w wr) ∧ Hid (∀ g, o.ownBlock = some g → g < w1.heap.size ∨ w2.heap.size ≤ g) ∧ Hid (w2.heap.size ≤ wr.heap.size) ∧ Hid (∀ (b o : Nat) (x : Value), w1.heap.size ≤ b → b < w2.heap.size → w2.cell? ⟨b, o, none⟩ = some x → wr.cell? ⟨b, o, none⟩ = some x)) (fun _ j _ => xss.length - (intOf j).toNat)
    case atStart => exact ⟨0, by omega, rfl, ho2, hb4, (fun g hg => by simp [Value.ownBlock] at hg; omega), Nat.le_refl _, fun _ _ _ _ _ h => h⟩
    case round =>
      obtain ⟨k, hk, rfl, HO, HBr, HD, HZ, HK⟩ := hrel
      clear hb4 ho2
      by_cases hlt : k < xss.length
      · have hd : decide ((k : Int) < (xss.length : Int)) = true := by simp; omega
        obtain ⟨xs, hx⟩ := elem_at hlt
        obtain ⟨b, off, a', c', rfl, hbl, hbh, f0, hxsl, HX⟩ := HC.out k xs hx.out
        have hpos := HN.out k xs hx.out
        obtain ⟨x0, hx0⟩ := elem_at hpos
        obtain ⟨b3, o3, rfl, hbl3, hbh3, f1⟩ := HX x0 hx0.out
        have hhd : xs.headD 0 = x0 := headD_of hx0.out
        have g0 := HK.out _ _ _ hbl hbh f0
        have g1 := HK.out _ _ _ hbl3 hbh3 f1
        have hS := toldTo_succ hx.out
        have hle := toldTo_le xss k
        rw [hhd] at hS
        generalize toldTo xss k = cur at *
        have HS := Lib.hid hS; clear hS f0 f1 HX hhd hx hx0
        rcases hq : xs.length == 1 with _ | _
        · have hq1 : decide ((xs.length : Int) = 1) = false := by simp at hq ⊢; omega
          have HS2 := Lib.hid (show toldTo xss (k + 1) = cur by rw [HS.out, hq]; simp)
          clear HS
          go_wp2
          go_roundw
          case rel => exact ⟨k + 1, by omega, by go_num, by rw [HS2.out]; exact HO, HBr, HD, HZ, HK⟩
          case measure => simp [intOf]; omega
        · have hq1 : decide ((xs.length : Int) = 1) = true := by simp at hq ⊢; omega
          have HS2 := Lib.hid (show toldTo xss (k + 1) = cur ++ [x0] by rw [HS.out, hq]; simp)
          clear HS
          go_wp2_with (at_builtin; refine wpList_append_own_at _ rfl _ _ 27 rfl w.heap.size 3 i (.int .i64 0) 1 8 Try.underlying27 hi hz0 hz1 hz2 rfl (by decide) _ cur.length (cur.map (Value.int .i64)) rfl (HO.out.alloc _) ⟨wr.heap.size, 0, none⟩ 1 1 [.int .i64 x0] rfl rfl (news_new _ [.int .i64 x0] _) (by simp [Value.oneCell']) (by unfold maxLen; omega) (by omega) (by have := HBr.out.size; simp; omega) ?_)
          intro v' w3 ho5 hg5 _ hat
          have HB3 := Lib.hid ((Below.alc HBr.out _).grown hg5 (by have := HBr.out.size; simp; omega) (fun g hg => ((HO.out.alloc (.cells #[.int .i64 x0] 3)).lt g hg).1))
          have HZ3 : Hid (w2.heap.size ≤ w3.heap.size) := by have h1 := hg5.size; have h2 := HZ.out; (try simp only [World.size_alloc] at h1); exact Nat.le_trans h2 (by omega)
          have HD3 : Hid (∀ g, v'.ownBlock = some g → g < w1.heap.size ∨ w2.heap.size ≤ g) := by
            intro g hg
            rcases hat with e | e
            · exact HD.out g (by rw [← e]; exact hg)
            · rw [e] at hg
              simp only [Option.some.injEq] at hg
              have := HZ.out
              (try simp only [World.size_alloc] at hg); omega
          have HK3 : Hid (∀ (b o : Nat) (x : Value), w1.heap.size ≤ b → b < w2.heap.size → w2.cell? ⟨b, o, none⟩ = some x → w3.cell? ⟨b, o, none⟩ = some x) := by
            intro b o x h1 h2 h3
            refine hg5.cell (cell_later (below_one _) (HK.out b o x h1 h2 h3)) (fun e => ?_)
            have := HD.out b e.symm
            omega
          have HO3 := Lib.hid ho5
          clear ho5 hg5 hat
          go_wp2
          go_roundw
          case rel => exact ⟨k + 1, by omega, by go_num, by rw [HS2.out]; exact ownsRow_cast HO3.out (by simp) (ints_snoc _ _).symm, HB3, HD3, HZ3, HK3⟩
          case measure => simp [intOf]; omega
      · obtain rfl : k = xss.length := by omega
        have hd : decide ((xss.length : Int) < (xss.length : Int)) = false := by simp
        go_wp2
        go_ret2
        exact IntsPost.mk' HL.out rfl HO.out HBr.out
end Go.Proofs.Ytfbnmkpkihfocaa
namespace Go.Proofs.Ytfbnmkpkihfocaa
open Go.RowKit
set_option linter.unusedVariables false
set_option linter.unusedSimpArgs false
set_option maxRecDepth 100000

theorem cell_c (g m : Nat) (w : World) (h : CurAt w g m) (hm : m + 20 < 4611686018427387904) :
    Calls Try.prog 57 #[.pointer (some ⟨g, 0, none⟩)] w (DrawI w g (m + 20) fun _ => True) := by
  have HC := Lib.hid h
  clear h
  go_enter Try.func57, Try.ntmps57
  go_wp2_with fail
  refine (pick_c 40 g m _ HC.out (by omega)).mono ?_
  rintro e w1 ⟨x, rfl, hx, hs⟩
  have HS := Lib.hid hs
  clear hs hx
  have A1 := Lib.hid (fun xs hp hl => amongL_c xs g (m + 2) w1 _ rfl HS.out.cur (by omega) hp hl)
  have O1 := Lib.hid (fun n => one_c n g (m + 2) w1 HS.out.cur (by omega))
  by_cases e0 : x = 0
  · subst e0
    go_wp2_with fail
    refine (A1.out [-1, 128, 4611686018427387904] (by decide) (by decide)).mono ?_
    rintro e w2 ⟨y, rfl, hy, hs⟩
    have HS2 := Lib.hid (HS.out.trans hs)
    clear hs hy
    go_wp2
    go_ret
    exact ⟨_, rfl, trivial, HS2.out.mono (by omega)⟩
  · by_cases e1 : x = 1 ∨ x = 2 ∨ x = 3
    · rcases e1 with rfl | rfl | rfl <;>
      · go_wp2_with fail
        refine (A1.out [0, 127, 64] (by decide) (by decide)).mono ?_
        rintro e w2 ⟨y, rfl, hy, hs⟩
        have HS2 := Lib.hid (HS.out.trans hs)
        clear hs hy
        go_wp2
        go_ret
        exact ⟨_, rfl, trivial, HS2.out.mono (by omega)⟩
    · have e1' : ¬ x = 1 := fun h => e1 (.inl h)
      have e2' : ¬ x = 2 := fun h => e1 (.inr (.inl h))
      have e3' : ¬ x = 3 := fun h => e1 (.inr (.inr h))
      clear e1
      go_wp2_with fail
      refine (O1.out 3).mono ?_
      rintro e w2 ⟨b, rfl, hs⟩
      have HS2 := Lib.hid (HS.out.trans hs)
      clear hs
      cases b with
      | true =>
        go_wp2_with fail
        refine (pick_c 128 g (m + 4) _ HS2.out.cur (by omega)).mono ?_
        rintro e w3 ⟨y, rfl, hy, hs⟩
        have HS3 := Lib.hid (HS2.out.trans hs)
        clear hs hy
        go_wp2
        go_ret
        exact ⟨_, rfl, trivial, HS3.out.mono (by omega)⟩
      | false =>
        go_wp2_with fail
        refine (pick_c 10 g (m + 4) _ HS2.out.cur (by omega)).mono ?_
        rintro e w3 ⟨y, rfl, hy, hs⟩
        have HS3 := Lib.hid (HS2.out.trans hs)
        have y0 := hy.1
        have y1 := hy.2 (by omega)
        clear hs hy
        go_wp2_with fail
        refine (l2Digit_c y y0 (by omega) _).mono ?_
        rintro e w4 ⟨rfl, hb⟩
        have HS4 := Lib.hid (HS3.out.below hb)
        clear hb
        go_wp2_with fail
        refine (one_c 5 g (m + 6) _ HS4.out.cur (by omega)).mono ?_
        rintro e w5 ⟨b, rfl, hs⟩
        have HS5 := Lib.hid (HS4.out.trans hs)
        clear hs
        cases b with
        | false =>
          go_wp2
          go_ret
          exact ⟨_, rfl, trivial, HS5.out.mono (by omega)⟩
        | true =>
          go_wp2_with fail
          refine (pick_c 7 g (m + 8) _ HS5.out.cur (by omega)).mono ?_
          rintro e w6 ⟨z, rfl, hz, hs⟩
          have HS6 := Lib.hid (HS5.out.trans hs)
          obtain ⟨k, rfl⟩ := Int.eq_ofNat_of_zero_le hz.1
          have z1 : k < 7 := by have := hz.2 (by omega); omega
          clear hs hz
          go_wp2
          go_ret
          exact ⟨_, rfl, trivial, HS6.out.mono (by omega)⟩

/-- What a draw of a slice of ints gives. -/
def DrawS (w : World) (g m n : Nat) (e : Ending) (w' : World) : Prop :=
  ∃ (v : Value) (xs : List Int), e = .returned v ∧ xs.length ≤ n ∧ w'.ownsRow w.heap.size 3 1 v xs.length (xs.map (Value.int .i64)) ∧ CStep w w' g m
theorem DrawS.mono {w : World} {g m m' n n' : Nat} {e : Ending} {w' : World} (h : DrawS w g m n e w') (hm : m ≤ m') (hn : n ≤ n') : DrawS w g m' n' e w' := by
  obtain ⟨v, xs, h1, h2, h3, h4⟩ := h
  exact ⟨v, xs, h1, by omega, h3, h4.mono hm⟩
/-- behind an append to a row of the call's own -/
theorem CStep.grown {a b c : World} {g m : Nat} {r : Option Nat} (h : CStep a b g m) (hg : b.grownBy c r) (hga : g < a.heap.size) (hr : ∀ k, r = some k → a.heap.size ≤ k) : CStep a c g m :=
  ⟨⟨hg.os.trans h.gr.os, hg.tape.trans h.gr.tape, hg.output.trans h.gr.output, Nat.le_trans h.gr.size hg.size, fun i hi hne => (hg.block i (Nat.lt_of_lt_of_le hi h.gr.size) (fun e => by
    have := hr i e.symm; omega)).trans (h.gr.block i hi hne)⟩, h.cur.grown hg (fun k hk => by have := hr k hk; omega)⟩
theorem row_start (w : World) (lo : Nat) (h : lo ≤ w.heap.size) : (w.alloc (.cells #[] 3)).ownsRow lo 3 1 (.slice (some ⟨w.heap.size, 0, none⟩) 0 0) ([] : List Int).length (([] : List Int).map (Value.int .i64)) :=
  World.ownsRow_lit (e := 3) (size := 1) (base := lo) w #[] 0 h (by decide) rfl
set_option maxHeartbeats 1000000 in
theorem row_c (g m : Nat) (w : World) (h : CurAt w g m) (hm : m + 150 < 4611686018427387904) :
    Calls Try.prog 71 #[.pointer (some ⟨g, 0, none⟩)] w (DrawS w g (m + 150) 7) := by
  have HC := Lib.hid h
  have hga := h.lt
  obtain ⟨i, hi, hz0, hz1, hz2⟩ := info_parts info_int
  have HO := Lib.hid (row_start w w.heap.size (Nat.le_refl _))
  clear h
  go_enter Try.func71, Try.ntmps71
  go_wp2_with fail
  refine (amongL_c [2, 3, 1, 4, 6, 0, 5, 2, 3] g m _ _ (by simp) (HC.out.alloc (.cells #[] 3)) (by omega) (by decide) (by decide)).mono ?_
  rintro e w1 ⟨x, rfl, hx, hs⟩
  have HS := Lib.hid ((((CStep.refl HC.out).alloc (.cells #[] 3)).trans hs))
  have ho := hs.row HO.out hga
  obtain ⟨x0, x1⟩ : 0 ≤ x ∧ x ≤ 6 := by
    simp only [List.mem_cons, List.not_mem_nil, or_false] at hx; omega
  obtain ⟨k, rfl⟩ := Int.eq_ofNat_of_zero_le x0
  have hk : k ≤ 6 := by omega
  clear hs hx x0 x1 HO
  go_wp2
  go_loopw [3, 4] (fun o j wr => ∃ (k : Nat) (xs : List Int), k ≤ 6 ∧ j = .int .i64 (k : Int) ∧ xs.length + k ≤ 6 ∧ wr.ownsRow w.heap.size 3 1 o xs.length (xs.map (Value.int .i64)) ∧ CStep w wr g (m + 2 + 20 * (6 - k))) (fun _ j _ => (intOf j).toNat)
  case atStart => exact ⟨k, [], hk, rfl, by simpa using hk, ho, HS.out.mono (by omega)⟩
  case round =>
    obtain ⟨k, xs, hk, rfl, hl, ho, hs⟩ := hrel
    have HS := Lib.hid hs
    have HO := Lib.hid ho
    clear hs ho
    by_cases hk0 : 0 < k
    · have hd : decide (0 < (k : Int)) = true := by simp; omega
      go_wp2_with fail
      refine (cell_c g _ _ HS.out.cur (by omega)).mono ?_
      rintro e w2 ⟨x, rfl, _, hs⟩
      have HS2 := Lib.hid (HS.out.trans hs)
      have HO2 := Lib.hid (hs.row HO.out hga)
      clear hs
      go_wp2_with (at_builtin; refine wpList_append_own_at _ rfl _ _ 27 rfl w.heap.size 3 i (.int .i64 0) 1 8 Try.underlying27 hi hz0 hz1 hz2 rfl (by decide) _ xs.length (xs.map (Value.int .i64)) rfl (HO2.out.alloc _) ⟨w2.heap.size, 0, none⟩ 1 1 [.int .i64 x] rfl rfl (news_new _ [.int .i64 x] _) (by simp [Value.oneCell']) (by unfold maxLen; omega) (by omega) (by have := HS2.out.gr.size; simp; omega) ?_)
      intro v' w3 ho5 hg5 _ _
      have HS3 := Lib.hid ((HS2.out.alloc _).grown hg5 hga (fun k hk => ((HO2.out.alloc (.cells #[.int .i64 x] 3)).lt k hk).1))
      have HO3 := Lib.hid ho5
      clear ho5 hg5
      go_wp2
      go_roundw
      case rel => exact ⟨k - 1, xs ++ [x], by omega, by go_num, by simp; omega, ownsRow_cast HO3.out (by simp) (ints_snoc _ _).symm, HS3.out.mono (by omega)⟩
      case measure => simp [intOf]; omega
    · obtain rfl : k = 0 := by omega
      clear hk0
      go_wp2_with fail
      refine (one_c 40 g _ _ HS.out.cur (by omega)).mono ?_
      rintro e w2 ⟨b, rfl, hs⟩
      have HS2 := Lib.hid (HS.out.trans hs)
      have HO2 := Lib.hid (hs.row HO.out hga)
      clear hs
      cases b with
      | false =>
        go_wp2
        go_ret
        exact ⟨_, xs, rfl, by omega, HO2.out, HS2.out.mono (by omega)⟩
      | true =>
        go_wp2
        go_ret
        exact ⟨_, [6, 6, 6, 6, 6, 6, 6], rfl, by decide, World.ownsRow_lit (e := 3) (size := 1) (base := w.heap.size) w2 #[.int .i64 6, .int .i64 6, .int .i64 6, .int .i64 6, .int .i64 6, .int .i64 6, .int .i64 6] 7 HS2.out.gr.size (by decide) rfl, (HS2.out.alloc _).mono (by omega)⟩
set_option maxHeartbeats 1000000 in
theorem digits_d (g m : Nat) (w : World) (h : CurAt w g m) (hm : m + 200 < 4611686018427387904) :
    Calls Try.prog 93 #[.pointer (some ⟨g, 0, none⟩)] w (DrawS w g (m + 200) 7) := by
  have HC := Lib.hid h
  have hga := h.lt
  obtain ⟨i, hi, hz0, hz1, hz2⟩ := info_parts info_int
  clear h
  go_enter Try.func93, Try.ntmps93
  go_wp2_with fail
  refine (one_c 6 g m _ HC.out (by omega)).mono ?_
  rintro e w1 ⟨b, rfl, hs⟩
  have HS := Lib.hid hs
  clear hs
  cases b with
  | true =>
    go_wp2_with fail
    refine (row_c g (m + 2) _ HS.out.cur (by omega)).mono ?_
    rintro e w2 ⟨v, xs, rfl, hl, ho, hs⟩
    have HS2 := Lib.hid (HS.out.trans hs)
    have HO2 := Lib.hid (own_lo ho HS.out.gr.size)
    clear hs ho
    go_wp2
    go_ret
    exact ⟨_, xs, rfl, hl, HO2.out, HS2.out.mono (by omega)⟩
  | false =>
    have HO := Lib.hid (row_start w1 w.heap.size HS.out.gr.size)
    have HS1 := Lib.hid (HS.out.alloc (.cells #[] 3))
    go_wp2_with fail
    refine (amongL_c [2, 3, 1, 4, 6] g (m + 2) _ _ (by simp) HS1.out.cur (by omega) (by decide) (by decide)).mono ?_
    rintro e w2 ⟨x, rfl, hx, hs⟩
    have HS2 := Lib.hid (HS1.out.trans hs)
    have ho := hs.row HO.out hga
    obtain ⟨x0, x1⟩ : 0 ≤ x ∧ x ≤ 6 := by
      simp only [List.mem_cons, List.not_mem_nil, or_false] at hx; omega
    obtain ⟨k, rfl⟩ := Int.eq_ofNat_of_zero_le x0
    have hk : k ≤ 6 := by omega
    clear hs hx x0 x1 HO HS1 HS
    go_wp2
    go_loopw [3, 4] (fun o j wr => ∃ (k : Nat) (xs : List Int), k ≤ 6 ∧ j = .int .i64 (k : Int) ∧ xs.length + k ≤ 6 ∧ wr.ownsRow w.heap.size 3 1 o xs.length (xs.map (Value.int .i64)) ∧ CStep w wr g (m + 4 + 20 * (6 - k))) (fun _ j _ => (intOf j).toNat)
    case atStart => exact ⟨k, [], hk, rfl, by simpa using hk, ho, HS2.out.mono (by omega)⟩
    case round =>
      obtain ⟨k, xs, hk, rfl, hl, ho, hs⟩ := hrel
      have HS := Lib.hid hs
      have HO := Lib.hid ho
      clear hs ho
      by_cases hk0 : 0 < k
      · have hd : decide (0 < (k : Int)) = true := by simp; omega
        go_wp2_with fail
        refine (amongL_c [0, 1, 2, 5, 6, 8, 9, 3, 4, 7] g _ _ _ (by simp) HS.out.cur (by omega) (by decide) (by decide)).mono ?_
        rintro e w2 ⟨x, rfl, hx, hs⟩
        obtain ⟨x0, x1⟩ : 0 ≤ x ∧ x ≤ 9 := by
          simp only [List.mem_cons, List.not_mem_nil, or_false] at hx; omega
        have HS2 := Lib.hid (HS.out.trans hs)
        have HO2 := Lib.hid (hs.row HO.out hga)
        clear hs hx
        go_wp2_with fail
        refine (l2Digit_c x x0 x1 _).mono ?_
        rintro e w3 ⟨rfl, hb⟩
        have HS3 := Lib.hid (HS2.out.below hb)
        have HO3 := Lib.hid (own_keep HO2.out hb)
        clear hb
        go_wp2_with (at_builtin; refine wpList_append_own_at _ rfl _ _ 27 rfl w.heap.size 3 i (.int .i64 0) 1 8 Try.underlying27 hi hz0 hz1 hz2 rfl (by decide) _ xs.length (xs.map (Value.int .i64)) rfl (HO3.out.alloc _) ⟨w3.heap.size, 0, none⟩ 1 1 [.int .i64 (dg x)] rfl rfl (news_new _ [.int .i64 (dg x)] _) (by simp [Value.oneCell']) (by unfold maxLen; omega) (by omega) (by have := HS3.out.gr.size; simp; omega) ?_)
        intro v' w4 ho5 hg5 _ _
        have HS4 := Lib.hid ((HS3.out.alloc _).grown hg5 hga (fun k hk => ((HO3.out.alloc (.cells #[.int .i64 (dg x)] 3)).lt k hk).1))
        have HO4 := Lib.hid ho5
        clear ho5 hg5
        go_wp2
        go_roundw
        case rel => exact ⟨k - 1, xs ++ [dg x], by omega, by go_num, by simp; omega, ownsRow_cast HO4.out (by simp) (ints_snoc _ _).symm, HS4.out.mono (by omega)⟩
        case measure => simp [intOf]; omega
      · obtain rfl : k = 0 := by omega
        clear hk0
        go_wp2
        go_ret
        exact ⟨_, xs, rfl, by omega, HO.out, HS.out.mono (by omega)⟩
/-- What a draw of a Fault gives. -/
def DrawF (w : World) (g m : Nat) (e : Ending) (w' : World) : Prop := ∃ d l : Int, e = .returned (.agg #[.int .i64 d, .int .i64 l]) ∧ CStep w w' g m
theorem CStep.store {a b : World} {g m : Nat} (h : CStep a b g m) (hga : g < a.heap.size) {p : Addr} (hp : a.heap.size ≤ p.block) (v : Value) : CStep a (b.setCell p v) g m :=
  ⟨⟨h.gr.os, h.gr.tape, h.gr.output, by have := h.gr.size; simp [World.setCell]; exact this, fun k hk hne => (Below.heap_setCell _ _ _ _ (by omega)).trans (h.gr.block k hk hne)⟩, h.cur.blocks fun k hk => Below.heap_setCell _ _ _ _ (by omega)⟩
theorem Bk.step {a b : World} {g m k t : Nat} {cs : Array Value} (h : Bk a k t cs) (hs : CStep a b g m) (hk : k ≠ g) : Bk b k t cs := h.keep (hs.gr.block k h.lt (fun e => hk (by cases e; rfl)))
theorem two_res {W : World} {b t : Nat} {a c : Value} (h : Bk W b t #[a, c]) (X Y : Value) :
    ((W.setCell ⟨b, 0, none⟩ X).setCell ⟨b, 1, none⟩ Y).cell? ⟨b, 0, none⟩ = some X ∧ ((W.setCell ⟨b, 0, none⟩ X).setCell ⟨b, 1, none⟩ Y).cell? ⟨b, 1, none⟩ = some Y := by
  have h2 := (h.set 0 X).set 1 Y
  exact ⟨h2.cell 0, h2.cell 1⟩
set_option maxHeartbeats 1000000 in
theorem fault3_c (g m : Nat) (w : World) (h : CurAt w g m) (hm : m + 30 < 4611686018427387904) :
    Calls Try.prog 52 #[.pointer (some ⟨g, 0, none⟩)] w (DrawF w g (m + 30)) := by
  have hga := h.lt
  have B0 := Lib.hid (Bk.new w 25 #[.int .i64 0, .int .i64 0])
  have B1 := Lib.hid (Bk.new (w.alloc (.cells #[.int .i64 0, .int .i64 0] 25)) 25 #[.int .i64 0, .int .i64 0])
  have HC := Lib.hid ((((CStep.refl h).alloc (.cells #[.int .i64 0, .int .i64 0] 25)).alloc (.cells #[.int .i64 0, .int .i64 0] 25)))
  clear h
  go_enter Try.func52, Try.ntmps52
  go_wp2_with fail
  refine (amongL_c [1, 2, 0, 3, 1, 5] g m _ _ (by simp) HC.out.cur (by omega) (by decide) (by decide)).mono ?_
  rintro e w1 ⟨x, rfl, hx, hs⟩
  have HS := Lib.hid (HC.out.trans hs)
  have b0 : Bk w1 w.heap.size 25 #[.int .i64 0, .int .i64 0] := (B0.out.alloc _).step hs (by omega)
  have b1 := B1.out.step hs (by simp; omega)
  rw [World.size_alloc] at b1
  obtain ⟨x0, x1⟩ : 0 ≤ x ∧ x ≤ 5 := by
    simp only [List.mem_cons, List.not_mem_nil, or_false] at hx; omega
  obtain ⟨k, rfl⟩ := Int.eq_ofNat_of_zero_le x0
  have hk : k ≤ 5 := by omega
  clear hs hx x0 x1 HC B0 B1
  go_wp2
  go_loopw [4] (fun j wr => ∃ (k : Nat) (d l : Int), k ≤ 5 ∧ j = .int .i64 (k : Int) ∧ Bk wr (w.heap.size + 1) 25 #[.int .i64 d, .int .i64 l] ∧ Bk wr w.heap.size 25 #[.int .i64 0, .int .i64 0] ∧ CStep w wr g (m + 2 + 4 * (5 - k))) (fun j _ => (intOf j).toNat)
  case atStart => exact ⟨k, 0, 0, hk, rfl, b1, b0, HS.out.mono (by omega)⟩
  case round =>
    obtain ⟨k, d, l, hk, rfl, b1, b0, hs⟩ := hrel
    have HS := Lib.hid hs
    have B0 := Lib.hid b0
    have B1 := Lib.hid b1
    clear hs b0 b1
    by_cases hk0 : 0 < k
    · have hd : decide (0 < (k : Int)) = true := by simp; omega
      go_wp2_with fail
      refine (pick_c 7 g _ _ HS.out.cur (by omega)).mono ?_
      rintro e w2 ⟨x, rfl, hx, hs⟩
      obtain ⟨b, rfl⟩ := Int.eq_ofNat_of_zero_le hx.1
      have z1 : b < 7 := by have := hx.2 (by omega); omega
      have HS2 := Lib.hid (HS.out.trans hs)
      have B02 := Lib.hid (B0.out.step hs (by omega))
      have B12 := Lib.hid (B1.out.step hs (by omega))
      have r0 : w2.cell? ⟨w.heap.size + 1, 0, none⟩ = some (.int .i64 d) := B12.out.cell 0
      have r1 : w2.cell? ⟨w.heap.size + 1, 1, none⟩ = some (.int .i64 l) := B12.out.cell 1
      clear hs hx B0 B1 HS
      rcases hq : (bits BinOp.and IntKind.i64 (bits BinOp.or IntKind.i64 d l) (wrap64 (2 ^ b)) != 0) with _ | _
      · go_wp2_with fail
        refine (one_c 3 g _ _ HS2.out.cur (by omega)).mono ?_
        rintro e w3 ⟨t, rfl, hs⟩
        have HS3 := Lib.hid (HS2.out.trans hs)
        have B03 := Lib.hid (B02.out.step hs (by omega))
        have B13 := Lib.hid (B12.out.step hs (by omega))
        have r0 : w3.cell? ⟨w.heap.size + 1, 0, none⟩ = some (.int .i64 d) := B13.out.cell 0
        have r1 : w3.cell? ⟨w.heap.size + 1, 1, none⟩ = some (.int .i64 l) := B13.out.cell 1
        have f0 : w3.frozen? ⟨w.heap.size + 1, 0, none⟩ = false := B13.out.frozen 0
        have f1 : w3.frozen? ⟨w.heap.size + 1, 1, none⟩ = false := B13.out.frozen 1
        clear hs B02 B12
        cases t with
        | true =>
          go_wp2
          go_roundw
          case rel => exact ⟨k - 1, _, _, by omega, by go_num, B13.out.set 1 _, B03.out.other (by simp) _, (HS3.out.store hga (by simp) _).mono (by omega)⟩
          case measure => simp [intOf]; omega
        | false =>
          go_wp2
          go_roundw
          case rel => exact ⟨k - 1, _, _, by omega, by go_num, B13.out.set 0 _, B03.out.other (by simp) _, (HS3.out.store hga (by simp) _).mono (by omega)⟩
          case measure => simp [intOf]; omega
      · go_wp2
        go_roundw
        case rel => exact ⟨k - 1, _, _, by omega, by go_num, B12.out, B02.out, HS2.out.mono (by omega)⟩
        case measure => simp [intOf]; omega
    · obtain rfl : k = 0 := by omega
      clear hk0
      go_wp2_with fail
      refine (pick_c 50 g _ _ HS.out.cur (by omega)).mono ?_
      rintro e w2 ⟨x, rfl, hx, hs⟩
      have HS2 := Lib.hid (HS.out.trans hs)
      have B02 := Lib.hid (B0.out.step hs (by omega))
      have B12 := Lib.hid (B1.out.step hs (by omega))
      clear hs hx B0 B1 HS
      by_cases e0 : x = 0
      · subst e0
        go_wp2_with fail
        refine (amongL_c [-1, 128, 127] g _ _ _ (by simp) HS2.out.cur (by omega) (by decide) (by decide)).mono ?_
        rintro e w3 ⟨y, rfl, hy, hs⟩
        have HS3 := Lib.hid (HS2.out.trans hs)
        have B03 := Lib.hid (B02.out.step hs (by omega))
        have B13 := Lib.hid (B12.out.step hs (by omega))
        have q0 : w3.cell? ⟨w.heap.size, 0, none⟩ = some (.int .i64 0) := B03.out.cell 0
        have q1 : w3.cell? ⟨w.heap.size, 1, none⟩ = some (.int .i64 0) := B03.out.cell 1
        have r0 : w3.cell? ⟨w.heap.size + 1, 0, none⟩ = some (.int .i64 d) := B13.out.cell 0
        have r1 : w3.cell? ⟨w.heap.size + 1, 1, none⟩ = some (.int .i64 l) := B13.out.cell 1
        have f0 : w3.frozen? ⟨w.heap.size + 1, 0, none⟩ = false := B13.out.frozen 0
        have g0 : w3.frozen? ⟨w.heap.size, 0, none⟩ = false := B03.out.frozen 0
        have g1 : w3.frozen? ⟨w.heap.size, 1, none⟩ = false := B03.out.frozen 1
        clear hs hy B02 B12
        go_wp2
        have CS : CStep w (w3.setCell ⟨w.heap.size + 1, 0, none⟩ (.int .i64 y)) g (m + 30) := (HS3.out.store hga (by simp) _).mono (by omega)
        obtain ⟨z0, z1⟩ := two_res (B03.out.other (p := ⟨w.heap.size + 1, 0, none⟩) (by simp) (.int .i64 y)) (.int .i64 y) (.int .i64 l)
        exact bodyPost_ret (v := .agg #[(.int .i64 y), (.int .i64 l)]) (by simp [results, Try.results52, go_sem, z0, z1]) rfl ⟨_, _, rfl, (CS.store hga (by simp) _).store hga (by simp) _⟩
      · by_cases e1 : x = 1
        · subst e1
          go_wp2_with fail
          refine (amongL_c [-1, 128, 127] g _ _ _ (by simp) HS2.out.cur (by omega) (by decide) (by decide)).mono ?_
          rintro e w3 ⟨y, rfl, hy, hs⟩
          have HS3 := Lib.hid (HS2.out.trans hs)
          have B03 := Lib.hid (B02.out.step hs (by omega))
          have B13 := Lib.hid (B12.out.step hs (by omega))
          have q0 : w3.cell? ⟨w.heap.size, 0, none⟩ = some (.int .i64 0) := B03.out.cell 0
          have q1 : w3.cell? ⟨w.heap.size, 1, none⟩ = some (.int .i64 0) := B03.out.cell 1
          have r0 : w3.cell? ⟨w.heap.size + 1, 0, none⟩ = some (.int .i64 d) := B13.out.cell 0
          have r1 : w3.cell? ⟨w.heap.size + 1, 1, none⟩ = some (.int .i64 l) := B13.out.cell 1
          have f1 : w3.frozen? ⟨w.heap.size + 1, 1, none⟩ = false := B13.out.frozen 1
          have g0 : w3.frozen? ⟨w.heap.size, 0, none⟩ = false := B03.out.frozen 0
          have g1 : w3.frozen? ⟨w.heap.size, 1, none⟩ = false := B03.out.frozen 1
          clear hs hy B02 B12
          go_wp2
          have CS : CStep w (w3.setCell ⟨w.heap.size + 1, 1, none⟩ (.int .i64 y)) g (m + 30) := (HS3.out.store hga (by simp) _).mono (by omega)
          obtain ⟨z0, z1⟩ := two_res (B03.out.other (p := ⟨w.heap.size + 1, 1, none⟩) (by simp) (.int .i64 y)) (.int .i64 d) (.int .i64 y)
          exact bodyPost_ret (v := .agg #[(.int .i64 d), (.int .i64 y)]) (by simp [results, Try.results52, go_sem, z0, z1]) rfl ⟨_, _, rfl, (CS.store hga (by simp) _).store hga (by simp) _⟩
        · have q0 : w2.cell? ⟨w.heap.size, 0, none⟩ = some (.int .i64 0) := B02.out.cell 0
          have q1 : w2.cell? ⟨w.heap.size, 1, none⟩ = some (.int .i64 0) := B02.out.cell 1
          have r0 : w2.cell? ⟨w.heap.size + 1, 0, none⟩ = some (.int .i64 d) := B12.out.cell 0
          have r1 : w2.cell? ⟨w.heap.size + 1, 1, none⟩ = some (.int .i64 l) := B12.out.cell 1
          have g0 : w2.frozen? ⟨w.heap.size, 0, none⟩ = false := B02.out.frozen 0
          have g1 : w2.frozen? ⟨w.heap.size, 1, none⟩ = false := B02.out.frozen 1
          go_wp2
          have CS : CStep w w2 g (m + 30) := HS2.out.mono (by omega)
          obtain ⟨z0, z1⟩ := two_res (B02.out) (.int .i64 d) (.int .i64 l)
          exact bodyPost_ret (v := .agg #[(.int .i64 d), (.int .i64 l)]) (by simp [results, Try.results52, go_sem, z0, z1]) rfl ⟨_, _, rfl, (CS.store hga (by simp) _).store hga (by simp) _⟩
end Go.Proofs.Ytfbnmkpkihfocaa
namespace Go.Proofs.Ytfbnmkpkihfocaa
open Go.RowKit
set_option linter.unusedVariables false
section
variable {P : Program} {w : World}
theorem step_append_at {ops : Array Oper} {o : Oper} {a : Act} {K : Act → World → Prop} {Q : Exit → Act → World → Prop} {E : Prop} (hgd : o.guard = none) (s x : Operand) (t : TypeId)
    (ho : o.op = .call { callee := .builtin .append, args := #[s, x], argTypes := #[t, t] })
    (base : Nat) (e : TypeId) (i : TypeInfo) (z : Value) (size bytes : Nat) (ht : P.underlying t = some (.slice e)) (hi : P.info? e = some i) (hz : i.zero = some z)
    (hsize : i.size = size) (hby : i.bytes = bytes) (hzs : z.cells.size = size) (hsz : 0 < size)
    (v : Value) (n : Nat) (xs : List Value) (hs : a.eval s = v) (hown : w.ownsRow base e size v n xs)
    (ad : Addr) (m c : Nat) (news : List Value) (hx : a.eval x = .slice (some ad) m c) (hl : news.length = m * size) (hnews : ∀ j u, news[j]? = some u → w.cell? (ad.add j) = some u) (h1 : ∀ u ∈ news, u.oneCell' = true)
    (h63 : n + m ≤ maxLen) (hbytes : (n + m) * bytes ≤ 140737488355328) (hbase : base ≤ w.heap.size)
    (h : ∀ v' w', w'.ownsRow base e size v' (n + m) (xs ++ news) → w.grownBy w' v.ownBlock → (v'.ownBlock = v.ownBlock ∨ v'.ownBlock = some w.heap.size) → K (a.put o.dst v') w') :
    if Region.wanted o (yielded ops a.tmps) = true then Oper.wp P o a w K Q else E := by
  have hw : Region.wanted o (yielded ops a.tmps) = true := by simp [Region.wanted, hgd]
  rw [if_pos hw]
  obtain ⟨v', w', hr, h2, h3, _, h5⟩ := run_append_own_at (P := P) (w := w) base t o.type e i z size bytes ht hi hz hsize hby hzs hsz v n xs hown ad m c news hl hnews h1 h63 hbytes hbase
  unfold Oper.wp execOp
  simp only [ho, resolve, invoke, builtin, Sem.run_bind, Sem.run_pure, Result.andThen_ok, List.map_toArray, List.map_cons, List.map_nil, hs, hx, hr]
  exact h v' w' h2 h3 h5
end
theorem own_take {w : World} {lo g cap n : Nat} {e : TypeId} {l : List Int} (h : w.ownsRow lo e 1 (.slice (some ⟨g, 0, none⟩) n cap) n (ints l)) (k : Nat) : ∀ j u, (ints (l.take k))[j]? = some u → w.cell? ((⟨g, 0, none⟩ : Addr).add j) = some u := by
  intro j u hu
  rw [Addr.add_lit, Nat.zero_add]
  have hlen : (ints l).length = n * 1 := h.1
  have hu2 : (ints l)[j]? = some u := by
    simp only [ints, List.map_take, List.getElem?_take] at hu ⊢
    split at hu
    · exact hu
    · cases hu
  have hj := (List.getElem?_eq_some_iff.1 hu2).1
  rw [h.cellAt j (by omega)]; exact hu2
theorem own_drop {w : World} {lo g cap n : Nat} {e : TypeId} {l : List Int} (h : w.ownsRow lo e 1 (.slice (some ⟨g, 0, none⟩) n cap) n (ints l)) (k : Nat) : ∀ j u, (ints (l.drop k))[j]? = some u → w.cell? ((⟨g, k, none⟩ : Addr).add j) = some u := by
  intro j u hu
  rw [Addr.add_lit]
  have hlen : (ints l).length = n * 1 := h.1
  have hu2 : (ints l)[k + j]? = some u := by simpa [ints, List.map_drop] using hu
  have hj := (List.getElem?_eq_some_iff.1 hu2).1
  rw [h.cellAt (k + j) (by omega)]; exact hu2
end Go.Proofs.Ytfbnmkpkihfocaa
namespace Go.Proofs.Ytfbnmkpkihfocaa
open Go.RowKit
set_option linter.unusedVariables false
set_option linter.unusedSimpArgs false
set_option maxRecDepth 100000

/-- What a draw of a slice of Faults gives. -/
def DrawP (w : World) (g m n : Nat) (e : Ending) (w' : World) : Prop :=
  ∃ (v : Value) (ps : List (Int × Int)), e = .returned v ∧ ps.length ≤ n ∧ Pairs w' v ps ∧ v.ownBlock ≠ some g ∧ CStep w w' g m
theorem own_block_ne {w : World} {lo g : Nat} {e : TypeId} {size n : Nat} {v : Value} {xs : List Value} (h : w.ownsRow lo e size v n xs) (hg : g < lo) : v.ownBlock ≠ some g := by
  rcases h.2 with ⟨rfl, _⟩ | ⟨k, cap, cur, rfl, hb, _⟩
  · simp [Value.ownBlock]
  · simp [Value.ownBlock]; omega
/-- the row without its first pair -/
theorem pairs_tail {w : World} {lo g cap : Nat} {p : Int × Int} {ps : List (Int × Int)} (h : w.ownsRow lo 25 2 (.slice (some ⟨g, 0, none⟩) (ps.length + 1) cap) (ps.length + 1) (flat2 (p :: ps))) (hc : cap ≤ 9223372036854775807) (hn : ps.length + 1 ≤ cap) :
    Pairs w (.slice (some ⟨g, 2, none⟩) ps.length (cap - 1)) ps := by
  refine ⟨_, _, rfl, by omega, by unfold maxLen; omega, ?_, fun _ => ⟨g, 2, rfl, fun j hj => ?_⟩⟩
  · have := h.1; simp [flat2] at this ⊢; omega
  · rw [h.cellAt (2 + j) (by omega)]
    rw [show 2 + j = j + 1 + 1 by omega]; rfl
theorem pairs_none {w : World} {a : Option Addr} {c : Nat} (hc : c ≤ 9223372036854775807) : Pairs w (.slice a 0 c) [] := ⟨a, c, rfl, Nat.zero_le _, by unfold maxLen; omega, rfl, fun h => absurd h (by decide)⟩
theorem own_setCell {w : World} {lo : Nat} {e : TypeId} {size n : Nat} {v : Value} {xs : List Value} (h : w.ownsRow lo e size v n xs) {p : Addr} (hp : v.ownBlock ≠ some p.block) (x : Value) : (w.setCell p x).ownsRow lo e size v n xs :=
  h.kept (row := some p.block) ⟨rfl, rfl, rfl, by simp [World.setCell], fun k hk hne => Below.heap_setCell _ _ _ _ (fun e => hne (by rw [e]))⟩ (.inr hp)
end Go.Proofs.Ytfbnmkpkihfocaa
namespace Go.Proofs.Ytfbnmkpkihfocaa
open Go.RowKit
set_option linter.unusedVariables false
set_option linter.unusedSimpArgs false
set_option maxRecDepth 100000
def lenOf : Value → Nat
  | .slice _ n _ => n
  | _ => 0
theorem ints_take {w : World} {a : Option Addr} {c : Nat} {xs : List Int} (h : Ints w (.slice a xs.length c) xs) (n : Nat) (hn : n ≤ xs.length) : Ints w (.slice a n c) (xs.take n) := by
  obtain ⟨a', c', e, h1, h2, h3, h4⟩ := h
  cases e
  have hl : (xs.take n).length = n := by rw [List.length_take]; omega
  refine ⟨a, c, by rw [hl], by rw [hl]; omega, h2, by rw [List.length_map, Nat.mul_one], fun hn0 => ?_⟩
  rw [hl] at hn0 ⊢
  obtain ⟨b, off, e, hc⟩ := h4 (by omega)
  refine ⟨b, off, e, fun j hj => ?_⟩
  rw [hc j (by omega), List.map_take, List.getElem?_take, if_pos (by omega)]
/-- one of the first numbers of those that are written where they are asked for, a few more now and then -/
theorem amongT_c (xs : List Int) (n : Nat) (b g m : Nat) (w : World) (h : CurAt w g m) (hm : m + 2 < 4611686018427387904) (hv : Ints w (.slice (some ⟨b, 0, none⟩) xs.length xs.length) xs) (hne : b ≠ g) (hn0 : 0 < n) (hn : n ≤ xs.length) :
    Calls Try.prog 62 #[.pointer (some ⟨g, 0, none⟩), .slice (some ⟨b, 0, none⟩) n xs.length] w (DrawI w g (m + 2) fun x => x ∈ xs) :=
  (among_c _ (xs.take n) g m _ h hm (ints_take hv n hn) (by simpa [Value.ownBlock] using hne) (by rw [List.length_take]; omega)).mono fun e w' ⟨x, he, hx, hs⟩ => ⟨x, he, List.mem_of_mem_take hx, hs⟩
theorem div11 {x : Int} (h0 : 0 ≤ x) (h1 : x < 24) : Int.tdiv x 11 = 0 ∨ Int.tdiv x 11 = 1 ∨ Int.tdiv x 11 = 2 := by
  rw [Int.tdiv_eq_ediv_of_nonneg h0]; omega
end Go.Proofs.Ytfbnmkpkihfocaa
