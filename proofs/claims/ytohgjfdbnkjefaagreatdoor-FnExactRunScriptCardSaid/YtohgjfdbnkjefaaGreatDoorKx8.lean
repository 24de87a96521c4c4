/- Texts of this claim, gathered: Shows, Tdp, Csd, Vless, Dnp. -/
import Derived.Test.YtohgjfdbnkjefaaGreatDoorKx7
namespace Go.Proofs.YtohgjfdbnkjefaaGreatDoor
open Go.RowKit
set_option linter.unusedVariables false
set_option linter.unusedSimpArgs false
set_option maxRecDepth 100000
def scOk (d l c : Int) : Bool := faultB d l && cellB c
def dsL (d l c : Int) : List Int := if scOk d l c then digL d l c else []
theorem sDigitsShown_c (d l c : Int) (w : World) : Calls Tryz.prog 231 #[.agg #[.int .i64 d, .int .i64 l], .int .i64 c] w (IntsPost w (dsL d l c) (scOk d l c)) := by
 rcases hq : faultB d l with _ | _
 · have HL := Lib.hid (show dsL d l c = [] by simp [dsL, scOk, hq])
   have HB := Lib.hid (show scOk d l c = false by simp [scOk, hq])
   have HQ := Lib.hid hq; clear hq
   go_enter Tryz.func231, Tryz.ntmps231
   go_wp2_with fail
   refine (l3Fault_c d l _).mono ?_
   rintro e w1 ⟨rfl, hb1⟩
   rw [HQ.out]
   have hb2 := Below.chain (below_one _) hb1
   clear hb1
   go_wp2
   go_ret2
   exact IntsPost.mk' HL.out HB.out (own_lo (World.ownsRow_lit (e := 3) (size := 1) (base := w1.heap.size) w1 #[] 0 (Nat.le_refl _) (by decide) rfl) hb2.size) (by (repeat (first | exact Below.refl _ _ | exact (Below.refl _ _).drew | assumption | exact below_one _ | refine Below.chain ?_ (by assumption) | refine Below.drew ?_ | refine Below.alc ?_ _ | refine below_drewN ?_ | (refine Below.setCell ?_ ?_ _) | exact Nat.le_refl _ | (simp; done) | (simp; omega))))
 · rcases hc : cellB c with _ | _
   · have HL := Lib.hid (show dsL d l c = [] by simp [dsL, scOk, hc])
     have HB := Lib.hid (show scOk d l c = false by simp [scOk, hc])
     have HQ := Lib.hid hq; clear hq
     have HC := Lib.hid hc; clear hc
     go_enter Tryz.func231, Tryz.ntmps231
     go_wp2_with fail
     refine (l3Fault_c d l _).mono ?_
     rintro e w1 ⟨rfl, hb1⟩
     rw [HQ.out]
     have hb2 := Below.chain (below_one _) hb1
     clear hb1
     go_wp2_with fail
     refine (l2Cell_c c _).mono ?_
     rintro e w1 ⟨rfl, rfl⟩
     rw [HC.out]
     go_wp2
     go_ret2
     exact IntsPost.mk' HL.out HB.out (own_lo (World.ownsRow_lit (e := 3) (size := 1) (base := w1.heap.size) w1 #[] 0 (Nat.le_refl _) (by decide) rfl) hb2.size) (by (repeat (first | exact Below.refl _ _ | exact (Below.refl _ _).drew | assumption | exact below_one _ | refine Below.chain ?_ (by assumption) | refine Below.drew ?_ | refine Below.alc ?_ _ | refine below_drewN ?_ | (refine Below.setCell ?_ ?_ _) | exact Nat.le_refl _ | (simp; done) | (simp; omega))))
   · have HL := Lib.hid (show dsL d l c = digL d l c by simp [dsL, scOk, hc, hq])
     have HB := Lib.hid (show scOk d l c = true by simp [scOk, hc, hq])
     have bd := faultB_true hq
     have HQ := Lib.hid hq; clear hq
     have HC := Lib.hid hc; clear hc
     go_enter Tryz.func231, Tryz.ntmps231
     go_wp2_with fail
     refine (l3Fault_c d l _).mono ?_
     rintro e w1 ⟨rfl, hb1⟩
     rw [HQ.out]
     have q0 := (box_after hb1).1 0 _ rfl
     have q1 := (box_after hb1).1 1 _ rfl
     have hb2 := Below.chain (below_one _) hb1
     clear hb1
     go_wp2_with fail
     refine (l2Cell_c c _).mono ?_
     rintro e w1 ⟨rfl, rfl⟩
     rw [HC.out]
     go_wp2_with fail
     refine (l3Digits_c d l c _ bd.1 bd.2.1 bd.2.2.1 bd.2.2.2.1).mono ?_
     rintro e w3 ⟨u, rfl, ho, hb3⟩
     have hb4 := Below.chain hb2 hb3
     have ho2 := own_lo ho hb2.size
     clear ho hb3
     go_wp2
     go_ret2
     exact IntsPost.mk' HL.out HB.out ho2 hb4
def ciV (d l : Int) : Value := .tuple #[.int .i64 (if faultB d l then ((grpL d l).length : Int) else 0), .bool (faultB d l)]
def ihV (d l : Int) : Value := .tuple #[.bool (faultB d l && decide ((grpL d l).length = 10)), .bool (faultB d l)]
theorem sCountImages_c (d l : Int) (w : World) : Calls Tryz.prog 233 #[.agg #[.int .i64 d, .int .i64 l]] w fun e w' => e = .returned (ciV d l) ∧ Below w.heap.size w w' := by
 rcases hq : faultB d l with _ | _
 · have HF := Lib.hid (show ciV d l = .tuple #[.int .i64 0, .bool false] by simp [ciV, hq])
   have HQ := Lib.hid hq; clear hq
   go_enter Tryz.func233, Tryz.ntmps233
   go_wp2_with fail
   refine (l3Fault_c d l _).mono ?_
   rintro e w1 ⟨rfl, hb1⟩
   rw [HQ.out]
   have hb2 := Below.chain (below_one _) hb1
   clear hb1
   go_wp2
   go_ret2
   exact ⟨by rw [HF.out]; rfl, by (repeat (first | exact Below.refl _ _ | exact (Below.refl _ _).drew | assumption | exact below_one _ | refine Below.chain ?_ (by assumption) | refine Below.drew ?_ | refine Below.alc ?_ _ | refine below_drewN ?_ | (refine Below.setCell ?_ ?_ _) | exact Nat.le_refl _ | (simp; done) | (simp; omega)))⟩
 · have HF := Lib.hid (show ciV d l = .tuple #[.int .i64 (grpL d l).length, .bool true] by simp [ciV, hq])
   have bd := faultB_true hq
   have HQ := Lib.hid hq; clear hq
   go_enter Tryz.func233, Tryz.ntmps233
   go_wp2_with fail
   refine (l3Fault_c d l _).mono ?_
   rintro e w1 ⟨rfl, hb1⟩
   rw [HQ.out]
   have q0 := (box_after hb1).1 0 _ rfl
   have q1 := (box_after hb1).1 1 _ rfl
   have hb2 := Below.chain (below_one _) hb1
   clear hb1
   go_wp2_with fail
   refine (l3Groups_c d l _ bd.1 bd.2.1 bd.2.2.1 bd.2.2.2.1).mono ?_
   rintro e w3 ⟨u, rfl, ho, hb3⟩
   have hb4 := Below.chain hb2 hb3
   obtain ⟨vs, hov, hin⟩ := ho
   have hl := hin.1
   obtain ⟨a, c, rfl, hmx⟩ := (Sl.of_own hov).slice
   clear hin hov hb3
   go_wp2
   go_ret2
   exact ⟨by rw [HF.out]; rfl, by (repeat (first | exact Below.refl _ _ | exact (Below.refl _ _).drew | assumption | exact below_one _ | refine Below.chain ?_ (by assumption) | refine Below.drew ?_ | refine Below.alc ?_ _ | refine below_drewN ?_ | (refine Below.setCell ?_ ?_ _) | exact Nat.le_refl _ | (simp; done) | (simp; omega)))⟩
theorem sCountImagesH_c (d l : Int) (w : World) : Calls Tryz.prog 234 #[.agg #[.int .i64 d, .int .i64 l]] w fun e w' => e = .returned (ihV d l) ∧ Below w.heap.size w w' := by
 rcases hq : faultB d l with _ | _
 · have HF := Lib.hid (show ihV d l = .tuple #[.bool false, .bool false] by simp [ihV, hq])
   have HQ := Lib.hid hq; clear hq
   go_enter Tryz.func234, Tryz.ntmps234
   go_wp2_with fail
   refine (l3Fault_c d l _).mono ?_
   rintro e w1 ⟨rfl, hb1⟩
   rw [HQ.out]
   have hb2 := Below.chain (below_one _) hb1
   clear hb1
   go_wp2
   go_ret2
   exact ⟨by rw [HF.out]; rfl, by (repeat (first | exact Below.refl _ _ | exact (Below.refl _ _).drew | assumption | exact below_one _ | refine Below.chain ?_ (by assumption) | refine Below.drew ?_ | refine Below.alc ?_ _ | refine below_drewN ?_ | (refine Below.setCell ?_ ?_ _) | exact Nat.le_refl _ | (simp; done) | (simp; omega)))⟩
 · have HF := Lib.hid (show ihV d l = .tuple #[.bool (decide ((grpL d l).length = 10)), .bool true] by simp [ihV, hq])
   have bd := faultB_true hq
   have HQ := Lib.hid hq; clear hq
   go_enter Tryz.func234, Tryz.ntmps234
   go_wp2_with fail
   refine (l3Fault_c d l _).mono ?_
   rintro e w1 ⟨rfl, hb1⟩
   rw [HQ.out]
   have q0 := (box_after hb1).1 0 _ rfl
   have q1 := (box_after hb1).1 1 _ rfl
   have hb2 := Below.chain (below_one _) hb1
   clear hb1
   go_wp2_with fail
   refine (l3Groups_c d l _ bd.1 bd.2.1 bd.2.2.1 bd.2.2.2.1).mono ?_
   rintro e w3 ⟨u, rfl, ho, hb3⟩
   have hb4 := Below.chain hb2 hb3
   obtain ⟨vs, hov, hin⟩ := ho
   have hl := hin.1
   obtain ⟨a, c, rfl, hmx⟩ := (Sl.of_own hov).slice
   clear hin hov hb3
   go_wp2
   go_ret2
   exact ⟨by rw [HF.out]; exact congrArg (fun b => Ending.returned (.tuple #[.bool b, .bool true])) (by rw [Bool.eq_iff_iff]; simp; omega), by (repeat (first | exact Below.refl _ _ | exact (Below.refl _ _).drew | assumption | exact below_one _ | refine Below.chain ?_ (by assumption) | refine Below.drew ?_ | refine Below.alc ?_ _ | refine below_drewN ?_ | (refine Below.setCell ?_ ?_ _) | exact Nat.le_refl _ | (simp; done) | (simp; omega)))⟩
theorem sum_add {α : Type} (f g : α → Nat) : ∀ H : List α, (H.map fun h => f h + g h).sum = (H.map f).sum + (H.map g).sum
 | [] => rfl
 | a :: t => by simp [sum_add f g t]; omega
theorem sum_ind {α : Type} (p : α → Bool) : ∀ H : List α, (H.map fun h => if p h then 1 else 0).sum = (H.filter p).length
 | [] => rfl
 | a :: t => by cases hp : p a <;> simp [hp, sum_ind p t]; omega
theorem sum_swap {α β : Type} (p : α → β → Bool) (H : List α) : ∀ L : List β, (H.map fun h => (L.filter (p h)).length).sum = (L.map fun y => (H.filter fun h => p h y).length).sum
 | [] => by
  simp only [List.filter_nil, List.length_nil, List.map_nil, List.sum_nil]
  induction H with
  | nil => rfl
  | cons a t ih => simp [ih]
 | y :: L => by
  have e : ∀ h, ((y :: L).filter (p h)).length = (if p h y then 1 else 0) + (L.filter (p h)).length := by
   intro h; cases hp : p h y <;> simp [hp]; omega
  simp only [e]
  rw [sum_add, sum_ind (fun h => p h y), sum_swap p H L]; simp
theorem sum_one {α : Type} (f : α → Nat) : ∀ L : List α, (∀ y ∈ L, f y = 1) → (L.map f).sum = L.length
 | [], _ => rfl
 | a :: t, h => by simp [h a (by simp), sum_one f t (fun y hy => h y (by simp [hy]))]; omega
theorem filter_eq_one {l : List Int} (hn : l.Nodup) {x : Int} (hx : x ∈ l) : (l.filter fun h => h == x).length = 1 := by
 induction l with
 | nil => simp at hx
 | cons a t ih =>
  rw [List.nodup_cons] at hn
  by_cases ha : a = x
  · subst ha
    have : (t.filter fun h => h == a) = [] := by
     rw [List.filter_eq_nil_iff]; intro y hy e
     simp at e; subst e; exact hn.1 hy
    simp [this]
  · have hx2 : x ∈ t := by
     rcases List.mem_cons.1 hx with e | e
     · exact absurd e.symm ha
     · exact e
    have hax : (a == x) = false := by simpa using ha
    simp [hax, ih hn.2 hx2]
theorem mem_grpOf {d l x y : Int} : y ∈ grpOf d l x ↔ y ∈ tenI ∧ shC d l (dg y) = shC d l (dg x) := by
 unfold grpOf digL
 rw [List.mem_filter]; simp
theorem grpOf_same {d l x y : Int} (h : y ∈ grpOf d l x) : grpOf d l y = grpOf d l x := by
 have := (mem_grpOf.1 h).2
 unfold grpOf; rw [this]
theorem grpOf_self {d l x : Int} (h : x ∈ tenI) : x ∈ grpOf d l x := mem_grpOf.2 ⟨h, rfl⟩
theorem headD_mem {xs : List Int} {x : Int} (h : x ∈ xs) : xs.headD (-1) ∈ xs := by cases xs <;> simp_all
def headsL (d l : Int) : List Int := tenI.filter (isHead d l)
theorem grpL_heads (d l : Int) : grpL d l = (headsL d l).map (grpOf d l) := rfl
theorem ten_nodup : tenI.Nodup := by decide
theorem one_head (d l : Int) {y : Int} (hy : y ∈ tenI) : ((headsL d l).filter fun h => shC d l (dg y) == shC d l (dg h)).length = 1 := by
 have h0 := headD_mem (grpOf_self (d := d) (l := l) hy)
 have hg := grpOf_same h0
 have e : (headsL d l).filter (fun h => shC d l (dg y) == shC d l (dg h)) = (headsL d l).filter fun h => h == (grpOf d l y).headD (-1) := by
  apply List.filter_congr
  intro h hh
  unfold headsL at hh
  rw [List.mem_filter] at hh
  have hH : (grpOf d l h).headD (-1) = h := by simpa [isHead] using hh.2
  rw [Bool.eq_iff_iff, beq_iff_eq, beq_iff_eq]
  constructor
  · intro e
    have : grpOf d l h = grpOf d l y := by unfold grpOf; rw [e]
    rw [← this, hH]
  · intro e
    subst e
    exact (mem_grpOf.1 h0).2.symm
 rw [e]
 refine filter_eq_one (ten_nodup.filter _) ?_
 rw [List.mem_filter]
 refine ⟨(mem_grpOf.1 h0).1, ?_⟩
 unfold isHead
 rw [hg]; simp
theorem grp_sum (d l : Int) : ((grpL d l).map List.length).sum = 10 := by
 rw [grpL_heads, List.map_map]
 have e : (List.length ∘ grpOf d l) = fun h => (tenI.filter fun y => shC d l (dg y) == shC d l (dg h)).length := rfl
 rw [e, sum_swap (fun h y => shC d l (dg y) == shC d l (dg h))]
 exact sum_one _ tenI (fun y hy => one_head d l hy)
def sqTo (xss : List (List Int)) (k : Nat) : Nat := ((xss.take k).map fun g => g.length * g.length).sum
theorem sqTo_succ {xss : List (List Int)} {k : Nat} {g : List Int} (h : xss[k]? = some g) : sqTo xss (k + 1) = sqTo xss k + g.length * g.length := by
 unfold sqTo; rw [take_snoc h]; simp
theorem sq_le : ∀ xs : List (List Int), (xs.map fun g => g.length * g.length).sum ≤ (xs.map List.length).sum * (xs.map List.length).sum
 | [] => by simp
 | g :: t => by
  simp only [List.map_cons, List.sum_cons]
  have := sq_le t
  generalize (t.map List.length).sum = s at *
  generalize (t.map fun g => g.length * g.length).sum = q at *
  generalize g.length = n
  rw [Nat.add_mul, Nat.mul_add, Nat.mul_add]
  omega
theorem take_sum : ∀ (xs : List (List Int)) (k : Nat), ((xs.take k).map List.length).sum ≤ (xs.map List.length).sum
 | [], k => by simp
 | g :: t, 0 => by simp
 | g :: t, k + 1 => by
  simp only [List.take_succ_cons, List.map_cons, List.sum_cons]
  have := take_sum t k
  omega
theorem sqTo_le (d l : Int) (k : Nat) : sqTo (grpL d l) k ≤ 100 := by
 have h1 := sq_le ((grpL d l).take k)
 have h2 := take_sum (grpL d l) k
 rw [grp_sum] at h2
 have h3 := Nat.mul_le_mul h2 h2
 unfold sqTo
 omega
theorem grp_ten {d l : Int} {k : Nat} {g : List Int} (h : (grpL d l)[k]? = some g) : g.length ≤ 10 := by
 have h1 := sqTo_succ h
 have h2 := sqTo_le d l (k + 1)
 by_cases hg : g.length ≤ 10
 · exact hg
 · have := Nat.mul_le_mul (show 11 ≤ g.length by omega) (show 11 ≤ g.length by omega)
   omega
def csS (d l : Int) : Nat := sqTo (grpL d l) (grpL d l).length
def csV (d l : Int) : Value := .tuple #[if faultB d l then fracV (csS d l) 100 else .agg #[.int .i64 0, .int .i64 0], .bool (faultB d l)]
set_option maxHeartbeats 2000000 in
theorem ChanceSameDigit_c (d l : Int) (w : World) : Calls Tryz.prog 202 #[.agg #[.int .i64 d, .int .i64 l]] w fun e w' => e = .returned (csV d l) ∧ Below w.heap.size w w' := by
 have X0 := Lib.hid ((Bk.new w 46 #[.int .i64 d, .int .i64 l]).alloc (.cells #[.int .i64 0, .int .i64 0] 174))
 have b0 := Bk.new (w.alloc (.cells #[.int .i64 d, .int .i64 l] 46)) 174 #[.int .i64 0, .int .i64 0]
 rw [World.size_alloc] at b0
 have B0 := Lib.hid b0
 clear b0
 have HB0 : Hid (Below w.heap.size w ((w.alloc (.cells #[.int .i64 d, .int .i64 l] 46)).alloc (.cells #[.int .i64 0, .int .i64 0] 174))) := Below.alc (below_one _) _
 obtain ⟨q0, q1⟩ : ((w.alloc (.cells #[.int .i64 d, .int .i64 l] 46)).alloc (.cells #[.int .i64 0, .int .i64 0] 174)).cell? ⟨w.heap.size, 0, none⟩ = some (.int .i64 d) ∧ ((w.alloc (.cells #[.int .i64 d, .int .i64 l] 46)).alloc (.cells #[.int .i64 0, .int .i64 0] 174)).cell? ⟨w.heap.size, 1, none⟩ = some (.int .i64 l) := ⟨X0.out.cell 0, X0.out.cell 1⟩
 rcases hq : faultB d l with _ | _
 · have HF := Lib.hid (show csV d l = .tuple #[.agg #[.int .i64 0, .int .i64 0], .bool false] by simp [csV, hq])
   have HQ := Lib.hid hq; clear hq
   go_enter Tryz.func202, Tryz.ntmps202
   go_wp2_with fail
   refine (IsFault_c d l _).mono ?_
   rintro e w1 ⟨rfl, hb1⟩
   rw [HQ.out]
   have B1 := B0.out.below hb1
   have e0 : w1.cell? ⟨w.heap.size + 1, 0, none⟩ = some (.int .i64 0) := B1.cell 0
   have e1 : w1.cell? ⟨w.heap.size + 1, 1, none⟩ = some (.int .i64 0) := B1.cell 1
   have f0 := B1.frozen 0
   have f1 := B1.frozen 1
   have HB1 := Lib.hid (Below.chain HB0.out hb1)
   obtain ⟨u0, u1, hb7⟩ := two_set (.int .i64 0) (.int .i64 0) e0 e1 HB1.out (by omega)
   clear hb1 B1
   go_wp2
   clear e0 e1 f0 f1
   generalize (World.setCell (World.setCell _ _ _) _ _) = w3 at *
   refine bodyPost_ret (v := csV d l) (by rw [HF.out]; simp [results, Tryz.results202, go_sem, u0, u1]) rfl ⟨rfl, hb7⟩
 · have HF := Lib.hid (show csV d l = .tuple #[fracV (csS d l) 100, .bool true] by simp [csV, hq])
   have HQ := Lib.hid hq
   obtain ⟨d0, d1, l0, l1, _⟩ := faultB_true hq
   clear hq
   have HS : Hid (csS d l = sqTo (grpL d l) (grpL d l).length) := rfl
   have HSL := Lib.hid (fun k => sqTo_le d l k)
   have HGT := Lib.hid (fun k g (h : (grpL d l)[k]? = some g) => grp_ten h)
   have HGR := Lib.hid (fun w => groups_c d l w d0 d1 l0 l1)
   generalize csS d l = S at *
   generalize grpL d l = xss at *
   go_enter Tryz.func202, Tryz.ntmps202
   go_wp2_with fail
   refine (IsFault_c d l _).mono ?_
   rintro e w1 ⟨rfl, hb1⟩
   rw [HQ.out]
   have B1 := Lib.hid (B0.out.below hb1)
   have X1 := X0.out.below hb1
   obtain ⟨q2, q3⟩ : w1.cell? ⟨w.heap.size, 0, none⟩ = some (.int .i64 d) ∧ w1.cell? ⟨w.heap.size, 1, none⟩ = some (.int .i64 l) := ⟨X1.cell 0, X1.cell 1⟩
   have HB1 := Lib.hid (Below.chain HB0.out hb1)
   clear hb1 X1 q0 q1 B0 X0 HB0
   go_wp2_with fail
   refine (HGR.out _).mono ?_
   rintro e w2 ⟨u, rfl, ho, hb2⟩
   have B2 := Lib.hid (B1.out.below hb2)
   have HB2 := Lib.hid (Below.chain HB1.out hb2)
   obtain ⟨a, c, rfl, hxl, HC⟩ := ho.parts
   clear hb2 B1 HB1 q2 q3 ho HGR
   go_wp2
   go_loopw [4, 14] (fun s j wr => ∃ k : Nat, k ≤ xss.length ∧ j = .int .i64 (k : Int) ∧ s = .int .i64 ((sqTo xss k : Nat) : Int) ∧ Hid (Below w2.heap.size w2 wr)) (fun _ j _ => xss.length - (intOf j).toNat)
   case atStart => exact ⟨0, by omega, rfl, rfl, Below.refl _ _⟩
   case round =>
    obtain ⟨k, hk, rfl, rfl, HBr⟩ := hrel
    by_cases hlt : k < xss.length
    · have hdd : decide ((k : Int) < (xss.length : Int)) = true := by simp; omega
      obtain ⟨g, hg⟩ := elem_at hlt
      obtain ⟨b, off, a2, c2, rfl, f0, hgl, _⟩ := HC.out k g hg.out
      have g0 := cell_later HBr.out f0
      have hg10 := HGT.out k g hg.out
      have hs1 := HSL.out k
      have HX := Lib.hid (sqTo_succ hg.out)
      have hsq : g.length * g.length ≤ 100 := Nat.mul_le_mul hg10 hg10
      have hwm : IntKind.i64.wrap ((g.length : Int) * (g.length : Int)) = ((g.length * g.length : Nat) : Int) := by rw [← Int.natCast_mul, IntWalk.i64_in _ (by omega)]
      have hmm : (g.length : Int) * (g.length : Int) = ((g.length * g.length : Nat) : Int) := by rw [Int.natCast_mul]
      generalize hn : g.length * g.length = gg at *
      have HGG := Lib.hid hn
      clear f0 hn
      generalize sqTo xss k = s at *
      have hwa : IntKind.i64.wrap ((s : Int) + (gg : Int)) = (s : Int) + (gg : Int) := IntWalk.i64_in _ (by omega)
      go_wp2
      go_roundw
      case rel => exact ⟨k + 1, by omega, by go_num, by rw [HX.out]; first | rfl | simp, HBr⟩
      case measure => simp [intOf]; omega
    · obtain rfl : k = xss.length := by omega
      have hdd : decide ((xss.length : Int) < (xss.length : Int)) = false := by simp
      have hs1 := HSL.out xss.length
      rw [← HS.out] at *
      have HFR := Lib.hid (fraction_c S 100 (by omega) (by omega) (by omega) wr)
      go_wp2_with fail
      refine HFR.out.mono ?_
      rintro e w4 ⟨rfl, hb5⟩
      have BB2 := (B2.out.below HBr.out).below hb5
      have hb6 := Below.chain (Below.chain HB2.out HBr.out) hb5
      have e0 : w4.cell? ⟨w.heap.size + 1, 0, none⟩ = some (.int .i64 0) := BB2.cell 0
      have e1 : w4.cell? ⟨w.heap.size + 1, 1, none⟩ = some (.int .i64 0) := BB2.cell 1
      have f0 := BB2.frozen 0
      have f1 := BB2.frozen 1
      obtain ⟨u0, u1, hb7⟩ := two_set (.int .i64 (fracN S 100)) (.int .i64 (fracD S 100)) e0 e1 hb6 (by omega)
      clear BB2 hb6 hb5 HB2 HBr
      unfold fracV at HF ⊢
      go_wp2
      clear e0 e1 f0 f1
      generalize (World.setCell (World.setCell w4 _ _) _ _) = w3 at *
      refine bodyPost_ret (v := csV d l) (by rw [HF.out]; simp [results, Tryz.results202, go_sem, u0, u1]) rfl ⟨rfl, hb7⟩
set_option maxHeartbeats 2000000 in
theorem sChanceSameDigit_c (d l : Int) (w : World) : Calls Tryz.prog 237 #[.agg #[.int .i64 d, .int .i64 l]] w fun e w' => e = .returned (csV d l) ∧ Below w.heap.size w w' := by
 have X0 := Lib.hid ((Bk.new w 46 #[.int .i64 d, .int .i64 l]).alloc (.cells #[.int .i64 0, .int .i64 0] 174))
 have b0 := Bk.new (w.alloc (.cells #[.int .i64 d, .int .i64 l] 46)) 174 #[.int .i64 0, .int .i64 0]
 rw [World.size_alloc] at b0
 have B0 := Lib.hid b0
 clear b0
 have HB0 : Hid (Below w.heap.size w ((w.alloc (.cells #[.int .i64 d, .int .i64 l] 46)).alloc (.cells #[.int .i64 0, .int .i64 0] 174))) := Below.alc (below_one _) _
 obtain ⟨q0, q1⟩ : ((w.alloc (.cells #[.int .i64 d, .int .i64 l] 46)).alloc (.cells #[.int .i64 0, .int .i64 0] 174)).cell? ⟨w.heap.size, 0, none⟩ = some (.int .i64 d) ∧ ((w.alloc (.cells #[.int .i64 d, .int .i64 l] 46)).alloc (.cells #[.int .i64 0, .int .i64 0] 174)).cell? ⟨w.heap.size, 1, none⟩ = some (.int .i64 l) := ⟨X0.out.cell 0, X0.out.cell 1⟩
 rcases hq : faultB d l with _ | _
 · have HF := Lib.hid (show csV d l = .tuple #[.agg #[.int .i64 0, .int .i64 0], .bool false] by simp [csV, hq])
   have HQ := Lib.hid hq; clear hq
   go_enter Tryz.func237, Tryz.ntmps237
   go_wp2_with fail
   refine (l3Fault_c d l _).mono ?_
   rintro e w1 ⟨rfl, hb1⟩
   rw [HQ.out]
   have B1 := B0.out.below hb1
   have e0 : w1.cell? ⟨w.heap.size + 1, 0, none⟩ = some (.int .i64 0) := B1.cell 0
   have e1 : w1.cell? ⟨w.heap.size + 1, 1, none⟩ = some (.int .i64 0) := B1.cell 1
   have f0 := B1.frozen 0
   have f1 := B1.frozen 1
   have HB1 := Lib.hid (Below.chain HB0.out hb1)
   obtain ⟨u0, u1, hb7⟩ := two_set (.int .i64 0) (.int .i64 0) e0 e1 HB1.out (by omega)
   clear hb1 B1
   go_wp2
   clear e0 e1 f0 f1
   generalize (World.setCell (World.setCell _ _ _) _ _) = w3 at *
   refine bodyPost_ret (v := csV d l) (by rw [HF.out]; simp [results, Tryz.results237, go_sem, u0, u1]) rfl ⟨rfl, hb7⟩
 · have HF := Lib.hid (show csV d l = .tuple #[fracV (csS d l) 100, .bool true] by simp [csV, hq])
   have HQ := Lib.hid hq
   obtain ⟨d0, d1, l0, l1, _⟩ := faultB_true hq
   clear hq
   have HS : Hid (csS d l = sqTo (grpL d l) (grpL d l).length) := rfl
   have HSL := Lib.hid (fun k => sqTo_le d l k)
   have HGT := Lib.hid (fun k g (h : (grpL d l)[k]? = some g) => grp_ten h)
   have HGR := Lib.hid (fun w => l3Groups_c d l w d0 d1 l0 l1)
   generalize csS d l = S at *
   generalize grpL d l = xss at *
   go_enter Tryz.func237, Tryz.ntmps237
   go_wp2_with fail
   refine (l3Fault_c d l _).mono ?_
   rintro e w1 ⟨rfl, hb1⟩
   rw [HQ.out]
   have B1 := Lib.hid (B0.out.below hb1)
   have X1 := X0.out.below hb1
   obtain ⟨q2, q3⟩ : w1.cell? ⟨w.heap.size, 0, none⟩ = some (.int .i64 d) ∧ w1.cell? ⟨w.heap.size, 1, none⟩ = some (.int .i64 l) := ⟨X1.cell 0, X1.cell 1⟩
   have HB1 := Lib.hid (Below.chain HB0.out hb1)
   clear hb1 X1 q0 q1 B0 X0 HB0
   go_wp2_with fail
   refine (HGR.out _).mono ?_
   rintro e w2 ⟨u, rfl, ho, hb2⟩
   have B2 := Lib.hid (B1.out.below hb2)
   have HB2 := Lib.hid (Below.chain HB1.out hb2)
   obtain ⟨a, c, rfl, hxl, HC⟩ := ho.parts
   clear hb2 B1 HB1 q2 q3 ho HGR
   go_wp2
   go_loopw [4, 6] (fun s j wr => ∃ k : Nat, k ≤ xss.length ∧ j = .int .i64 (k : Int) ∧ s = .int .i64 ((sqTo xss k : Nat) : Int) ∧ Hid (Below w2.heap.size w2 wr)) (fun _ j _ => xss.length - (intOf j).toNat)
   case atStart => exact ⟨0, by omega, rfl, rfl, Below.refl _ _⟩
   case round =>
    obtain ⟨k, hk, rfl, rfl, HBr⟩ := hrel
    by_cases hlt : k < xss.length
    · have hdd : decide ((k : Int) < (xss.length : Int)) = true := by simp; omega
      obtain ⟨g, hg⟩ := elem_at hlt
      obtain ⟨b, off, a2, c2, rfl, f0, hgl, _⟩ := HC.out k g hg.out
      have g0 := cell_later HBr.out f0
      have hg10 := HGT.out k g hg.out
      have hs1 := HSL.out k
      have HX := Lib.hid (sqTo_succ hg.out)
      have hsq : g.length * g.length ≤ 100 := Nat.mul_le_mul hg10 hg10
      have hwm : IntKind.i64.wrap ((g.length : Int) * (g.length : Int)) = ((g.length * g.length : Nat) : Int) := by rw [← Int.natCast_mul, IntWalk.i64_in _ (by omega)]
      have hmm : (g.length : Int) * (g.length : Int) = ((g.length * g.length : Nat) : Int) := by rw [Int.natCast_mul]
      generalize hn : g.length * g.length = gg at *
      have HGG := Lib.hid hn
      clear f0 hn
      generalize sqTo xss k = s at *
      have hwa : IntKind.i64.wrap ((s : Int) + (gg : Int)) = (s : Int) + (gg : Int) := IntWalk.i64_in _ (by omega)
      have hrh : (wr.drew.cell? ⟨b, off + k, none⟩ = some (.slice a2 g.length c2) ∧ Below w2.heap.size w2 wr.drew) := ⟨g0, HBr.out.drew⟩
      go_wp2_with fail
      refine wp_region_noPanic ?_
      refine wp_region_held_drew (S := fun w' : World => w'.cell? ⟨b, off + k, none⟩ = some (.slice a2 g.length c2) ∧ Below w2.heap.size w2 w') (by kernel_rfl) hrh (fun hHeld => ?_)
      refine' tkY 0 hHeld ?r_1
      try simp only [Act.put, xqA, xqB, xqC]
      refine' tkY 1 hHeld ?r_2
      try simp only [Act.put, xqA, xqB, xqC]
      refine' tkY 2 hHeld ?r_3
      try simp only [Act.put, xqA, xqB, xqC]
      refine' tkY 3 hHeld ?r_4
      try simp only [Act.put, xqA, xqB, xqC]
      refine' tkY 4 hHeld ?r_5
      try simp only [Act.put, xqA, xqB, xqC]
      refine' tkY 5 hHeld ?r_6
      try simp only [Act.put, xqA, xqB, xqC]
      refine' tkY 6 hHeld ?r_7
      try simp only [Act.put, xqA, xqB, xqC]
      refine' tkY 7 hHeld ?r_8
      try simp only [Act.put, xqA, xqB, xqC]
      refine' tkY 8 hHeld ?r_9
      try simp only [Act.put, xqA, xqB, xqC]
      refine' tkY 9 hHeld ?r_10
      try simp only [Act.put, xqA, xqB, xqC]
      refine' tkY 10 hHeld ?r_11
      try simp only [Act.put, xqA, xqB, xqC]
      refine' tkY 11 hHeld ?r_12
      try simp only [Act.put, xqA, xqB, xqC]
      refine' tkY 12 hHeld ?r_13
      try simp only [Act.put, xqA, xqB, xqC]
      refine' tkY 13 hHeld ?r_14
      try simp only [Act.put, xqA, xqB, xqC]
      refine wpAnyH_done (by kernel_rfl) ?_ _
      refine NoPanic.normal ?_
      have HBd := Lib.hid hHeld.2
      clear hHeld hrh
      go_wp2
      go_roundw
      case rel => exact ⟨k + 1, by omega, by go_num, by rw [HX.out]; refine int_val ?_; rw [show IntKind.i64.wrap (gg : Int) = (gg : Int) from IntWalk.i64_in _ (by omega), hwa]; simp, HBd⟩
      case measure => simp [intOf]; omega
    · obtain rfl : k = xss.length := by omega
      have hdd : decide ((xss.length : Int) < (xss.length : Int)) = false := by simp
      have hs1 := HSL.out xss.length
      rw [← HS.out] at *
      have HFR := Lib.hid (l9Cut_c S 100 (by omega) (by omega) (by omega) wr)
      go_wp2_with fail
      refine HFR.out.mono ?_
      rintro e w4 ⟨rfl, hb5⟩
      have BB2 := (B2.out.below HBr.out).below hb5
      have hb6 := Below.chain (Below.chain HB2.out HBr.out) hb5
      have e0 : w4.cell? ⟨w.heap.size + 1, 0, none⟩ = some (.int .i64 0) := BB2.cell 0
      have e1 : w4.cell? ⟨w.heap.size + 1, 1, none⟩ = some (.int .i64 0) := BB2.cell 1
      have f0 := BB2.frozen 0
      have f1 := BB2.frozen 1
      obtain ⟨u0, u1, hb7⟩ := two_set (.int .i64 (fracN S 100)) (.int .i64 (fracD S 100)) e0 e1 hb6 (by omega)
      clear BB2 hb6 hb5 HB2 HBr
      unfold fracV at HF ⊢
      go_wp2
      clear e0 e1 f0 f1
      generalize (World.setCell (World.setCell w4 _ _) _ _) = w3 at *
      refine bodyPost_ret (v := csV d l) (by rw [HF.out]; simp [results, Tryz.results237, go_sem, u0, u1]) rfl ⟨rfl, hb7⟩
theorem TabM.below {w w' : World} (h : TabM w) (hb : Below w.heap.size w w') : TabM w' := h.on hb
def frA (ok : Bool) (a b : Nat) : Nat := if ok then a / Nat.gcd a b else 0
def frB (ok : Bool) (a b : Nat) : Nat := if ok then b / Nat.gcd a b else 0
theorem frV_eq (ok : Bool) (a b : Nat) : (if ok then fracV a b else .agg #[.int .i64 0, .int .i64 0]) = .agg #[.int .i64 ((frA ok a b : Nat) : Int), .int .i64 ((frB ok a b : Nat) : Int)] := by
 cases ok <;> rfl
/-! tests -/
/-! same digits -/
theorem two_mul_le (x y : Nat) : 2 * (x * y) ≤ x * x + y * y := by
 rcases Nat.le_total x y with h | h
 · obtain ⟨d, rfl⟩ := Nat.exists_eq_add_of_le h
   simp only [Nat.add_mul, Nat.mul_add]
   have := Nat.mul_comm x d
   omega
 · obtain ⟨d, rfl⟩ := Nat.exists_eq_add_of_le h
   simp only [Nat.add_mul, Nat.mul_add]
   have := Nat.mul_comm y d
   omega
theorem cross_le (x : Nat) : ∀ xs : List Nat, 2 * (x * xs.sum) ≤ xs.length * (x * x) + (xs.map fun y => y * y).sum
 | [] => by simp
 | y :: t => by
  have h1 := cross_le x t
  have h2 := two_mul_le x y
  simp only [List.sum_cons, List.map_cons, List.length_cons, Nat.add_mul, Nat.mul_add, Nat.one_mul]
  omega
theorem cauchy : ∀ xs : List Nat, xs.sum * xs.sum ≤ xs.length * (xs.map fun y => y * y).sum
 | [] => by simp
 | x :: t => by
  have h1 := cauchy t
  have h2 := cross_le x t
  have h3 := Nat.mul_comm x t.sum
  simp only [List.sum_cons, List.map_cons, List.length_cons, Nat.add_mul, Nat.mul_add, Nat.one_mul]
  omega
theorem cs_facts (d l : Int) : csS d l ≤ 100 ∧ 100 ≤ csS d l * (grpL d l).length ∧ 0 < (grpL d l).length ∧ (grpL d l).length ≤ 10 := by
 have h1 := sqTo_le d l (grpL d l).length
 have h2 := cauchy ((grpL d l).map List.length)
 rw [grp_sum, List.length_map, List.map_map] at h2
 have e : csS d l = ((grpL d l).map ((fun y => y * y) ∘ List.length)).sum := by
  unfold csS sqTo; rw [List.take_length]; rfl
 rw [← e, Nat.mul_comm (grpL d l).length] at h2
 refine ⟨h1, h2, ?_, grpTo_le _ _ _⟩
 rcases Nat.eq_zero_or_pos (grpL d l).length with h | h
 · rw [h] at h2; omega
 · exact h
def csA (d l : Int) : Nat := frA (faultB d l) (csS d l) 100
def csB (d l : Int) : Nat := frB (faultB d l) (csS d l) 100
theorem csV_fr (d l : Int) : csV d l = .tuple #[.agg #[.int .i64 ((csA d l : Nat) : Int), .int .i64 ((csB d l : Nat) : Int)], .bool (faultB d l)] := by
 unfold csV csA csB; rw [frV_eq]
def mbA (n : Int) : Nat := frA (inB n 0 9999) (mbS (n.toNat + 1)) (n.toNat + 1)
def mbB (n : Int) : Nat := frB (inB n 0 9999) (mbS (n.toNat + 1)) (n.toNat + 1)
theorem mbV_fr (n : Int) : mbV n = .tuple #[.agg #[.int .i64 ((mbA n : Nat) : Int), .int .i64 ((mbB n : Nat) : Int)], .bool (inB n 0 9999)] := by
 unfold mbV mbA mbB; rw [frV_eq]
end Go.Proofs.YtohgjfdbnkjefaaGreatDoor
