/- Texts of this claim, gathered: Job7, Cons, Job8, Subs, Cft, Cft2, Cft3, Seq, Set, SetOf, App, Put, Least. -/
import Derived.Test.YtohgjfdbnkjefaaGreatDoorKw10
import Derived.Deep.AppendLies
import Derived.RangeFuncBox
import Derived.RangeFuncLeaves
import Derived.Shelf.Abstract
import Derived.WalkKit
import Derived.OwnWalkIn
import Derived.TacticsInMore
import Derived.LoopNIn
import Derived.LoopIn
import Derived.Maps.AppendAt
import Derived.Test.YtohgjfdbnkjefaaGreatDoorSf
import Derived.Lib.SlicesCompact
import Derived.Sort.OwnSortedInts
import Derived.Lib.OwnBridge
import Derived.Deep.RegionHeld3
import Derived.OrdersHeld
import Derived.Deep.DrawnRows
namespace Go.Proofs.YtohgjfdbnkjefaaGreatDoor
open Go.RowKit
set_option linter.unusedVariables false
set_option maxRecDepth 100000
theorem bg_set_same {b : List Int} {i : Nat} (x : Int) (h : i < b.length) : bg (b.set i x) i = x := by
 unfold bg; simp [List.getD_eq_getElem?_getD, List.getElem?_set_self h]
theorem bg_set_ne (b : List Int) {i j : Nat} (x : Int) (h : i ≠ j) : bg (b.set i x) j = bg b j := by
 unfold bg; rw [List.getD_eq_getElem?_getD, List.getD_eq_getElem?_getD, List.getElem?_set_ne h]
theorem faultB_mk {d l : Int} (d0 : 0 ≤ d) (d1 : d ≤ 127) (l0 : 0 ≤ l) (l1 : l ≤ 127) (h : andC d l = 0) : faultB d l = true := by
 unfold faultB cellB; rw [inB_mk d0 d1, inB_mk l0 l1, h]; rfl
theorem cellB_mk {d : Int} (d0 : 0 ≤ d) (d1 : d ≤ 127) : cellB d = true := inB_mk d0 d1
theorem mv_and_all : ∀ t : Bool, ∀ x y : Fin 128, x.1 &&& y.1 = 0 → (mvC t (x.1 : Int)).toNat &&& (mvC t (y.1 : Int)).toNat = 0 := by decide +kernel
theorem mv_fault (t : Bool) {d l : Int} (h : faultB d l = true) : faultB (mvC t d) (mvC t l) = true := by
 obtain ⟨d0, d1, l0, l1, h4⟩ := faultB_true h
 have b1 := mvC_bd t d0 d1
 have b2 := mvC_bd t l0 l1
 obtain ⟨d, rfl⟩ := Int.eq_ofNat_of_zero_le d0
 obtain ⟨l, rfl⟩ := Int.eq_ofNat_of_zero_le l0
 refine faultB_mk b1.1 b1.2 b2.1 b2.2 ?_
 have h5 : d &&& l = 0 := by unfold andC at h4; simpa using h4
 have := mv_and_all t ⟨d, by omega⟩ ⟨l, by omega⟩ h5
 unfold andC
 rw [this]; rfl
theorem bit_not : ∀ v : Fin 7, 2 ^ v.1 &&& (127 - 2 ^ v.1) = 0 ∧ 2 ^ v.1 < 128 := by decide +kernel
theorem or_fault {d l : Int} {v : Nat} (hv : v < 7) (h : faultB d l = true) : faultB (orC d (bitC (v : Int))) (anC l (bitC (v : Int))) = true ∧ faultB (anC d (bitC (v : Int))) (orC l (bitC (v : Int))) = true := by
 obtain ⟨d0, d1, l0, l1, h4⟩ := faultB_true h
 obtain ⟨d, rfl⟩ := Int.eq_ofNat_of_zero_le d0
 obtain ⟨l, rfl⟩ := Int.eq_ofNat_of_zero_le l0
 have h5 : d &&& l = 0 := by unfold andC at h4; simpa using h4
 obtain ⟨hb, hb2⟩ := bit_not ⟨v, hv⟩
 simp only at hb hb2
 unfold orC anC bitC
 simp only [Int.toNat_natCast]
 generalize hB : 2 ^ v = B at *
 generalize hM : 127 - B = M at *
 have o1 : d ||| B < 2 ^ 7 := Nat.or_lt_two_pow (by omega) (by omega)
 have o2 : l ||| B < 2 ^ 7 := Nat.or_lt_two_pow (by omega) (by omega)
 have a1 : d &&& M < 2 ^ 7 := Nat.and_lt_two_pow _ (by omega)
 have a2 : l &&& M < 2 ^ 7 := Nat.and_lt_two_pow _ (by omega)
 have e1 : (d ||| B) &&& (l &&& M) = 0 := by
  rw [Nat.and_or_distrib_right, ← Nat.and_assoc, h5, Nat.zero_and, Nat.zero_or, Nat.and_comm l M, ← Nat.and_assoc, hb, Nat.zero_and]
 have e2 : (d &&& M) &&& (l ||| B) = 0 := by
  rw [Nat.and_or_distrib_left, Nat.and_assoc, Nat.and_comm M l, ← Nat.and_assoc, h5, Nat.zero_and, Nat.zero_or, Nat.and_assoc, Nat.and_comm M B, hb, Nat.and_zero]
 constructor
 · exact faultB_mk (by omega) (by omega) (by omega) (by omega) (by unfold andC; simp only [Int.toNat_natCast]; rw [e1]; rfl)
 · exact faultB_mk (by omega) (by omega) (by omega) (by omega) (by unfold andC; simp only [Int.toNat_natCast]; rw [e2]; rfl)
theorem goodAt_true {b : List Int} {j : Nat} (h : goodAt b j = true) : (0 ≤ bg b j ∧ bg b j ≤ 127) ∧ faultB (bg b (6 + j)) (bg b (12 + j)) = true := by
 unfold goodAt fB at h
 simp only [Bool.and_eq_true] at h
 exact ⟨cellB_true h.1, h.2⟩
theorem goodAt_mk {b : List Int} {j : Nat} (h1 : 0 ≤ bg b j) (h2 : bg b j ≤ 127) (h3 : faultB (bg b (6 + j)) (bg b (12 + j)) = true) : goodAt b j = true := by
 unfold goodAt fB
 rw [cellB_mk h1 h2]
 exact h3
theorem goodB_all {b : List Int} : goodB b = true ↔ (∀ j, j < 6 → goodAt b j = true) ∧ inB (bg b 18) 0 1000 = true := by
 unfold goodB goodTo
 simp only [Bool.and_eq_true, List.all_eq_true, List.mem_range]
theorem seenI_x (t : Bool) (x0 x1 x2 x3 x4 x5 x6 x7 x8 x9 x10 x11 x12 x13 x14 x15 x16 x17 x18 : Int) :
 seenI t [x0, x1, x2, x3, x4, x5, x6, x7, x8, x9, x10, x11, x12, x13, x14, x15, x16, x17, x18] 6 = [mvC t x5, mvC t x4, mvC t x3, mvC t x2, mvC t x1, mvC t x0, mvC t x11, mvC t x10, mvC t x9, mvC t x8, mvC t x7, mvC t x6, mvC t x17, mvC t x16, mvC t x15, mvC t x14, mvC t x13, mvC t x12, x18] := by kernel_rfl
theorem seen_good (t : Bool) {b : List Int} (hb : b.length = 19) (h : ∀ j, j < 6 → goodAt b j = true) : ∀ j, j < 6 → goodAt (seenI t b 6) j = true := by
 match b, hb with
 | [x0, x1, x2, x3, x4, x5, x6, x7, x8, x9, x10, x11, x12, x13, x14, x15, x16, x17, x18], _ =>
  rw [seenI_x]
  intro j hj
  have hh := goodAt_true (h (5 - j) (by omega))
  have hj6 : j = 0 ∨ j = 1 ∨ j = 2 ∨ j = 3 ∨ j = 4 ∨ j = 5 := by omega
  rcases hj6 with rfl | rfl | rfl | rfl | rfl | rfl <;> exact goodAt_mk (mvC_bd t hh.1.1 hh.1.2).1 (mvC_bd t hh.1.1 hh.1.2).2 (mv_fault t hh.2)
theorem made_len {b : List Int} (hb : b.length = 19) (k : Int) (a : Nat) (v : Int) : (madeB b k a v).length = 19 := by
 unfold madeB
 repeat (split; · (first | (simp [hb]; done) | (rw [seenI_len, hb])))
 exact hb
theorem made_18 {b : List Int} (hb : b.length = 19) (k : Int) {a : Nat} (v : Int) (ha : a < 6) : bg (madeB b k a v) 18 = bg b 18 := by
 unfold madeB
 split; · exact bg_set_ne _ _ (by omega)
 split; · exact bg_set_ne _ _ (by omega)
 split; · rw [bg_set_ne _ _ (by omega), bg_set_ne _ _ (by omega)]
 split; · rw [bg_set_ne _ _ (by omega), bg_set_ne _ _ (by omega)]
 split; · rw [bg_set_ne _ _ (by omega), bg_set_ne _ _ (by omega)]
 split; · exact seenI_18 _ _ 6 (by omega)
 split; · exact seenI_18 _ _ 6 (by omega)
 rfl
theorem two_good {b : List Int} {a : Nat} {x y : Int} (hb : b.length = 19) (ha : a < 6) (h : ∀ j, j < 6 → goodAt b j = true) (hf : faultB x y = true) : ∀ j, j < 6 → goodAt ((b.set (6 + a) x).set (12 + a) y) j = true := by
 intro j hj
 have hh := goodAt_true (h j hj)
 have e0 : bg ((b.set (6 + a) x).set (12 + a) y) j = bg b j := by rw [bg_set_ne _ _ (by omega), bg_set_ne _ _ (by omega)]
 refine goodAt_mk (by rw [e0]; exact hh.1.1) (by rw [e0]; exact hh.1.2) ?_
 by_cases hja : j = a
 · subst hja
   rw [bg_set_same _ (by simp; omega), bg_set_ne _ _ (by omega), bg_set_same _ (by omega)]
   exact hf
 · rw [bg_set_ne _ _ (by omega), bg_set_ne _ _ (by omega), bg_set_ne _ _ (by omega), bg_set_ne _ _ (by omega)]
   exact hh.2
theorem one_good {b : List Int} {a : Nat} {x : Int} (hb : b.length = 19) (ha : a < 6) (h : ∀ j, j < 6 → goodAt b j = true) (x0 : 0 ≤ x) (x1 : x ≤ 127) : ∀ j, j < 6 → goodAt (b.set a x) j = true := by
 intro j hj
 have hh := goodAt_true (h j hj)
 have hf : faultB (bg (b.set a x) (6 + j)) (bg (b.set a x) (12 + j)) = true := by rw [bg_set_ne _ _ (by omega), bg_set_ne _ _ (by omega)]; exact hh.2
 by_cases hja : j = a
 · subst hja
   exact goodAt_mk (by rw [bg_set_same _ (by omega)]; exact x0) (by rw [bg_set_same _ (by omega)]; exact x1) hf
 · have e0 : bg (b.set a x) j = bg b j := bg_set_ne _ _ (by omega)
   exact goodAt_mk (by rw [e0]; exact hh.1.1) (by rw [e0]; exact hh.1.2) hf
theorem made_good {b : List Int} {k a v : Int} (hb : b.length = 19) (hg : goodB b = true) (hm : makeB b k a v = true) : a.toNat < 6 ∧ ∀ j, j < 6 → goodAt (madeB b k a.toNat v) j = true := by
 have h := (goodB_all.1 hg).1
 unfold makeB at hm
 simp only [Bool.and_eq_true] at hm
 have h2 := inB_true hm.1
 have ha : a.toNat < 6 := by omega
 refine ⟨ha, ?_⟩
 have hk := hm.2
 generalize a.toNat = n at *
 unfold makeK at hk
 unfold madeB
 by_cases k1 : k = 1
 · rw [if_pos k1] at hk ⊢
   exact one_good hb ha h (dg_bd v).1 (dg_bd v).2
 rw [if_neg k1] at hk ⊢
 by_cases k2 : k = 2
 · rw [if_pos k2]
   exact one_good hb ha h (by omega) (by omega)
 rw [if_neg k2] at hk ⊢
 by_cases k3 : k = 3
 · rw [if_pos k3] at hk ⊢
   simp only [Bool.and_eq_true] at hk
   have h3 := inB_true hk.1
   obtain ⟨vn, rfl⟩ := Int.eq_ofNat_of_zero_le h3.1
   exact two_good hb ha h (or_fault (by omega) (goodAt_true (h n ha)).2).1
 rw [if_neg k3] at hk ⊢
 by_cases k4 : k = 4
 · rw [if_pos k4] at hk ⊢
   simp only [Bool.and_eq_true] at hk
   have h3 := inB_true hk.1
   obtain ⟨vn, rfl⟩ := Int.eq_ofNat_of_zero_le h3.1
   exact two_good hb ha h (or_fault (by omega) (goodAt_true (h n ha)).2).2
 rw [if_neg k4] at hk ⊢
 by_cases k5 : k = 5
 · rw [if_pos k5]
   exact two_good hb ha h rfl
 rw [if_neg k5] at hk ⊢
 by_cases k6 : k = 6
 · rw [if_pos k6]
   exact seen_good true hb h
 rw [if_neg k6]
 by_cases k7 : k = 7
 · rw [if_pos k7]
   exact seen_good false hb h
 rw [if_neg k7]
 exact h
theorem cnt_good {b : List Int} {k a v : Int} (hb : b.length = 19) (hg : goodB b = true) (hm : makeB b k a v = true) : goodB (doB b k a v) = !(bg b 18 == 1000) ∧ (doB b k a v).length = 19 ∧ doB b k a v = (madeB b k a.toNat v).set 18 (bg b 18 + 1) := by
 obtain ⟨ha, h⟩ := made_good hb hg hm
 have hl := made_len hb k a.toNat v
 have h18 := made_18 hb k v ha
 have e : doB b k a v = (madeB b k a.toNat v).set 18 (bg b 18 + 1) := by unfold doB cntB; rw [h18]
 refine ⟨?_, by rw [e, List.length_set, hl], e⟩
 have hc := inB_true (goodB_all.1 hg).2
 have hall : ∀ j, j < 6 → goodAt (doB b k a v) j = true := by
  intro j hj
  have hh := goodAt_true (h j hj)
  rw [e]
  exact goodAt_mk (by rw [bg_set_ne _ _ (by omega)]; exact hh.1.1) (by rw [bg_set_ne _ _ (by omega)]; exact hh.1.2) (by rw [bg_set_ne _ _ (by omega), bg_set_ne _ _ (by omega)]; exact hh.2)
 have hcnt : bg (doB b k a v) 18 = bg b 18 + 1 := by rw [e, bg_set_same _ (by omega)]
 rw [Bool.eq_iff_iff, goodB_all, hcnt]
 constructor
 · intro hx
   have := inB_true hx.2
   simp; omega
 · intro hx
   simp at hx
   exact ⟨hall, inB_mk (by omega) (by omega)⟩
def lgC (d p : ByteArray) (n : Int) : List Value := [.string d, .string p, .int .i64 n]
def csC (b : List Int) (d p : ByteArray) (n : Int) : List Value := ints b ++ lgC d p n
theorem csC_len {b : List Int} (hb : b.length = 19) (d p : ByteArray) (n : Int) : (csC b d p n).length = 22 := by simp [csC, lgC, hb]
theorem csC_one {b : List Int} {d p : ByteArray} {n : Int} : ∀ v ∈ csC b d p n, v.oneCell' = true := fun v hv => by
 unfold csC at hv
 rw [List.mem_append] at hv
 rcases hv with h | h
 · exact ints_one v h
 · simp only [lgC, List.mem_cons, List.not_mem_nil, or_false] at h
   rcases h with rfl | rfl | rfl <;> rfl
theorem wpList_storeC {ops : Array Oper} {rest : List Oper} {op : Oper} {a : Act} {w : World} {Q : Exit → Act → World → Prop} (hw : Region.wanted op (yielded ops a.tmps) = true) (x y : Operand) (ho : op.op = .store 31 x y)
 (g : Nat) (b : List Int) (d p : ByteArray) (n : Int) (hx : a.eval x = .pointer (some ⟨g, 0, none⟩)) (hy : a.eval y = .agg (csC b d p n).toArray) (ht : w.there g 0 22) (hb : b.length = 19)
 (h : wpList Tryz.prog ops Q rest (a.put op.dst undef) (w.setCells g 0 (csC b d p n))) : wpList Tryz.prog ops Q (op :: rest) a w :=
 wpList_store_want hw _ x y ho g 0 _ hx hy (by rw [csC_len hb]; exact ht) (by rw [csC_len hb]; kernel_rfl) csC_one h
theorem wpList_loadC {ops : Array Oper} {rest : List Oper} {op : Oper} {a : Act} {w : World} {Q : Exit → Act → World → Prop} (hw : Region.wanted op (yielded ops a.tmps) = true) (x : Operand) (ho : op.op = .load 31 x)
 (g : Nat) (hx : a.eval x = .pointer (some ⟨g, 0, none⟩)) (b : List Int) (d p : ByteArray) (n : Int) (hc : w.rangeAt g 0 (csC b d p n)) (hb : b.length = 19)
 (h : wpList Tryz.prog ops Q rest (a.put op.dst (.agg (csC b d p n).toArray)) w) : wpList Tryz.prog ops Q (op :: rest) a w :=
 wpList_load_want hw _ x ho g 0 hx _ _ hc Tryz.underlying31 rfl (by rw [csC_len hb]; kernel_rfl) h
theorem loadVarC {w : World} {g : Nat} {b : List Int} {d p : ByteArray} {n : Int} (h : w.rangeAt g 0 (csC b d p n)) (hb : b.length = 19) : (loadVar 31 ⟨g, 0, none⟩).run Tryz.prog w = .ok (.agg (csC b d p n).toArray) w :=
 run_loadVar_mid w g 0 _ _ _ h Tryz.underlying31 rfl (by rw [csC_len hb]; kernel_rfl)
def zeroI : List Int := List.replicate 19 0
def ncB (b : List Int) : List Int := if goodB b then b else zeroI
def ncV (b : List Int) : Value := .tuple #[.agg (csC (ncB b) ByteArray.empty ByteArray.empty 0).toArray, .bool (goodB b)]
def zCA : Array Value := #[.int .i64 0, .int .i64 0, .int .i64 0, .int .i64 0, .int .i64 0, .int .i64 0, .int .i64 0, .int .i64 0, .int .i64 0, .int .i64 0, .int .i64 0, .int .i64 0, .int .i64 0, .int .i64 0, .int .i64 0, .int .i64 0, .int .i64 0, .int .i64 0, .int .i64 0, .string (ByteArray.mk #[]), .string (ByteArray.mk #[]), .int .i64 0]
theorem build_cons_x (x0 x1 x2 x3 x4 x5 x6 x7 x8 x9 x10 x11 x12 x13 x14 x15 x16 x17 x18 : Int) : List.foldl (fun (cs : Array Value) (x : Value × Nat) => cs.setIfInBounds x.snd x.fst) zCA (ints [x0, x1, x2, x3, x4, x5, x6, x7, x8, x9, x10, x11, x12, x13, x14, x15, x16, x17, x18]).zipIdx = (csC [x0, x1, x2, x3, x4, x5, x6, x7, x8, x9, x10, x11, x12, x13, x14, x15, x16, x17, x18] ByteArray.empty ByteArray.empty 0).toArray := by kernel_rfl
theorem build_cons {b : List Int} (hb : b.length = 19) : List.foldl (fun (cs : Array Value) (x : Value × Nat) => cs.setIfInBounds x.snd x.fst) zCA (ints b).zipIdx = (csC b ByteArray.empty ByteArray.empty 0).toArray := by
 match b, hb with
 | [x0, x1, x2, x3, x4, x5, x6, x7, x8, x9, x10, x11, x12, x13, x14, x15, x16, x17, x18], _ => exact build_cons_x x0 x1 x2 x3 x4 x5 x6 x7 x8 x9 x10 x11 x12 x13 x14 x15 x16 x17 x18
theorem NewConsole_c (b : List Int) (w : World) (hb : b.length = 19) : Calls Tryz.prog 11 #[aggI b] w fun e w' => e = .returned (ncV b) ∧ Below w.heap.size w w' := by
 have r0 := World.rangeAt_alloc (range_new w (ints b) 26) (.cells zCA 31)
 have t0 := there_new (w.alloc (.cells (ints b).toArray 26)) zCA 31 (n := 22) (by decide)
 have hb0 : Below w.heap.size w ((w.alloc (.cells (ints b).toArray 26)).alloc (.cells zCA 31)) := by (repeat (first | exact Below.refl _ _ | exact (Below.refl _ _).drew | assumption | exact below_one _ | refine Below.chain ?_ (by assumption) | refine Below.drew ?_ | refine Below.alc ?_ _ | refine below_drewN ?_ | (refine Below.setCell ?_ ?_ _) | exact Nat.le_refl _ | (simp; done) | (simp; omega)))
 have hbu := build_cons hb
 simp only [World.size_alloc] at t0
 unfold zCA at *
 unfold aggI
 rcases hq : goodB b with _ | _
 · have HF := Lib.hid (show ncV b = .tuple #[.agg (csC zeroI ByteArray.empty ByteArray.empty 0).toArray, .bool false] by simp [ncV, ncB, hq])
   have HQ := Lib.hid hq; clear hq hbu
   go_enter Tryz.func11, Tryz.ntmps11
   go_wp2_with (refine wpList_loadB rfl _ rfl _ rfl b r0 hb ?_)
   refine (IsBench_c b _ hb).mono ?_
   rintro e w1 ⟨rfl, hb1⟩
   rw [HQ.out]
   have t1 := there_below t0 hb1
   have hb2 := Below.chain hb0 hb1
   have hk := World.rangeAt_setCells_same w1 (w.heap.size + 1) 0 (csC zeroI ByteArray.empty ByteArray.empty 0) t1
   have hb3 := below_cells (csC zeroI ByteArray.empty ByteArray.empty 0) w1 (w.heap.size + 1) 0 hb2 (by omega)
   have hld := loadVarC hk (by simp [zeroI])
   clear r0 t0 hb0 hb1
   go_wp2_with (refine wpList_storeC rfl _ _ rfl _ zeroI ByteArray.empty ByteArray.empty 0 rfl rfl t1 (by simp [zeroI]) ?_)
   go_wp2
   exact bodyPost_ret (v := ncV b) (by rw [HF.out]; exact res_cell2 Tryz.results11 rfl hld) rfl ⟨rfl, hb3⟩
 · have HF := Lib.hid (show ncV b = .tuple #[.agg (csC b ByteArray.empty ByteArray.empty 0).toArray, .bool true] by simp [ncV, ncB, hq])
   have HQ := Lib.hid hq; clear hq
   go_enter Tryz.func11, Tryz.ntmps11
   go_wp2_with (refine wpList_loadB rfl _ rfl _ rfl b r0 hb ?_)
   refine (IsBench_c b _ hb).mono ?_
   rintro e w1 ⟨rfl, hb1⟩
   rw [HQ.out]
   have r1 := range_below r0 hb1
   have t1 := there_below t0 hb1
   have hb2 := Below.chain hb0 hb1
   have hk := World.rangeAt_setCells_same w1 (w.heap.size + 1) 0 (csC b ByteArray.empty ByteArray.empty 0) (by rw [csC_len hb]; exact t1)
   have hb3 := below_cells (csC b ByteArray.empty ByteArray.empty 0) w1 (w.heap.size + 1) 0 hb2 (by omega)
   have hld := loadVarC hk hb
   clear r0 t0 hb0 hb1
   go_wp2_with (first | (refine wpList_loadB rfl _ rfl _ rfl b r1 hb ?_) | (refine wpList_storeC rfl _ _ rfl _ b ByteArray.empty ByteArray.empty 0 rfl rfl t1 hb ?_))
   go_wp2
   exact bodyPost_ret (v := ncV b) (by rw [HF.out]; exact res_cell2 Tryz.results11 rfl hld) rfl ⟨rfl, hb3⟩
theorem l12Make_c (b : List Int) (k a v : Int) (w : World) (hb : b.length = 19) (hg : goodB b = true) :
 Calls Tryz.prog 142 #[aggI b, jobV k a v] w (MkPost w b k a v) := by
 rcases ha : inB a 0 5 with _ | _
 · exact make_a b k a v w hb hg ha
 have h2 := inB_true ha
 obtain ⟨an, rfl⟩ := Int.eq_ofNat_of_zero_le h2.1
 have han : an < 6 := by omega
 by_cases k1 : k = 1
 · subst k1
   rcases hv : inB v 0 9 with _ | _
   · exact make_1n b an v w hb hg han hv
   · have h3 := inB_true hv
     obtain ⟨vn, rfl⟩ := Int.eq_ofNat_of_zero_le h3.1
     exact make_1y b an vn w hb hg han (by omega)
 by_cases k2 : k = 2
 · subst k2; exact make_2 b an v w hb hg han
 by_cases k3 : k = 3
 · subst k3
   rcases hv : inB v 0 6 with _ | _
   · exact make_3n b an v w hb hg han hv
   · have h3 := inB_true hv
     obtain ⟨vn, rfl⟩ := Int.eq_ofNat_of_zero_le h3.1
     exact make_3y b an vn w hb hg han (by omega)
 by_cases k4 : k = 4
 · subst k4
   rcases hv : inB v 0 6 with _ | _
   · exact make_4n b an v w hb hg han hv
   · have h3 := inB_true hv
     obtain ⟨vn, rfl⟩ := Int.eq_ofNat_of_zero_le h3.1
     exact make_4y b an vn w hb hg han (by omega)
 by_cases k5 : k = 5
 · subst k5
   rcases hz : ((bg b (6 + an) == 0) && (bg b (12 + an) == 0)) with _ | _
   · exact make_5y b an v w hb hg han hz
   · exact make_5n b an v w hb hg han hz
 by_cases k6 : k = 6
 · subst k6
   by_cases h0 : an = 0
   · subst h0; exact make_6y b v w hb hg
   · exact make_6n b an v w hb hg han (by omega)
 by_cases k7 : k = 7
 · subst k7
   by_cases h0 : an = 0
   · subst h0; exact make_7y b v w hb hg
   · exact make_7n b an v w hb hg han (by omega)
 exact make_o b k an v w hb hg han k1 k2 k3 k4 k5 k6 k7
def jobB (b : List Int) (k a v : Int) : List Int := if possB b k a v then doB b k a v else zeroI
theorem jobB_len {b : List Int} (hb : b.length = 19) (hg : goodB b = true) (k a v : Int) : (jobB b k a v).length = 19 := by
 unfold jobB
 split
 · rename_i h
   unfold possB at h
   simp only [Bool.and_eq_true] at h
   exact (cnt_good hb hg h.2).2.1
 · simp [zeroI]
def jobsV (b : List Int) (k a v : Int) : Value := mkV (jobB b k a v) (possB b k a v)
set_option maxHeartbeats 2000000 in
theorem l12Do_c (b : List Int) (k a v : Int) (w : World) (hb : b.length = 19) (hg : goodB b = true) :
 Calls Tryz.prog 89 #[aggI b, jobV k a v] w fun e w' => e = .returned (jobsV b k a v) ∧ Below w.heap.size w w' := by
 have r0 := World.rangeAt_alloc (World.rangeAt_alloc (range_new w (ints b) 26) (.cells #[.int .i64 k, .int .i64 a, .int .i64 v] 123)) zB
 have t1 := there_new ((w.alloc (.cells (ints b).toArray 26)).alloc (.cells #[.int .i64 k, .int .i64 a, .int .i64 v] 123)) _ 26 (n := 19) (show 19 ≤ (zBA : Array Value).size by decide)
 have hb0 : Below w.heap.size w (((w.alloc (.cells (ints b).toArray 26)).alloc (.cells #[.int .i64 k, .int .i64 a, .int .i64 v] 123)).alloc zB) := by (repeat (first | exact Below.refl _ _ | exact (Below.refl _ _).drew | assumption | exact below_one _ | refine Below.chain ?_ (by assumption) | refine Below.drew ?_ | refine Below.alc ?_ _ | refine below_drewN ?_ | (refine Below.setCell ?_ ?_ _) | exact Nat.le_refl _ | (simp; done) | (simp; omega)))
 simp only [World.size_alloc] at t1
 have hsz : w.heap.size + 1 + 1 < (((w.alloc (.cells (ints b).toArray 26)).alloc (.cells #[.int .i64 k, .int .i64 a, .int .i64 v] 123)).alloc zB).heap.size := by simp
 have gc := inB_true (goodB_all.1 hg).2
 have HM := Lib.hid (fun w => l12Make_c b k a v w hb hg)
 unfold aggI jobV at *
 unfold zBA zB at *
 go_enter Tryz.func89, Tryz.ntmps89
 go_wp2_with (refine wpList_loadB rfl _ rfl _ rfl b r0 hb ?_)
 refine (HM.out _).mono ?_
 rintro e w1 ⟨X, rfl, hX, hXm, hb1⟩
 have r1 := range_below r0 hb1
 have u1 := there_below t1 hb1
 have b1 := Below.chain hb0 hb1
 have z1 := Nat.lt_of_lt_of_le hsz hb1.size
 have r2 := World.rangeAt_alloc r1 zB
 have u2 := World.there_alloc u1 zB
 have b2 := Below.alc b1 zB
 have t2 := there_new w1 zBA 26 (n := 19) (by decide)
 have r3 := World.rangeAt_setCells_apart r2 w1.heap.size 0 (ints X) (.inl (by omega))
 have u3 := World.there_setCells u2 w1.heap.size 0 (ints X)
 have t3 := World.there_setCells t2 w1.heap.size 0 (ints X)
 have c3 := World.rangeAt_setCells_same (w1.alloc zB) w1.heap.size 0 (ints X) (by rw [show (ints X).length = 19 by simp [ints, hX]]; exact t2)
 have b3 := below_cells (ints X) (w1.alloc zB) w1.heap.size 0 b2 (by omega)
 have g18 := cell18 r3 (j := 18) (by omega)
 have g18o := cell18 c3 (j := 18) (by omega)
 have f18o := there_froz t3 (j := 18) (by omega)
 have c4 := range_set c3 (j := 18) (bg b 18 + 1) (by omega)
 have u4 := there_set u3 w1.heap.size 18 (.int .i64 (bg b 18 + 1))
 have b4 := b3.setCell (p := ⟨w1.heap.size, 18, none⟩) (by simp; omega) (.int .i64 (bg b 18 + 1))
 have hY : (X.set 18 (bg b 18 + 1)).length = 19 := by rw [List.length_set, hX]
 clear r0 t1 hb0 hb1 r1 u1 b1 hsz r2 u2 b2 r3 u3 t3 c3 b3
 rcases hm : makeB b k a v with _ | _
 · have hF : Hid (jobsV b k a v = mkV zeroI false) := by
    have hp : possB b k a v = false := by unfold possB; rw [hm]; simp
    show _ = _
    unfold jobsV jobB; rw [hp]; rfl
   have hz : zeroI.length = 19 := by simp [zeroI]
   have K5 := loadVarB (World.rangeAt_setCells_same _ (w.heap.size + 1 + 1) 0 (ints zeroI) (by simpa [hz] using u4)) hz
   have K6 := below_cells (ints zeroI) _ (w.heap.size + 1 + 1) 0 b4 (by omega)
   have HM2 := Lib.hid hm
   unfold mkV aggI zB zBA at *
   clear c4 hm
   go_wp2_with (first | (refine wpList_storeB rfl _ _ rfl _ X rfl rfl t2 hX ?_) | (refine wpList_storeB rfl _ _ rfl _ zeroI rfl rfl u4 hz ?_))
   exact bodyPost_ret (v := mkV zeroI false) (res_cell2 Tryz.results89 rfl K5) rfl ⟨by rw [hF.out]; rfl, K6⟩
 · obtain ⟨hG, hL, hE⟩ := cnt_good hb hg hm
   have hXe := hXm hm
   subst hXe
   rw [← hE] at c4 hY
   have HE := Lib.hid hE
   rcases hq : goodB (doB b k a v) with _ | _
   · have hF : Hid (jobsV b k a v = mkV zeroI false) := by
      have hp : possB b k a v = false := by unfold possB; rw [← hG, hq]; rfl
      show _ = _
      unfold jobsV jobB; rw [hp]; rfl
     have HG := Lib.hid hq
     have hz : zeroI.length = 19 := by simp [zeroI]
     have HGC := Lib.hid (fun w => l12Good_c (doB b k a v) w hL)
     clear hE hG hq hXm
     generalize doB b k a v = Y at *
     generalize madeB b k a.toNat v = X at *
     unfold mkV aggI zB zBA at *
     clear hm
     go_wp2_with (first | (refine wpList_storeB rfl _ _ rfl _ X rfl rfl t2 hX ?_) | (refine wpList_loadB rfl _ rfl _ rfl _ c4 hL ?_))
     refine (HGC.out _).mono ?_
     rintro e w5 ⟨rfl, hb5⟩
     rw [HG.out]
     have u5 := there_below u4 hb5
     have b5 := Below.chain b4 hb5
     have K5 := loadVarB (World.rangeAt_setCells_same _ (w.heap.size + 1 + 1) 0 (ints zeroI) (by simpa [hz] using u5)) hz
     have K6 := below_cells (ints zeroI) _ (w.heap.size + 1 + 1) 0 b5 (by omega)
     clear u4 b4 c4
     go_wp2_with (refine wpList_storeB rfl _ _ rfl _ zeroI rfl rfl u5 hz ?_)
     exact bodyPost_ret (v := mkV zeroI false) (res_cell2 Tryz.results89 rfl K5) rfl ⟨by rw [hF.out]; rfl, K6⟩
   · have hF : Hid (jobsV b k a v = mkV (doB b k a v) true) := by
      have hp : possB b k a v = true := by unfold possB; rw [← hG, hq, hm]; rfl
      show _ = _
      unfold jobsV jobB; rw [hp]; rfl
     have HG := Lib.hid hq
     have HGC := Lib.hid (fun w => l12Good_c (doB b k a v) w hL)
     clear hE hG hq hXm
     generalize doB b k a v = Y at *
     generalize madeB b k a.toNat v = X at *
     unfold mkV aggI zB zBA at *
     clear hm
     go_wp2_with (first | (refine wpList_storeB rfl _ _ rfl _ X rfl rfl t2 hX ?_) | (refine wpList_loadB rfl _ rfl _ rfl _ c4 hL ?_))
     refine (HGC.out _).mono ?_
     rintro e w5 ⟨rfl, hb5⟩
     rw [HG.out]
     have u5 := there_below u4 hb5
     have b5 := Below.chain b4 hb5
     have c5 := range_below c4 hb5
     have K5 := loadVarB (World.rangeAt_setCells_same _ (w.heap.size + 1 + 1) 0 (ints Y) (by simpa [hL] using u5)) hL
     have K6 := below_cells (ints Y) _ (w.heap.size + 1 + 1) 0 b5 (by omega)
     clear u4 b4 c4
     go_wp2_with (first | (refine wpList_loadB rfl _ rfl _ rfl _ c5 hL ?_) | (refine wpList_storeB rfl _ _ rfl _ Y rfl rfl u5 hL ?_))
     exact bodyPost_ret (v := mkV Y true) (res_cell2 Tryz.results89 rfl K5) rfl ⟨by rw [hF.out]; rfl, K6⟩
def loopE : List Int → List Int → List (List Int)
 | [], _ => []
 | x :: t, part => ((part ++ [x]) :: loopE t (part ++ [x])) ++ loopE t part
def subsL (set : List Int) : List (List Int) := [] :: loopE set []
structure Fr (D : World → Nat → Prop) (w w' : World) : Prop where
 os : w'.os = w.os
 tape : w'.tape = w.tape
 output : w'.output = w.output
 size : w.heap.size ≤ w'.heap.size
 block : ∀ k, k < w.heap.size → ¬ D w k → w'.heap[k]? = w.heap[k]?
 own : ∀ k, D w' k → D w k ∨ w.heap.size ≤ k
theorem Fr.refl {D : World → Nat → Prop} (w : World) : Fr D w w := ⟨rfl, rfl, rfl, Nat.le_refl _, fun _ _ _ => rfl, fun _ h => .inl h⟩
theorem Fr.trans {D : World → Nat → Prop} {a b c : World} (h : Fr D a b) (k : Fr D b c) : Fr D a c where
 os := k.os.trans h.os
 tape := k.tape.trans h.tape
 output := k.output.trans h.output
 size := Nat.le_trans h.size k.size
 block := fun j hj hd => (k.block j (Nat.lt_of_lt_of_le hj h.size) (fun hd2 => by rcases h.own j hd2 with h3 | h3; exact hd h3; omega)).trans (h.block j hj hd)
 own := fun j hj => by
  rcases k.own j hj with h1 | h1
  · exact h.own j h1
  · exact .inr (Nat.le_trans h.size h1)
theorem Fr.cell {D : World → Nat → Prop} {w w' : World} (h : Fr D w w') {b o : Nat} {v : Value} (hc : w.cell? ⟨b, o, none⟩ = some v) (hd : ¬ D w b) : w'.cell? ⟨b, o, none⟩ = some v := by
 rw [World.cell?_of_block (w := w) (a := ⟨b, o, none⟩) (h.block b (World.block_lt_of_cell? _ _ hc) hd)]; exact hc
theorem Fr.ints {D : World → Nat → Prop} {w w' : World} (h : Fr D w w') {v : Value} {xs : List Int} (hv : Ints w v xs) (hd : ∀ g, v.ownBlock = some g → ¬ D w g) : Ints w' v xs := by
 obtain ⟨a, c, rfl, h1, h2, h3, h4⟩ := hv
 refine ⟨a, c, rfl, h1, h2, h3, fun hn => ?_⟩
 obtain ⟨b, off, rfl, hc⟩ := h4 hn
 refine ⟨b, off, rfl, fun j hj => ?_⟩
 have := hc j hj
 rw [List.getElem?_eq_getElem (by omega)] at this
 rw [h.cell this (hd b rfl), ← this, hc j hj]
structure Doer (D : World → Nat → Prop) (I : List (List Int) → World → Prop) (fn : Nat) (cb : Array Value) (S : List Int) : Prop where
 calls : CallsIt fn
 keepI : ∀ done w w', I done w → Below w.heap.size w w' → I done w'
 keepD : ∀ done w w', I done w → Below w.heap.size w w' → ∀ k, D w' k → D w k
 ltD : ∀ done w k, I done w → D w k → k < w.heap.size
 run : ∀ (done : List (List Int)) (part : List Int) v w, part.length ≤ 10 → (∀ y ∈ part, y ∈ S) → I done w → Ints w v part → (∀ g, v.ownBlock = some g → ¬ D w g) → Calls Tryz.prog fn (#[v] ++ cb) w fun e w' => e = .returned (.tuple #[]) ∧ I (done ++ [part]) w' ∧ Fr D w w'
theorem Doer.fr {D : World → Nat → Prop} {I : List (List Int) → World → Prop} {fn : Nat} {cb : Array Value} {S : List Int} (H : Doer D I fn cb S) {done : List (List Int)} {w w' : World} (hI : I done w) (hb : Below w.heap.size w w') : Fr D w w' :=
 ⟨hb.os, hb.tape, hb.output, hb.size, fun k hk _ => hb.block k hk, fun k hk => .inl (H.keepD done w w' hI hb k hk)⟩
structure SEnv (D : World → Nat → Prop) (w : World) (B2 B3 B4 fn : Nat) (cb : Array Value) (a : Option Addr) (c : Nat) (set : List Int) : Prop where
 c2 : w.cell? ⟨B2, 0, none⟩ = some (.func (.func fn) #[] cb)
 c3 : w.cell? ⟨B3, 0, none⟩ = some (.slice a set.length c)
 c4 : w.cell? ⟨B4, 0, none⟩ = some (.func (.func 279) #[] #[.pointer (some ⟨B2, 0, none⟩), .pointer (some ⟨B3, 0, none⟩), .pointer (some ⟨B4, 0, none⟩)])
 hs : Ints w (.slice a set.length c) set
 d2 : ¬ D w B2
 d3 : ¬ D w B3
 d4 : ¬ D w B4
 ds : ∀ g, (Value.slice a set.length c).ownBlock = some g → ¬ D w g
 lt2 : B2 < w.heap.size
 lts : ∀ g, (Value.slice a set.length c).ownBlock = some g → g < w.heap.size
theorem SEnv.keep {D : World → Nat → Prop} {w w' : World} {B2 B3 B4 fn : Nat} {cb : Array Value} {a : Option Addr} {c : Nat} {set : List Int} (h : SEnv D w B2 B3 B4 fn cb a c set) (hf : Fr D w w') : SEnv D w' B2 B3 B4 fn cb a c set where
 c2 := hf.cell h.c2 h.d2
 c3 := hf.cell h.c3 h.d3
 c4 := hf.cell h.c4 h.d4
 hs := hf.ints h.hs h.ds
 d2 := fun hd => by rcases hf.own _ hd with h1 | h1; exact h.d2 h1; have := World.block_lt_of_cell? _ _ h.c2; simp at this; omega
 d3 := fun hd => by rcases hf.own _ hd with h1 | h1; exact h.d3 h1; have := World.block_lt_of_cell? _ _ h.c3; simp at this; omega
 d4 := fun hd => by rcases hf.own _ hd with h1 | h1; exact h.d4 h1; have := World.block_lt_of_cell? _ _ h.c4; simp at this; omega
 ds := fun g hg hd => by rcases hf.own _ hd with h1 | h1; exact h.ds g hg h1; have := h.lts g hg; omega
 lt2 := Nat.lt_of_lt_of_le h.lt2 hf.size
 lts := fun g hg => Nat.lt_of_lt_of_le (h.lts g hg) hf.size
theorem loopE_len : ∀ (l part : List Int), (loopE l part).length + 1 = 2 ^ l.length
 | [], _ => rfl
 | x :: t, part => by
  have h1 := loopE_len t (part ++ [x])
  have h2 := loopE_len t part
  simp only [loopE, List.length_append, List.length_cons, Nat.pow_succ] at h1 h2 ⊢
  omega
def tenA : Array Value := #[.int .i64 0, .int .i64 1, .int .i64 2, .int .i64 3, .int .i64 4, .int .i64 5, .int .i64 6, .int .i64 7, .int .i64 8, .int .i64 9]
theorem tenA_eq : tenA.toList = ints tenI := rfl
theorem allDigits_c (w : World) : Calls Tryz.prog 251 #[] w fun e w' => ∃ u, e = .returned u ∧ w'.ownsRow w.heap.size 3 1 u 10 (ints tenI) ∧ Below w.heap.size w w' := by
 have ho := World.ownsRow_lit (e := 3) (size := 1) (base := w.heap.size) w tenA 10 (Nat.le_refl _) (by decide) rfl
 rw [tenA_eq] at ho
 unfold tenA at ho
 go_enter Tryz.func251, Tryz.ntmps251
 go_wp2
 go_ret
 exact ⟨_, rfl, ho, below_one _⟩
end Go.Proofs.YtohgjfdbnkjefaaGreatDoor
namespace Go.Proofs.YtohgjfdbnkjefaaGreatDoor
open Go.RowKit Go.Shelf
set_option linter.unusedVariables false
attribute [local go_sem] Oper.semAt_some
def upto {α : Type} (f : Nat → α) (k : Nat) : List α := (List.range k).map f
theorem upto_succ {α : Type} (f : Nat → α) (k : Nat) : upto f (k + 1) = upto f k ++ [f k] := by simp [upto, List.range_succ]
theorem upto_length {α : Type} (f : Nat → α) (k : Nat) : (upto f k).length = k := by simp [upto]
theorem upto_all (zs : List Int) : upto (fun j => zs[j]?.getD 0) zs.length = zs := by
 apply List.ext_getElem
 · simp [upto]
 · intro i h1 h2
   simp [upto, h2]
theorem upto_take (zs : List Int) {k : Nat} (hk : k ≤ zs.length) : upto (fun j => zs[j]?.getD 0) k = zs.take k := by
 apply List.ext_getElem
 · simp [upto, hk]
 · intro i h1 h2
   have : i < zs.length := by simp [upto] at h1; omega
   simp [upto, this]
set_option maxRecDepth 100000 in
set_option maxHeartbeats 2000000 in
theorem values1_in (F : Fence) (n : Nat) (h7 : F.fn 309) (hro : F.round = none) (hn : 1 ≤ n) (l Bs n₀ b off len cap : Nat) (zs : List Int) (hreach : len * 8 ≤ 140737488351232) (hb : b < n₀) (J Jx : List Int → World → Prop)
 (hY : ∀ pre x W, J pre W → pre.length < len → YieldAt F (n - 1) Tryz.prog l #[.int .i64 x] W fun e W' =>
  (e = .returned (.bool true) ∧ J (pre ++ [x]) W' ∧ Below n₀ W W') ∨ (e = .returned (.bool false) ∧ Jx (pre ++ [x]) W'))
 (W : World) (hBs : W.cell? ⟨Bs, 0, none⟩ = some (.slice (some ⟨b, off, none⟩) len cap)) (hc : ∀ j, j < len → W.cell? ⟨b, off + j, none⟩ = some (.int .i64 (zs[j]?.getD 0))) (h0 : J [] W) :
 CallsIn F n Tryz.prog 309 #[.func (.yield l) #[] #[], .pointer (some ⟨Bs, 0, none⟩)] W fun e W' => (∃ v, e = .returned v) ∧
  ((∃ ys, ys = upto (fun j => zs[j]?.getD 0) len ∧ J ys W') ∨ (∃ pre, (∃ k, k ≤ len ∧ pre = upto (fun j => zs[j]?.getD 0) k) ∧ Jx pre W')) := by
 refine callsIn_of_wp Tryz.func309 rfl h7 ?_ hro
 simp only [Tryz.ntmps309, List.size_toArray, List.length_cons, List.length_nil, Nat.reduceAdd, Nat.reduceSub, Array.replicate_succ, Array.replicate_zero, List.push_toArray, List.append_toArray, List.nil_append, List.cons_append]
 gi_wp2
 gi_loopw [7] (fun i wr => ∃ k : Nat, k ≤ len ∧ i = .int .i64 k ∧ J (upto (fun j => zs[j]?.getD 0) k) wr ∧ Below n₀ W wr)
  (fun i _ => len - (intOf i).toNat)
 case atStart => exact ⟨0, Nat.zero_le _, rfl, h0, Below.refl _ _⟩
 case round =>
  obtain ⟨k, hk, rfl, hJs, hnx⟩ := hrel
  have hcx : k < len → wr.cell? ⟨b, off + k, none⟩ = some (.int .i64 (zs[k]?.getD 0)) := fun h => (hnx.cell (p := ⟨b, off + k, none⟩) hb).trans (hc k h)
  by_cases hlt : k < len
  · obtain ⟨fn, tmps, assign, body, hy, hR⟩ := hY _ (zs[k]?.getD 0) wr hJs (by rw [upto_length]; exact hlt)
    have hcx' := hcx hlt
    gi_wp2
    refine hR.mono ?_
    rintro e W3 (⟨rfl, hJ3, hk3⟩ | ⟨rfl, hJx3⟩)
    · gi_wp2
      go_roundw
      case rel => exact ⟨k + 1, by omega, by simp, by rw [upto_succ]; exact hJ3, hnx.trans hk3⟩
      case measure => simp [intOf]; omega
    · gi_wp2
      refine bodyPost_ret (results_none rfl _ _ _) rfl ?_
      exact ⟨⟨_, rfl⟩, .inr ⟨_, ⟨k + 1, by omega, (upto_succ _ _).symm⟩, hJx3⟩⟩
  · obtain rfl : k = len := by omega
    gi_wp2
    go_end0
    exact ⟨⟨_, rfl⟩, .inl ⟨_, rfl, hJs⟩⟩
def VInts (n₀ : Nat) (W : World) (sv : Value) (zs : List Int) : Prop :=
 (∃ a c, sv = .slice a 0 c ∧ zs = []) ∨ ∃ b off cap, sv = .slice (some ⟨b, off, none⟩) zs.length cap ∧ b < n₀ ∧ ∀ j, j < zs.length → W.cell? ⟨b, off + j, none⟩ = some (.int .i64 (zs[j]?.getD 0))
theorem VInts.below {n₀ : Nat} {A B : World} (h : Below n₀ A B) {sv : Value} {zs : List Int} : VInts n₀ A sv zs → VInts n₀ B sv zs
 | .inl e => .inl e
 | .inr ⟨b, off, cap, e, hb, hc⟩ => .inr ⟨b, off, cap, e, hb, fun j hj => (h.cell (p := ⟨b, off + j, none⟩) hb).trans (hc j hj)⟩
theorem VInts.of {w : World} {v : Value} {zs : List Int} (h : Ints w v zs) : VInts w.heap.size w v zs := by
 obtain ⟨a, c, rfl, _, _, HC⟩ := h.parts
 cases zs with
 | nil => exact .inl ⟨a, c, rfl, rfl⟩
 | cons x t =>
  obtain ⟨b, off, rfl, h0⟩ := HC.out 0 x rfl
  refine .inr ⟨b, off, c, rfl, World.block_lt_of_cell? _ _ h0, fun j hj => ?_⟩
  obtain ⟨y, hy⟩ := elem_at hj
  obtain ⟨b2, off2, e, hc⟩ := HC.out j y hy.out
  injection e with e
  injection e with e1 e2
  subst e1 e2
  rw [hc, hy.out]; rfl
set_option maxRecDepth 100000 in
set_option maxHeartbeats 1000000 in
theorem values1_nil_in (F : Fence) (n : Nat) (h7 : F.fn 309) (hro : F.round = none) (l Bs : Nat) (a : Option Addr) (c : Nat) (J : List Int → World → Prop) (W : World) (hBs : W.cell? ⟨Bs, 0, none⟩ = some (.slice a 0 c)) (h0 : J [] W) :
 CallsIn F n Tryz.prog 309 #[.func (.yield l) #[] #[], .pointer (some ⟨Bs, 0, none⟩)] W fun e W' => (∃ v, e = .returned v) ∧ J [] W' := by
 refine callsIn_of_wp Tryz.func309 rfl h7 ?_ hro
 simp only [Tryz.ntmps309, List.size_toArray, List.length_cons, List.length_nil, Nat.reduceAdd, Nat.reduceSub, Array.replicate_succ, Array.replicate_zero, List.push_toArray, List.append_toArray, List.nil_append, List.cons_append]
 gi_wp2
 gi_loopw [7] (fun i wr => i = .int .i64 0 ∧ J [] wr) (fun _ _ => 0)
 case atStart => exact ⟨rfl, h0⟩
 case round =>
  obtain ⟨rfl, hJs⟩ := hrel
  gi_wp2
  go_end0
  exact ⟨⟨_, rfl⟩, hJs⟩
theorem Values_c (a : Option Addr) (len cap : Nat) (w : World) :
 Calls Tryz.prog 299 #[.slice a len cap] w fun e w' => e = .returned (.func (.func 309) #[] #[.pointer (some ⟨w.heap.size, 0, none⟩)]) ∧ w' = w.alloc (.cells #[.slice a len cap] 37) := by
 go_enter Tryz.func299, Tryz.ntmps299
 go_wp2
 go_ret
 exact ⟨rfl, rfl⟩
theorem values_stops (F : Fence) (n : Nat) (h7 : F.fn 309) (hro : F.round = none) (hn : 1 ≤ n) (Bs n₀ : Nat) (sv : Value) (zs : List Int) (hreach : zs.length * 8 ≤ 140737488351232) (w : World) (hBs : Bs < w.heap.size) (hn₀ : n₀ ≤ w.heap.size)
 (hc : w.cell? ⟨Bs, 0, none⟩ = some sv) (hI : VInts n₀ w sv zs) :
 SeqStopsK F n Tryz.prog 309 #[.pointer (some ⟨Bs, 0, none⟩)] (fun x : Int => #[Value.int .i64 x]) (Below n₀) (fun ys => ys = zs) (fun pre => pre <+: zs) zs.length w := fun l J Jx W hW _ _ hY h0 => by
 have hc' := (hW.cell (p := ⟨Bs, 0, none⟩) hBs).trans hc
 rcases hI.below (hW.mono hn₀) with ⟨a, c, rfl, rfl⟩ | ⟨b, off, cap, rfl, hb, hcs⟩
 · exact (values1_nil_in F n h7 hro l Bs a c J W hc' h0).mono fun e W' ⟨he, hj⟩ => ⟨he, .inl ⟨_, rfl, hj⟩⟩
 · refine (values1_in F n h7 hro hn l Bs n₀ b off zs.length cap zs hreach hb J Jx hY W hc' hcs h0).mono ?_
   rintro e W' ⟨he, ⟨ys, rfl, hj⟩ | ⟨pre, ⟨k, hk, rfl⟩, hj⟩⟩
   · exact ⟨he, .inl ⟨_, upto_all zs, hj⟩⟩
   · exact ⟨he, .inr ⟨_, by rw [upto_take zs hk]; exact List.take_prefix _ _, hj⟩⟩
set_option maxRecDepth 100000 in
set_option maxHeartbeats 2000000 in
theorem appendSeq_in (F : Fence) (n : Nat) (h3 : F.fn 310) (h5 : F.fn 309) (hro : F.round = none) (hn : 3 ≤ n) (Bs : Nat) (sv : Value) (xs : List Int) (hlen : xs.length ≤ 1048576) (w : World) (hBs : Bs < w.heap.size) (hc : w.cell? ⟨Bs, 0, none⟩ = some sv) (hI : VInts w.heap.size w sv xs) :
 CallsIn F n Tryz.prog 310 #[.slice none 0 0, .func (.func 309) #[] #[.pointer (some ⟨Bs, 0, none⟩)]] w fun e W' => ∃ v, e = .returned v ∧ W'.ownsRow w.heap.size 3 1 v xs.length (xs.map (Value.int .i64)) ∧ Below w.heap.size w W' := by
 have h1 : 1 ≤ n := by omega
 obtain ⟨i0, hi, hz0, hz1, hz2⟩ := info_parts info_int
 refine callsIn_of_wp_marks Tryz.func310 rfl h3 ?_ hro
 simp only [Tryz.ntmps310, List.size_toArray, List.length_cons, List.length_nil, Nat.reduceAdd, Nat.reduceSub, Array.replicate_succ, Array.replicate_zero, List.push_toArray, List.append_toArray, List.nil_append, List.cons_append]
 gi_wp2
 have bO := Boxed.new w 37 (.slice none 0 0)
 have hB0 : Below w.heap.size w (w.alloc (.cells #[.slice none 0 0] 37)) := (Below.refl _ w).alloc (Nat.le_refl _) _
 refine wpIn_rangeFunc_ownG hro h1 (gf := 309) (lb := #[.pointer (some ⟨Bs, 0, none⟩)]) rfl h5 (enters_of Tryz.func309 (by kernel_rfl) rfl)
  (values_stops F (n - 1) h5 hro (by omega) Bs w.heap.size sv xs (by omega) _ (by simp; omega) (by simp) (cell_later hB0 hc) (hI.below hB0)) belowK_t (belowK_b (by simp)) (Below.refl _ _) (fun _ => rfl)
  (fun (pre : List Int) W => (∃ v, Boxed W w.heap.size 37 v ∧ W.ownsRow w.heap.size 3 1 v pre.length (pre.map (Value.int .i64)) ∧ True) ∧ Below w.heap.size w W)
  (fun _ _ _ => False)
  (OwnFrom.and (Own.from (holdsRow_own w.heap.size w.heap.size 37 3 1 (fun (pre : List Int) => pre.length) (fun (pre : List Int) => pre.map (Value.int .i64)) (fun (pre : List Int) v => True)) _) (ownFrom_below (Nat.le_refl _) (by simp)))
  (fun _ _ _ _ _ hs _ _ => hs)
  ⟨⟨_, bO, World.ownsRow_nil _ _ _ _, trivial⟩, hB0⟩
  (fun x => { tmps := #[.slice none 0 0, .func (.func 309) #[] #[.pointer (some ⟨Bs, 0, none⟩)], .pointer (some ⟨w.heap.size, 0, none⟩), undef, .slice none 0 0, .int .i64 x, .func (.func 309) #[] #[.pointer (some ⟨Bs, 0, none⟩)], .int .i64 x, undef, undef, undef, undef, undef], defers := [] }) ?assign ?body ?done ?stop
 case assign =>
  intro l x W K hK
  gi_wp2
  exact hK
 case body =>
  rintro l pre x W ⟨⟨v, hv, hrow, _⟩, hB⟩ hlt
  have hc := hv.cell
  gi_wp2_with (gi_at_builtin; refine wpListIn_append_own _ rfl _ _ 37 rfl w.heap.size 3 i0 (.int .i64 0) 1 8 Tryz.underlying37 hi hz0 hz1 hz2 rfl (by decide) _ _ _ rfl (hrow.alloc _) ⟨W.heap.size, 0, none⟩ 1 1 [.int .i64 x] rfl rfl (cell_one_new _ _ _) (by simp [Value.oneCell']) (by unfold maxLen; omega) (by omega) (by have := hB.size; simp; omega) ?_; intro v' w1 hown' hgrow _; obtain ⟨g', cap', rfl⟩ := ownsRow_succ hown'; obtain ⟨hv1, hv2, hr2, hk2, hb2⟩ := hv.appended (by decide) hrow hB.size (Nat.le_refl _) hown' hgrow; have hc1 := hv1.cell; have hf1 := hv1.frozen)
  exact ⟨hk2.from _, hb2, ⟨_, hv2, by simpa using hr2, trivial⟩, hB.trans hb2⟩
 case done =>
  rintro D ys W hD rfl ⟨⟨v, hv, hrow, _⟩, hB⟩ hK
  have hc := hv.cell
  gi_wp2
  refine ⟨by simp, .inl ⟨_, _, rfl, run_takeDeferred hK, ?_⟩⟩
  exact ⟨_, results_tmp rfl _ _ _, v, rfl, ownsRow_putObj hrow _ hK rfl, hB.trans (belowK_b (w := w) (Nat.le_refl _) W D _ _ (by simp at hD; omega) hK rfl rfl)⟩
 case stop =>
  rintro D c pre W _ _ h _
  exact h.elim
theorem AppendSeq_c (Bs : Nat) (sv : Value) (xs : List Int) (hlen : xs.length ≤ 1048576) (w : World) (hBs : Bs < w.heap.size) (hc : w.cell? ⟨Bs, 0, none⟩ = some sv) (hI : VInts w.heap.size w sv xs) :
 Calls Tryz.prog 310 #[.slice none 0 0, .func (.func 309) #[] #[.pointer (some ⟨Bs, 0, none⟩)]] w fun e W' => ∃ v, e = .returned v ∧ W'.ownsRow w.heap.size 3 1 v xs.length (xs.map (Value.int .i64)) ∧ Below w.heap.size w W' :=
 (callsIn_wide (n := 6)).1 (appendSeq_in Fence.wide 6 trivial trivial rfl (by omega) Bs sv xs hlen w hBs hc hI)
end Go.Proofs.YtohgjfdbnkjefaaGreatDoor
namespace Go.Proofs.YtohgjfdbnkjefaaGreatDoor
set_option linter.unusedVariables false
def putR : List Int → Int → List Int
 | [], n => [n]
 | x :: t, n => if x < n then x :: putR t n else if x = n then x :: t else n :: x :: t
def setS (xs : List Int) : List Int := xs.foldl putR []
def setL (xs : List Int) : List Int := Lib.compact (xs.mergeSort fun x y => decide (x ≤ y))
theorem eq_of_lt : ∀ (l1 l2 : List Int), l1.Pairwise (· < ·) → l2.Pairwise (· < ·) → (∀ x, x ∈ l1 ↔ x ∈ l2) → l1 = l2
 | [], [], _, _, _ => rfl
 | [], y :: t, _, _, h => by have := (h y).2 (by simp); simp at this
 | x :: t, [], _, _, h => by have := (h x).1 (by simp); simp at this
 | x :: t, y :: s, h1, h2, h => by
  rw [List.pairwise_cons] at h1 h2
  have hx := (h x).1 (by simp)
  have hy := (h y).2 (by simp)
  have e : x = y := by
   rcases List.mem_cons.1 hx with e | e
   · exact e
   · rcases List.mem_cons.1 hy with e2 | e2
     · exact e2.symm
     · have a := h2.1 x e
       have b := h1.1 y e2
       omega
  subst e
  rw [eq_of_lt t s h1.2 h2.2 (fun z => by
   have hz := h z
   simp only [List.mem_cons] at hz
   constructor
   · intro hm
     have := h1.1 z hm
     rcases hz.1 (.inr hm) with e | e
     · omega
     · exact e
   · intro hm
     have := h2.1 z hm
     rcases hz.2 (.inr hm) with e | e
     · omega
     · exact e)]
theorem putR_mem : ∀ (l : List Int) (n x : Int), x ∈ putR l n ↔ x ∈ l ∨ x = n
 | [], n, x => by simp [putR]
 | y :: t, n, x => by
  unfold putR
  split
  · simp only [List.mem_cons, putR_mem t n x]
    constructor
    · rintro (h | h | h)
      · exact .inl (.inl h)
      · exact .inl (.inr h)
      · exact .inr h
    · rintro ((h | h) | h)
      · exact .inl h
      · exact .inr (.inl h)
      · exact .inr (.inr h)
  · split
    · rename_i h1 h2
      subst h2
      simp only [List.mem_cons]
      constructor
      · intro h; exact .inl h
      · rintro (h | h)
        · exact h
        · exact .inl h
    · simp only [List.mem_cons]
      constructor
      · rintro (h | h)
        · exact .inr h
        · exact .inl h
      · rintro (h | h)
        · exact .inr h
        · exact .inl h
theorem putR_lt : ∀ (l : List Int) (n : Int), l.Pairwise (· < ·) → (putR l n).Pairwise (· < ·)
 | [], n, _ => by simp [putR]
 | y :: t, n, h => by
  rw [List.pairwise_cons] at h
  unfold putR
  split
  · rename_i hlt
    rw [List.pairwise_cons]
    refine ⟨fun z hz => ?_, putR_lt t n h.2⟩
    rcases (putR_mem t n z).1 hz with e | e
    · exact h.1 z e
    · omega
  · split
    · rw [List.pairwise_cons]; exact h
    · rename_i h1 h2
      rw [List.pairwise_cons, List.pairwise_cons]
      refine ⟨fun z hz => ?_, h⟩
      rcases List.mem_cons.1 hz with e | e
      · omega
      · have := h.1 z e; omega
theorem foldl_put (xs : List Int) : ∀ l : List Int, l.Pairwise (· < ·) → (xs.foldl putR l).Pairwise (· < ·) ∧ ∀ x, x ∈ xs.foldl putR l ↔ x ∈ l ∨ x ∈ xs := by
 induction xs with
 | nil => intro l h; exact ⟨h, fun x => by simp⟩
 | cons y t ih =>
  intro l h
  obtain ⟨h1, h2⟩ := ih (putR l y) (putR_lt l y h)
  refine ⟨h1, fun x => ?_⟩
  rw [List.foldl_cons, h2, putR_mem, List.mem_cons, or_assoc]
theorem setS_lt (xs : List Int) : (setS xs).Pairwise (· < ·) := (foldl_put xs [] (by simp)).1
theorem setS_mem (xs : List Int) (x : Int) : x ∈ setS xs ↔ x ∈ xs := by
 have := (foldl_put xs [] (by simp)).2 x
 unfold setS
 rw [this]; simp
theorem compact_sorted (d : Array Int) (hd : ∀ i j, i ≤ j → j < d.size → d[i]! ≤ d[j]!) : ∀ m, m ≤ d.size →
 (Lib.compactUpTo d m).Pairwise (· < ·) ∧ (∀ x, x ∈ Lib.compactUpTo d m ↔ ∃ j, j < m ∧ d[j]! = x)
 | 0, _ => ⟨by simp [Lib.compactUpTo], fun x => by simp [Lib.compactUpTo]⟩
 | m + 1, hm => by
  obtain ⟨h1, h2⟩ := compact_sorted d hd m (by omega)
  rw [Lib.compactUpTo_succ]
  have hle : ∀ x ∈ Lib.compactUpTo d m, x ≤ d[m]! := fun x hx => by
   obtain ⟨j, hj, rfl⟩ := (h2 x).1 hx
   exact hd j m (by omega) (by omega)
  have hmem : (∃ j, j < m + 1 ∧ d[j]! = d[m]!) := ⟨m, by omega, rfl⟩
  cases hk : Lib.keeps d m
  · have hne : ¬ (m = 0 ∨ d[m]! ≠ d[m - 1]!) := by simpa [Lib.keeps] using hk
    have h0 : m ≠ 0 := fun e => hne (.inl e)
    have he : d[m]! = d[m - 1]! := by
     by_cases e : d[m]! = d[m - 1]!
     · exact e
     · exact absurd (.inr e) hne
    simp only [Bool.false_eq_true, if_false, List.append_nil]
    refine ⟨h1, fun x => ?_⟩
    rw [h2]
    constructor
    · rintro ⟨j, hj, e⟩; exact ⟨j, by omega, e⟩
    · rintro ⟨j, hj, e⟩
      by_cases hjm : j = m
      · exact ⟨m - 1, by omega, by rw [← he, ← e, hjm]⟩
      · exact ⟨j, by omega, e⟩
  · have hpos : m = 0 ∨ d[m]! ≠ d[m - 1]! := by simpa [Lib.keeps] using hk
    simp only [if_true]
    refine ⟨?_, fun x => ?_⟩
    · rw [List.pairwise_append]
      refine ⟨h1, by simp, fun x hx y hy => ?_⟩
      simp at hy
      subst hy
      rcases hpos with e | e
      · subst e; simp [Lib.compactUpTo] at hx
      · obtain ⟨j, hj, rfl⟩ := (h2 x).1 hx
        have a := hd j (m - 1) (by omega) (by omega)
        have b := hd (m - 1) m (by omega) (by omega)
        have c : d[m - 1]! ≠ d[m]! := fun h => e h.symm
        omega
    · rw [List.mem_append, h2]
      simp only [List.mem_singleton]
      constructor
      · rintro (⟨j, hj, e⟩ | e)
        · exact ⟨j, by omega, e⟩
        · exact ⟨m, by omega, e.symm⟩
      · rintro ⟨j, hj, e⟩
        by_cases hjm : j = m
        · right; rw [← e, hjm]
        · exact .inl ⟨j, by omega, e⟩
theorem setL_eq (xs : List Int) : setL xs = setS xs := by
 have hp := List.mergeSort_perm xs (fun x y => decide (x ≤ y))
 have hs : (xs.mergeSort fun x y => decide (x ≤ y)).Pairwise (fun a b => decide (a ≤ b) = true) := List.pairwise_mergeSort (fun a b c h1 h2 => by simp at *; omega) (fun a b => by simp; omega) xs
 generalize hz : (xs.mergeSort fun x y => decide (x ≤ y)) = zs at hp hs
 have hd : ∀ i j, i ≤ j → j < zs.toArray.size → zs.toArray[i]! ≤ zs.toArray[j]! := by
  intro i j hij hj
  simp at hj
  rcases Nat.lt_or_ge i j with h | h
  · have := List.pairwise_iff_getElem.1 hs i j (by omega) hj h
    simp at this
    simpa [getElem!_pos, hj, show i < zs.length by omega] using this
  · obtain rfl : i = j := by omega
    exact Int.le_refl _
 obtain ⟨h1, h2⟩ := compact_sorted zs.toArray hd zs.length (by simp)
 unfold setL
 rw [hz]
 refine eq_of_lt _ _ h1 (setS_lt xs) (fun x => ?_)
 have h3 : x ∈ Lib.compact zs ↔ x ∈ zs := by
  unfold Lib.compact
  rw [h2]
  constructor
  · rintro ⟨j, hj, e⟩
    have : zs.toArray[j]! = zs[j] := by simp [getElem!_pos, hj]
    rw [← e, this]; exact List.getElem_mem hj
  · intro hx
    obtain ⟨j, hj, e⟩ := List.getElem_of_mem hx
    exact ⟨j, hj, by simp [getElem!_pos, hj, e]⟩
 rw [h3, setS_mem]
 exact hp.mem_iff
theorem setS_len_le : ∀ (xs l : List Int), (xs.foldl putR l).length ≤ l.length + xs.length
 | [], l => by simp
 | x :: t, l => by
  have h1 := setS_len_le t (putR l x)
  have h2 : ∀ (l : List Int) (n : Int), (putR l n).length ≤ l.length + 1 := by
   intro l n
   induction l with
   | nil => simp [putR]
   | cons y s ih => unfold putR; split <;> (try split) <;> simp <;> omega
  have h3 := h2 l x
  rw [List.foldl_cons, List.length_cons]
  omega
open Go.RowKit
set_option maxRecDepth 100000
theorem Collect_c (Bs : Nat) (sv : Value) (xs : List Int) (hlen : xs.length ≤ 1048576) (w : World) (hBs : Bs < w.heap.size) (hc : w.cell? ⟨Bs, 0, none⟩ = some sv) (hI : VInts w.heap.size w sv xs) :
 Calls Tryz.prog 307 #[.func (.func 309) #[] #[.pointer (some ⟨Bs, 0, none⟩)]] w fun e W' => ∃ v, e = .returned v ∧ W'.ownsRow w.heap.size 3 1 v xs.length (xs.map (Value.int .i64)) ∧ Below w.heap.size w W' := by
 have H := Lib.hid (AppendSeq_c Bs sv xs hlen w hBs hc hI)
 clear hc hI
 go_enter Tryz.func307, Tryz.ntmps307
 go_wp2_with fail
 refine H.out.mono ?_
 rintro e w1 ⟨v, rfl, ho, hb⟩
 go_wp2
 go_ret
 exact ⟨v, rfl, ho, hb⟩
def srt (xs : List Int) : List Int := xs.mergeSort fun x y => decide (x ≤ y)
theorem srt_len (xs : List Int) : (srt xs).length = xs.length := List.length_mergeSort xs
theorem Sort_c (v : Value) (xs : List Int) (lo : Nat) (w : World) (ho : w.ownsRow lo 3 1 v xs.length (xs.map (Value.int .i64))) (hn : xs.length ≤ 1048576) :
 Calls Tryz.prog 308 #[v] w fun e w' => e = .returned (.tuple #[]) ∧ w'.ownsRow lo 3 1 v xs.length ((srt xs).map (Value.int .i64)) ∧ w.grownBy w' v.ownBlock := by
 by_cases hz : xs.length = 0
 · obtain ⟨a, c, rfl, _⟩ := (Sl.of_own ho).slice
   have hx : xs = [] := List.eq_nil_of_length_eq_zero hz
   subst hx
   refine (Tryz.slices_Sort_int_none a c w).mono ?_
   rintro e w' ⟨rfl, rfl⟩
   exact ⟨rfl, by simpa [srt] using ho, World.grownBy.refl _ _⟩
 · have hv : v ≠ .slice none 0 0 := by
    intro e
    obtain ⟨a, c, e2, _⟩ := (Sl.of_own ho).slice
    rw [e] at e2
    injection e2 with _ e3
    omega
   obtain ⟨g, cap, rfl, hlo, hlt, h1, h2, _, hH⟩ := Lib.holds_of_ownsRow ho hv
   refine (Tryz.slices_Sort_int g 0 cap xs w hH hlt (by omega)).mono ?_
   rintro e w' ⟨rfl, n, os, rfl⟩
   rcases ho.2 with ⟨h0, _⟩ | ⟨g', cap', cur, hv2, hbase, hb, h1', h2', h3, h4⟩
   · cases h0
   · cases hv2
     exact ⟨rfl, ownsRow_sortedI (srt_len xs) hlo hb h1 h2 h3, grownBy_sortedI _⟩
theorem Sorted_c (Bs : Nat) (sv : Value) (xs : List Int) (hlen : xs.length ≤ 1048576) (w : World) (hBs : Bs < w.heap.size) (hc : w.cell? ⟨Bs, 0, none⟩ = some sv) (hI : VInts w.heap.size w sv xs) :
 Calls Tryz.prog 298 #[.func (.func 309) #[] #[.pointer (some ⟨Bs, 0, none⟩)]] w fun e W' => ∃ v, e = .returned v ∧ W'.ownsRow w.heap.size 3 1 v xs.length ((srt xs).map (Value.int .i64)) ∧ Below w.heap.size w W' := by
 have H := Lib.hid (Collect_c Bs sv xs hlen w hBs hc hI)
 have HS := Lib.hid (fun v w h => Sort_c v xs w.heap.size w h hlen)
 clear hc hI
 go_enter Tryz.func298, Tryz.ntmps298
 go_wp2_with fail
 refine H.out.mono ?_
 rintro e w1 ⟨v, rfl, ho, hb⟩
 have ho0 := ho
 obtain ⟨a, c, rfl, _⟩ := (Sl.of_own ho).slice
 go_wp2_with fail
 refine (Sort_c _ xs w.heap.size w1 ho hlen).mono ?_
 rintro e w2 ⟨rfl, ho2, hg2⟩
 have hb2 : Below w.heap.size w w2 := hb.grown hg2 hb.size (fun g hg => (ho0.lt g hg).1)
 clear ho ho0 hg2
 go_wp2
 go_ret
 exact ⟨_, rfl, ho2, hb2⟩
theorem Compact_c (v : Value) (xs : List Int) (lo : Nat) (w : World) (ho : w.ownsRow lo 3 1 v xs.length (xs.map (Value.int .i64))) (hn : xs.length ≤ 1048576) :
 Calls Tryz.prog 297 #[v] w fun e w' => ∃ u, e = .returned u ∧ w'.ownsRow lo 3 1 u (Lib.compact xs).length ((Lib.compact xs).map (Value.int .i64)) ∧ w.grownBy w' v.ownBlock := by
 by_cases hz : xs.length = 0
 · obtain ⟨a, c, rfl, _⟩ := (Sl.of_own ho).slice
   have hx : xs = [] := List.eq_nil_of_length_eq_zero hz
   subst hx
   refine (Tryz.slices_Compact_int_empty a c w).mono ?_
   rintro e w' ⟨rfl, rfl⟩
   exact ⟨_, rfl, by simpa [Lib.compact, Lib.compactUpTo] using ho, World.grownBy.refl _ _⟩
 · have hv : v ≠ .slice none 0 0 := by
    intro e
    obtain ⟨a, c, e2, _⟩ := (Sl.of_own ho).slice
    rw [e] at e2
    injection e2 with _ e3
    omega
   obtain ⟨g, cap, rfl, hlo, hlt, h1, h2, _, hH⟩ := Lib.holds_of_ownsRow ho hv
   refine (Tryz.slices_Compact_int g 0 cap xs w hH (by omega) h1).mono ?_
   rintro e w' ⟨rfl, q, rfl⟩
   have hle := Lib.compact_length_le xs
   have h3 := Lib.ownsRow_putRow (q := q) (k := (Lib.compact xs).length) (ys := Lib.compact xs ++ List.replicate (xs.length - (Lib.compact xs).length) 0) ho (by simp; omega) hle
   rw [List.take_left] at h3
   refine ⟨_, rfl, h3, ?_⟩
   have h4 := grownBy_sortedI (w := w) (g := g) (n := q) (os := #[]) (Lib.compact xs ++ List.replicate (xs.length - (Lib.compact xs).length) 0).toArray
   rw [Sort.grow_empty] at h4
   exact h4
theorem setOf_c (v : Value) (xs : List Int) (w : World) (hv : Ints w v xs) (hn : xs.length ≤ 1048576) :
 Calls Tryz.prog 280 #[v] w fun e w' => ∃ u, e = .returned u ∧ w'.ownsRow w.heap.size 3 1 u (setS xs).length ((setS xs).map (Value.int .i64)) ∧ Below w.heap.size w w' := by
 have hV := VInts.of hv
 obtain ⟨a, c, rfl, _, _, _⟩ := hv.parts
 have hb0 := below_one (w := w) (.cells #[.slice a xs.length c] 37)
 have hV1 := Lib.hid ((VInts.of (hv.below hb0)))
 have q0 : (w.alloc (.cells #[.slice a xs.length c] 37)).cell? ⟨w.heap.size, 0, none⟩ = some (.slice a xs.length c) := by rw [World.cell?_alloc_at _ _ _ _ rfl]; rfl
 have HS := Lib.hid (Sorted_c w.heap.size (.slice a xs.length c) xs hn (w.alloc (.cells #[.slice a xs.length c] 37)) (by simp) q0 hV1.out)
 clear hV hv q0 hV1
 go_enter Tryz.func280, Tryz.ntmps280
 go_wp2_with fail
 refine (Values_c a xs.length c w).mono ?_
 rintro e w' ⟨rfl, rfl⟩
 go_wp2_with fail
 refine HS.out.mono ?_
 rintro e w1 ⟨u, rfl, ho, hb⟩
 have ho1 : w1.ownsRow w.heap.size 3 1 u (srt xs).length ((srt xs).map (Value.int .i64)) := own_lo (ownsRow_cast ho (srt_len xs).symm rfl) (by simp)
 have hb1 := Below.chain hb0 hb
 have hnl : (srt xs).length ≤ 1048576 := by rw [srt_len]; exact hn
 have HE : Hid (Lib.compact (srt xs) = setS xs) := setL_eq xs
 have HO := Lib.hid ho1
 clear ho hb hb0 ho1
 go_wp2_with fail
 refine (Compact_c u (srt xs) w.heap.size w1 HO.out hnl).mono ?_
 rintro e w2 ⟨u2, rfl, ho2, hg2⟩
 have hb2 : Below w.heap.size w w2 := hb1.grown hg2 hb1.size (fun g hg => (HO.out.lt g hg).1)
 rw [HE.out] at ho2
 clear hg2
 go_wp2
 go_ret
 exact ⟨_, rfl, ho2, hb2⟩
end Go.Proofs.YtohgjfdbnkjefaaGreatDoor
namespace Go.Proofs.YtohgjfdbnkjefaaGreatDoor
open Go.RowKit
set_option linter.unusedVariables false
section
variable {P : Program} {w : World}
theorem step_append_at {ops : Array Oper} {o : Oper} {a : Act} {K : Act → World → Prop} {Q : Exit → Act → World → Prop} {E : Prop} (hgd : o.guard = none) (s x : Operand) (t : TypeId)
 (ho : o.op = .call { callee := .builtin .append, args := #[s, x], argTypes := #[t, t] })
 (base : Nat) (e : TypeId) (i : TypeInfo) (z : Value) (size bytes : Nat) (ht : P.underlying t = some (.slice e)) (hi : P.info? e = some i) (hz : i.zero = some z)
 (hsize : i.size = size) (hby : i.bytes = bytes) (hzs : z.cells.size = size) (hsz : 0 < size)
 (v : Value) (n : Nat) (xs : List Value) (hs : a.eval s = v) (hown : w.ownsRow base e size v n xs)
 (ad : Addr) (m c : Nat) (news : List Value) (hx : a.eval x = .slice (some ad) m c) (hl : news.length = m * size) (hnews : ∀ j u, news[j]? = some u → w.cell? (ad.add j) = some u) (h1 : ∀ u ∈ news, u.oneCell' = true)
 (h63 : n + m ≤ maxLen) (hbytes : (n + m) * bytes ≤ 140737488355328) (hbase : base ≤ w.heap.size)
 (h : ∀ v' w', w'.ownsRow base e size v' (n + m) (xs ++ news) → w.grownBy w' v.ownBlock → (v'.ownBlock = v.ownBlock ∨ v'.ownBlock = some w.heap.size) → K (a.put o.dst v') w') :
 if Region.wanted o (yielded ops a.tmps) = true then Oper.wp P o a w K Q else E := by
 have hw : Region.wanted o (yielded ops a.tmps) = true := by simp [Region.wanted, hgd]
 rw [if_pos hw]
 obtain ⟨v', w', hr, h2, h3, _, h5⟩ := run_append_own_at (P := P) (w := w) base t o.type e i z size bytes ht hi hz hsize hby hzs hsz v n xs hown ad m c news hl hnews h1 h63 hbytes hbase
 unfold Oper.wp execOp
 simp only [ho, resolve, invoke, builtin, Sem.run_bind, Sem.run_pure, Result.andThen_ok, List.map_toArray, List.map_cons, List.map_nil, hs, hx, hr]
 exact h v' w' h2 h3 h5
end
end Go.Proofs.YtohgjfdbnkjefaaGreatDoor
namespace Go.Proofs.YtohgjfdbnkjefaaGreatDoor
end Go.Proofs.YtohgjfdbnkjefaaGreatDoor
namespace Go.Proofs.YtohgjfdbnkjefaaGreatDoor
open Go.RowKit
set_option linter.unusedVariables false
set_option linter.unusedSimpArgs false
set_option maxRecDepth 100000
attribute [local go_sem ↓] Go.wp_at_zero Go.wp_at_succ
end Go.Proofs.YtohgjfdbnkjefaaGreatDoor
namespace Go.Proofs.YtohgjfdbnkjefaaGreatDoor
end Go.Proofs.YtohgjfdbnkjefaaGreatDoor
namespace Go.Proofs.YtohgjfdbnkjefaaGreatDoor
open Go.RowKit
set_option linter.unusedVariables false
set_option maxRecDepth 100000
attribute [local go_sem ↓] Go.wp_at_zero Go.wp_at_succ
theorem setS_len (xs : List Int) : (setS xs).length ≤ xs.length := by
 have := setS_len_le xs []
 simpa [setS] using this
theorem erase_len {l : List Int} {i : Nat} (h : i < l.length) : (l.eraseIdx i).length = i + (l.length - (i + 1)) := by
 rw [List.length_eraseIdx]; simp [h]; omega
theorem testB_erase {l : List Int} (h : testB l = true) (i : Nat) : testB (l.eraseIdx i) = true := by
 unfold testB at *
 simp only [Bool.and_eq_true, decide_eq_true_eq, List.all_eq_true] at *
 exact ⟨Nat.le_trans (List.length_eraseIdx_le _ _) h.1, fun x hx => h.2 x (List.mem_of_mem_eraseIdx hx)⟩
theorem testB_set {l : List Int} (h : testB l = true) : testB (setS l) = true := by
 unfold testB at *
 simp only [Bool.and_eq_true, decide_eq_true_eq, List.all_eq_true] at *
 exact ⟨Nat.le_trans (setS_len l) h.1, fun x hx => h.2 x ((setS_mem l x).1 hx)⟩
def leastL (l : List Int) : Bool := ((List.range l.length).all fun i => !fullB (l.eraseIdx i)) && fullB l
theorem leastL_bad {l : List Int} {i : Nat} (hi : i < l.length) (h : fullB (l.eraseIdx i) = true) : leastL l = false := by
 unfold leastL
 rw [Bool.and_eq_false_iff]; left
 rw [Bool.eq_false_iff]; intro h2
 rw [List.all_eq_true] at h2
 have := h2 i (List.mem_range.2 hi)
 rw [h] at this; cases this
theorem leastL_ok {l : List Int} (h : ∀ i, i < l.length → fullB (l.eraseIdx i) = false) : leastL l = fullB l := by
 unfold leastL
 have : ((List.range l.length).all fun i => !fullB (l.eraseIdx i)) = true := by
  rw [List.all_eq_true]; intro i hi
  rw [h i (List.mem_range.1 hi)]; rfl
 rw [this]; rfl
end Go.Proofs.YtohgjfdbnkjefaaGreatDoor
namespace Go.Proofs.YtohgjfdbnkjefaaGreatDoor
end Go.Proofs.YtohgjfdbnkjefaaGreatDoor
