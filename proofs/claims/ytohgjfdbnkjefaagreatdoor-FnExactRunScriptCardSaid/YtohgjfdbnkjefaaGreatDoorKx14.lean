/- Texts of this claim, gathered: SetOf, App, Put, Least, Short, Least2, Short2, Short3, Short4, Lts, Bench4, Cwm. -/
import Derived.Test.YtohgjfdbnkjefaaGreatDoorKx13
import Derived.Sort.OwnSortedInts
import Derived.Lib.OwnBridge
import Derived.Deep.AppendLies
import Derived.Deep.RegionHeld3
import Derived.Maps.AppendAt
import Derived.OrdersHeld
import Derived.Deep.DrawnRows
namespace Go.Proofs.YtohgjfdbnkjefaaGreatDoor
open Go.RowKit
set_option linter.unusedVariables false
set_option maxRecDepth 100000
theorem Collect_c (Bs : Nat) (sv : Value) (xs : List Int) (hlen : xs.length ≤ 1048576) (w : World) (hBs : Bs < w.heap.size) (hc : w.cell? ⟨Bs, 0, none⟩ = some sv) (hI : VInts w.heap.size w sv xs) :
 Calls Tryz.prog 307 #[.func (.func 309) #[] #[.pointer (some ⟨Bs, 0, none⟩)]] w fun e W' => ∃ v, e = .returned v ∧ W'.ownsRow w.heap.size 3 1 v xs.length (xs.map (Value.int .i64)) ∧ Below w.heap.size w W' := by
 have H := Lib.hid (AppendSeq_c Bs sv xs hlen w hBs hc hI)
 clear hc hI
 go_enter Tryz.func307, Tryz.ntmps307
 go_wp2_with fail
 refine H.out.mono ?_
 rintro e w1 ⟨v, rfl, ho, hb⟩
 go_wp2
 go_ret
 exact ⟨v, rfl, ho, hb⟩
def srt (xs : List Int) : List Int := xs.mergeSort fun x y => decide (x ≤ y)
theorem srt_len (xs : List Int) : (srt xs).length = xs.length := List.length_mergeSort xs
theorem Sort_c (v : Value) (xs : List Int) (lo : Nat) (w : World) (ho : w.ownsRow lo 3 1 v xs.length (xs.map (Value.int .i64))) (hn : xs.length ≤ 1048576) :
 Calls Tryz.prog 308 #[v] w fun e w' => e = .returned (.tuple #[]) ∧ w'.ownsRow lo 3 1 v xs.length ((srt xs).map (Value.int .i64)) ∧ w.grownBy w' v.ownBlock := by
 by_cases hz : xs.length = 0
 · obtain ⟨a, c, rfl, _⟩ := (Sl.of_own ho).slice
   have hx : xs = [] := List.eq_nil_of_length_eq_zero hz
   subst hx
   refine (Tryz.slices_Sort_int_none a c w).mono ?_
   rintro e w' ⟨rfl, rfl⟩
   exact ⟨rfl, by simpa [srt] using ho, World.grownBy.refl _ _⟩
 · have hv : v ≠ .slice none 0 0 := by
    intro e
    obtain ⟨a, c, e2, _⟩ := (Sl.of_own ho).slice
    rw [e] at e2
    injection e2 with _ e3
    omega
   obtain ⟨g, cap, rfl, hlo, hlt, h1, h2, _, hH⟩ := Lib.holds_of_ownsRow ho hv
   refine (Tryz.slices_Sort_int g 0 cap xs w hH hlt (by omega)).mono ?_
   rintro e w' ⟨rfl, n, os, rfl⟩
   rcases ho.2 with ⟨h0, _⟩ | ⟨g', cap', cur, hv2, hbase, hb, h1', h2', h3, h4⟩
   · cases h0
   · cases hv2
     exact ⟨rfl, ownsRow_sortedI (srt_len xs) hlo hb h1 h2 h3, grownBy_sortedI _⟩
theorem Sorted_c (Bs : Nat) (sv : Value) (xs : List Int) (hlen : xs.length ≤ 1048576) (w : World) (hBs : Bs < w.heap.size) (hc : w.cell? ⟨Bs, 0, none⟩ = some sv) (hI : VInts w.heap.size w sv xs) :
 Calls Tryz.prog 298 #[.func (.func 309) #[] #[.pointer (some ⟨Bs, 0, none⟩)]] w fun e W' => ∃ v, e = .returned v ∧ W'.ownsRow w.heap.size 3 1 v xs.length ((srt xs).map (Value.int .i64)) ∧ Below w.heap.size w W' := by
 have H := Lib.hid (Collect_c Bs sv xs hlen w hBs hc hI)
 have HS := Lib.hid (fun v w h => Sort_c v xs w.heap.size w h hlen)
 clear hc hI
 go_enter Tryz.func298, Tryz.ntmps298
 go_wp2_with fail
 refine H.out.mono ?_
 rintro e w1 ⟨v, rfl, ho, hb⟩
 have ho0 := ho
 obtain ⟨a, c, rfl, _⟩ := (Sl.of_own ho).slice
 go_wp2_with fail
 refine (Sort_c _ xs w.heap.size w1 ho hlen).mono ?_
 rintro e w2 ⟨rfl, ho2, hg2⟩
 have hb2 : Below w.heap.size w w2 := hb.grown hg2 hb.size (fun g hg => (ho0.lt g hg).1)
 clear ho ho0 hg2
 go_wp2
 go_ret
 exact ⟨_, rfl, ho2, hb2⟩
theorem Compact_c (v : Value) (xs : List Int) (lo : Nat) (w : World) (ho : w.ownsRow lo 3 1 v xs.length (xs.map (Value.int .i64))) (hn : xs.length ≤ 1048576) :
 Calls Tryz.prog 297 #[v] w fun e w' => ∃ u, e = .returned u ∧ w'.ownsRow lo 3 1 u (Lib.compact xs).length ((Lib.compact xs).map (Value.int .i64)) ∧ w.grownBy w' v.ownBlock := by
 by_cases hz : xs.length = 0
 · obtain ⟨a, c, rfl, _⟩ := (Sl.of_own ho).slice
   have hx : xs = [] := List.eq_nil_of_length_eq_zero hz
   subst hx
   refine (Tryz.slices_Compact_int_empty a c w).mono ?_
   rintro e w' ⟨rfl, rfl⟩
   exact ⟨_, rfl, by simpa [Lib.compact, Lib.compactUpTo] using ho, World.grownBy.refl _ _⟩
 · have hv : v ≠ .slice none 0 0 := by
    intro e
    obtain ⟨a, c, e2, _⟩ := (Sl.of_own ho).slice
    rw [e] at e2
    injection e2 with _ e3
    omega
   obtain ⟨g, cap, rfl, hlo, hlt, h1, h2, _, hH⟩ := Lib.holds_of_ownsRow ho hv
   refine (Tryz.slices_Compact_int g 0 cap xs w hH (by omega) h1).mono ?_
   rintro e w' ⟨rfl, q, rfl⟩
   have hle := Lib.compact_length_le xs
   have h3 := Lib.ownsRow_putRow (q := q) (k := (Lib.compact xs).length) (ys := Lib.compact xs ++ List.replicate (xs.length - (Lib.compact xs).length) 0) ho (by simp; omega) hle
   rw [List.take_left] at h3
   refine ⟨_, rfl, h3, ?_⟩
   have h4 := grownBy_sortedI (w := w) (g := g) (n := q) (os := #[]) (Lib.compact xs ++ List.replicate (xs.length - (Lib.compact xs).length) 0).toArray
   rw [Sort.grow_empty] at h4
   exact h4
theorem setOf_c (v : Value) (xs : List Int) (w : World) (hv : Ints w v xs) (hn : xs.length ≤ 1048576) :
 Calls Tryz.prog 280 #[v] w fun e w' => ∃ u, e = .returned u ∧ w'.ownsRow w.heap.size 3 1 u (setS xs).length ((setS xs).map (Value.int .i64)) ∧ Below w.heap.size w w' := by
 have hV := VInts.of hv
 obtain ⟨a, c, rfl, _, _, _⟩ := hv.parts
 have hb0 := below_one (w := w) (.cells #[.slice a xs.length c] 37)
 have hV1 := Lib.hid ((VInts.of (hv.below hb0)))
 have q0 : (w.alloc (.cells #[.slice a xs.length c] 37)).cell? ⟨w.heap.size, 0, none⟩ = some (.slice a xs.length c) := by rw [World.cell?_alloc_at _ _ _ _ rfl]; rfl
 have HS := Lib.hid (Sorted_c w.heap.size (.slice a xs.length c) xs hn (w.alloc (.cells #[.slice a xs.length c] 37)) (by simp) q0 hV1.out)
 clear hV hv q0 hV1
 go_enter Tryz.func280, Tryz.ntmps280
 go_wp2_with fail
 refine (Values_c a xs.length c w).mono ?_
 rintro e w' ⟨rfl, rfl⟩
 go_wp2_with fail
 refine HS.out.mono ?_
 rintro e w1 ⟨u, rfl, ho, hb⟩
 have ho1 : w1.ownsRow w.heap.size 3 1 u (srt xs).length ((srt xs).map (Value.int .i64)) := own_lo (ownsRow_cast ho (srt_len xs).symm rfl) (by simp)
 have hb1 := Below.chain hb0 hb
 have hnl : (srt xs).length ≤ 1048576 := by rw [srt_len]; exact hn
 have HE : Hid (Lib.compact (srt xs) = setS xs) := setL_eq xs
 have HO := Lib.hid ho1
 clear ho hb hb0 ho1
 go_wp2_with fail
 refine (Compact_c u (srt xs) w.heap.size w1 HO.out hnl).mono ?_
 rintro e w2 ⟨u2, rfl, ho2, hg2⟩
 have hb2 : Below w.heap.size w w2 := hb1.grown hg2 hb1.size (fun g hg => (HO.out.lt g hg).1)
 rw [HE.out] at ho2
 clear hg2
 go_wp2
 go_ret
 exact ⟨_, rfl, ho2, hb2⟩
end Go.Proofs.YtohgjfdbnkjefaaGreatDoor
namespace Go.Proofs.YtohgjfdbnkjefaaGreatDoor
open Go.RowKit
set_option linter.unusedVariables false
section
variable {P : Program} {w : World}
theorem step_append_at {ops : Array Oper} {o : Oper} {a : Act} {K : Act → World → Prop} {Q : Exit → Act → World → Prop} {E : Prop} (hgd : o.guard = none) (s x : Operand) (t : TypeId)
 (ho : o.op = .call { callee := .builtin .append, args := #[s, x], argTypes := #[t, t] })
 (base : Nat) (e : TypeId) (i : TypeInfo) (z : Value) (size bytes : Nat) (ht : P.underlying t = some (.slice e)) (hi : P.info? e = some i) (hz : i.zero = some z)
 (hsize : i.size = size) (hby : i.bytes = bytes) (hzs : z.cells.size = size) (hsz : 0 < size)
 (v : Value) (n : Nat) (xs : List Value) (hs : a.eval s = v) (hown : w.ownsRow base e size v n xs)
 (ad : Addr) (m c : Nat) (news : List Value) (hx : a.eval x = .slice (some ad) m c) (hl : news.length = m * size) (hnews : ∀ j u, news[j]? = some u → w.cell? (ad.add j) = some u) (h1 : ∀ u ∈ news, u.oneCell' = true)
 (h63 : n + m ≤ maxLen) (hbytes : (n + m) * bytes ≤ 140737488355328) (hbase : base ≤ w.heap.size)
 (h : ∀ v' w', w'.ownsRow base e size v' (n + m) (xs ++ news) → w.grownBy w' v.ownBlock → (v'.ownBlock = v.ownBlock ∨ v'.ownBlock = some w.heap.size) → K (a.put o.dst v') w') :
 if Region.wanted o (yielded ops a.tmps) = true then Oper.wp P o a w K Q else E := by
 have hw : Region.wanted o (yielded ops a.tmps) = true := by simp [Region.wanted, hgd]
 rw [if_pos hw]
 obtain ⟨v', w', hr, h2, h3, _, h5⟩ := run_append_own_at (P := P) (w := w) base t o.type e i z size bytes ht hi hz hsize hby hzs hsz v n xs hown ad m c news hl hnews h1 h63 hbytes hbase
 unfold Oper.wp execOp
 simp only [ho, resolve, invoke, builtin, Sem.run_bind, Sem.run_pure, Result.andThen_ok, List.map_toArray, List.map_cons, List.map_nil, hs, hx, hr]
 exact h v' w' h2 h3 h5
end
theorem own_take {w : World} {lo g cap n : Nat} {e : TypeId} {l : List Int} (h : w.ownsRow lo e 1 (.slice (some ⟨g, 0, none⟩) n cap) n (ints l)) (k : Nat) : ∀ j u, (ints (l.take k))[j]? = some u → w.cell? ((⟨g, 0, none⟩ : Addr).add j) = some u := by
 intro j u hu
 rw [Addr.add_lit, Nat.zero_add]
 have hlen : (ints l).length = n * 1 := h.1
 have hu2 : (ints l)[j]? = some u := by
  simp only [ints, List.map_take, List.getElem?_take] at hu ⊢
  split at hu
  · exact hu
  · cases hu
 have hj := (List.getElem?_eq_some_iff.1 hu2).1
 rw [h.cellAt j (by omega)]; exact hu2
theorem own_drop {w : World} {lo g cap n : Nat} {e : TypeId} {l : List Int} (h : w.ownsRow lo e 1 (.slice (some ⟨g, 0, none⟩) n cap) n (ints l)) (k : Nat) : ∀ j u, (ints (l.drop k))[j]? = some u → w.cell? ((⟨g, k, none⟩ : Addr).add j) = some u := by
 intro j u hu
 rw [Addr.add_lit]
 have hlen : (ints l).length = n * 1 := h.1
 have hu2 : (ints l)[k + j]? = some u := by simpa [ints, List.map_drop] using hu
 have hj := (List.getElem?_eq_some_iff.1 hu2).1
 rw [h.cellAt (k + j) (by omega)]; exact hu2
end Go.Proofs.YtohgjfdbnkjefaaGreatDoor
namespace Go.Proofs.YtohgjfdbnkjefaaGreatDoor
end Go.Proofs.YtohgjfdbnkjefaaGreatDoor
namespace Go.Proofs.YtohgjfdbnkjefaaGreatDoor
open Go.RowKit
set_option linter.unusedVariables false
set_option linter.unusedSimpArgs false
set_option maxRecDepth 100000
attribute [local go_sem ↓] Go.wp_at_zero Go.wp_at_succ
end Go.Proofs.YtohgjfdbnkjefaaGreatDoor
namespace Go.Proofs.YtohgjfdbnkjefaaGreatDoor
end Go.Proofs.YtohgjfdbnkjefaaGreatDoor
namespace Go.Proofs.YtohgjfdbnkjefaaGreatDoor
open Go.RowKit
set_option linter.unusedVariables false
set_option maxRecDepth 100000
attribute [local go_sem ↓] Go.wp_at_zero Go.wp_at_succ
theorem setS_len (xs : List Int) : (setS xs).length ≤ xs.length := by
 have := setS_len_le xs []
 simpa [setS] using this
theorem l1Own_c (ad : Addr) (n c : Nat) (xs : List Int) (w : World) (hc : ∀ j u, (ints xs)[j]? = some u → w.cell? (ad.add j) = some u) (hn : xs.length = n) (hn2 : n ≤ 1000) :
 Calls Tryz.prog 170 #[.slice (some ad) n c] w fun e w' => ∃ u, e = .returned u ∧ w'.ownsRow w.heap.size 3 1 u n (ints xs) ∧ Below w.heap.size w w' := by
 obtain ⟨i, hi, hz0, hz1, hz2⟩ := info_parts info_int
 have hc1 : ∀ j u, (ints xs)[j]? = some u → (w.alloc (.cells #[] 3)).cell? (ad.add j) = some u := fun j u h => by
  have h1 := hc j u h
  have hlt := World.block_lt_of_cell? _ _ h1
  exact (Below.cell (below_one (w := w) (.cells #[] 3)) (p := ad.add j) hlt).trans h1
 have ho0 := World.ownsRow_lit (e := 3) (size := 1) (base := w.heap.size) w #[] 0 (Nat.le_refl _) (by decide) rfl
 have HC := Lib.hid hc1
 clear hc hc1
 go_enter Tryz.func170, Tryz.ntmps170
 go_wp2_with (at_builtin; refine wpList_append_own_at _ rfl _ _ 37 rfl w.heap.size 3 i (.int .i64 0) 1 8 Tryz.underlying37 hi hz0 hz1 hz2 rfl (by decide) _ 0 [] rfl ho0 ad n c (ints xs) rfl (by simp [hn]) HC.out ints_one (by unfold maxLen; omega) (by omega) (by simp) ?_)
 intro v' w1 ho1 hg1 _ _
 have hb1 : Below w.heap.size w w1 := (below_one _).grown hg1 (by simp) (fun g hg => (ho0.lt g hg).1)
 go_wp2
 go_ret
 exact ⟨_, rfl, ownsRow_cast ho1 (by simp) (by simp), hb1⟩
theorem erase_ints (l : List Int) (i : Nat) : ints (l.take i) ++ ints (l.drop (i + 1)) = ints (l.eraseIdx i) := by
 rw [List.eraseIdx_eq_take_drop_succ]; simp [ints]
theorem erase_len {l : List Int} {i : Nat} (h : i < l.length) : (l.eraseIdx i).length = i + (l.length - (i + 1)) := by
 rw [List.length_eraseIdx]; simp [h]; omega
theorem testB_erase {l : List Int} (h : testB l = true) (i : Nat) : testB (l.eraseIdx i) = true := by
 unfold testB at *
 simp only [Bool.and_eq_true, decide_eq_true_eq, List.all_eq_true] at *
 exact ⟨Nat.le_trans (List.length_eraseIdx_le _ _) h.1, fun x hx => h.2 x (List.mem_of_mem_eraseIdx hx)⟩
theorem testB_set {l : List Int} (h : testB l = true) : testB (setS l) = true := by
 unfold testB at *
 simp only [Bool.and_eq_true, decide_eq_true_eq, List.all_eq_true] at *
 exact ⟨Nat.le_trans (setS_len l) h.1, fun x hx => h.2 x ((setS_mem l x).1 hx)⟩
def leastL (l : List Int) : Bool := ((List.range l.length).all fun i => !fullB (l.eraseIdx i)) && fullB l
theorem leastL_bad {l : List Int} {i : Nat} (hi : i < l.length) (h : fullB (l.eraseIdx i) = true) : leastL l = false := by
 unfold leastL
 rw [Bool.and_eq_false_iff]; left
 rw [Bool.eq_false_iff]; intro h2
 rw [List.all_eq_true] at h2
 have := h2 i (List.mem_range.2 hi)
 rw [h] at this; cases this
theorem leastL_ok {l : List Int} (h : ∀ i, i < l.length → fullB (l.eraseIdx i) = false) : leastL l = fullB l := by
 unfold leastL
 have : ((List.range l.length).all fun i => !fullB (l.eraseIdx i)) = true := by
  rw [List.all_eq_true]; intro i hi
  rw [h i (List.mem_range.1 hi)]; rfl
 rw [this]; rfl
set_option maxHeartbeats 2000000 in
theorem l7Least_c (g cap lo : Nat) (l : List Int) (w : World) (ho : w.ownsRow lo 3 1 (.slice (some ⟨g, 0, none⟩) l.length cap) l.length (ints l)) (ht : testB l = true) :
 Calls Tryz.prog 227 #[.slice (some ⟨g, 0, none⟩) l.length cap] w fun e w' => e = .returned (.bool (leastL l)) ∧ Below w.heap.size w w' := by
 obtain ⟨inf, hi, hz0, hz1, hz2⟩ := info_parts info_int
 have hI := Ints.of_own ho
 obtain ⟨a, c, e0, hlc, hcm, _⟩ := hI.parts
 injection e0 with e1 _ e3
 subst e1 e3
 have hlen : l.length ≤ 10 := by unfold testB at ht; simp only [Bool.and_eq_true, decide_eq_true_eq] at ht; exact ht.1
 have HO := Lib.hid ho; have HT := Lib.hid ht
 clear ho hI ht
 go_enter Tryz.func227, Tryz.ntmps227
 go_wp2
 go_loopw [3] (fun i wr => ∃ k : Nat, k ≤ l.length ∧ i = .int .i64 (k : Int) ∧ Hid (∀ j, j < k → fullB (l.eraseIdx j) = false) ∧ Below w.heap.size w wr) (fun i _ => l.length - (intOf i).toNat)
 case atStart => exact ⟨0, by omega, rfl, fun j h => by omega, Below.refl _ _⟩
 case round =>
  obtain ⟨k, hk, rfl, hbef, hb⟩ := hrel
  by_cases hlt : k < l.length
  · have hd : decide ((k : Int) < (l.length : Int)) = true := by simp; omega
    have n0 : (0 : Int) ≤ (k : Int) := by omega
    have n1 : (k : Int) ≤ (l.length : Int) := by omega
    have n2 : (l.length : Int) ≤ (cap : Int) := by omega
    have n3 : (k : Int) + 1 ≤ (l.length : Int) := by omega
    have n4 : (0 : Int) ≤ (k : Int) + 1 := by omega
    have n5 : (k : Int) ≤ (cap : Int) := by omega
    have n6 : ((k : Int) + 1).toNat = k + 1 := by omega
    have hw : IntKind.i64.wrap ((k : Int) + 1) = (k : Int) + 1 := IntWalk.i64_in _ (by omega)
    have HB := Lib.hid hb
    have HOr := Lib.hid (own_keep HO.out hb)
    have hte := Lib.hid (testB_erase HT.out k)
    have HE := Lib.hid (erase_len hlt)
    clear hb
    by_cases hce : cap = k + 1
    · have hck : (cap = k + 1) = True := by simp [hce]
      have HCE := Lib.hid hce
      clear hce
      go_wp2
      go_region_held3 (fun _ => True) (trivial)
       (first | (go_at_call 170; refine (l1Own_c ⟨g, 0, none⟩ k cap (l.take k) _ (own_take (own_keep HOr.out (Below.refl _ _).drew) k) (by simp; omega) (by omega)).mono ?_; rintro e wa ⟨u, rfl, hou, hbb⟩; have hbc : Below wr.heap.size wr wa := Below.chain (Below.refl _ _).drew hbb; have hsz := hbc.size) | (go_at_call 226; refine (l7Full_c v2 (l.eraseIdx k) _ hI2 hte.out).mono ?_; rintro e wc ⟨rfl, hbd⟩; have hbe := Below.chain hb2 hbd) | (refine step_append_at (by rfl) _ _ _ (by rfl) wr.heap.size 3 inf (.int .i64 0) 1 8 Tryz.underlying37 hi hz0 hz1 hz2 rfl (by decide) u k (ints (l.take k)) (by rfl) (own_lo hou (by simp)) _ _ _ [] (by rfl) (by have := HCE.out; simp; omega) (fun j u hj => by simp at hj) (by simp) (by unfold maxLen; omega) (by omega) hsz ?_; intro v2 wb hO2 hg2 hat2; have hb2 : Below wr.heap.size wr wb := hbc.grown hg2 hsz (fun q hq => by have := (hou.lt q hq).1; simp at this; omega); have hI2 : Ints wb v2 (l.eraseIdx k) := Ints.of_own (ownsRow_cast hO2 (by rw [HE.out]) (show ints (l.take k) ++ [] = ints (l.eraseIdx k) by rw [← erase_ints, List.drop_eq_nil_of_le (by have := HCE.out; omega)]; simp [ints]))))
      rcases hq : fullB (l.eraseIdx k) with _ | _
      · have HN : Hid (∀ j, j < k + 1 → fullB (l.eraseIdx j) = false) := fun j hj => by
         by_cases hj2 : j < k
         · exact hbef.out j hj2
         · obtain rfl : j = k := by omega
           exact hq
        have hb9 := Below.chain HB.out hbe
        clear hbef hbe hb2 hI2 hO2 hg2 hbc hbb hou hbd
        go_wp2
        go_roundw
        case rel => exact ⟨k + 1, by omega, by go_num, HN, hb9⟩
        case measure => simp [intOf]; omega
      · have HF := Lib.hid (leastL_bad hlt hq)
        have hb9 := Below.chain HB.out hbe
        clear hbef hbe hb2 hI2 hO2 hg2 hbc hbb hou hbd
        go_wp2
        go_ret
        exact ⟨by rw [HF.out]; rfl, hb9⟩
    · have hck : (cap = k + 1) = False := by simp [hce]
      go_wp2
      go_region_held3 (fun _ => True) (trivial)
       (first | (go_at_call 170; refine (l1Own_c ⟨g, 0, none⟩ k cap (l.take k) _ (own_take (own_keep HOr.out (Below.refl _ _).drew) k) (by simp; omega) (by omega)).mono ?_; rintro e wa ⟨u, rfl, hou, hbb⟩; have hbc : Below wr.heap.size wr wa := Below.chain (Below.refl _ _).drew hbb; have hsz := hbc.size) | (go_at_call 226; refine (l7Full_c v2 (l.eraseIdx k) _ hI2 hte.out).mono ?_; rintro e wc ⟨rfl, hbd⟩; have hbe := Below.chain hb2 hbd) | (refine step_append_at (by rfl) _ _ _ (by rfl) wr.heap.size 3 inf (.int .i64 0) 1 8 Tryz.underlying37 hi hz0 hz1 hz2 rfl (by decide) u k (ints (l.take k)) (by rfl) (own_lo hou (by simp)) ⟨g, k + 1, none⟩ (l.length - (k + 1)) _ (ints (l.drop (k + 1))) (by rfl) (by simp) (own_drop (own_keep HOr.out hbc) (k + 1)) ints_one (by unfold maxLen; omega) (by omega) hsz ?_; intro v2 wb hO2 hg2 hat2; have hb2 : Below wr.heap.size wr wb := hbc.grown hg2 hsz (fun q hq => by have := (hou.lt q hq).1; simp at this; omega); have hI2 : Ints wb v2 (l.eraseIdx k) := Ints.of_own (ownsRow_cast hO2 (by rw [HE.out]) (show ints (l.take k) ++ ints (l.drop (k + 1)) = ints (l.eraseIdx k) from erase_ints l k))))
      rcases hq : fullB (l.eraseIdx k) with _ | _
      · have HN : Hid (∀ j, j < k + 1 → fullB (l.eraseIdx j) = false) := fun j hj => by
         by_cases hj2 : j < k
         · exact hbef.out j hj2
         · obtain rfl : j = k := by omega
           exact hq
        have hb9 := Below.chain HB.out hbe
        clear hbef hbe hb2 hI2 hO2 hg2 hbc hbb hou hbd
        go_wp2
        go_roundw
        case rel => exact ⟨k + 1, by omega, by go_num, HN, hb9⟩
        case measure => simp [intOf]; omega
      · have HF := Lib.hid (leastL_bad hlt hq)
        have hb9 := Below.chain HB.out hbe
        clear hbef hbe hb2 hI2 hO2 hg2 hbc hbb hou hbd
        go_wp2
        go_ret
        exact ⟨by rw [HF.out]; rfl, hb9⟩
  · obtain rfl : k = l.length := by omega
    have HF := Lib.hid (leastL_ok hbef.out)
    have hI2 := Lib.hid (Ints.of_own (own_keep HO.out hb))
    go_wp2_with fail
    refine (l7Full_c _ l _ hI2.out HT.out).mono ?_
    rintro e w2 ⟨rfl, hb2⟩
    have hb3 := Below.chain hb hb2
    go_wp2
    go_ret
    exact ⟨by rw [HF.out]; rfl, hb3⟩
end Go.Proofs.YtohgjfdbnkjefaaGreatDoor
namespace Go.Proofs.YtohgjfdbnkjefaaGreatDoor
open Go.RowKit
set_option linter.unusedVariables false
def befL : List Int → List Int → Bool
 | [], [] => false
 | [], _ :: _ => true
 | _ :: _, [] => false
 | x :: s, y :: t => if x = y then befL s t else decide (x < y)
theorem befL_irr : ∀ a : List Int, befL a a = false
 | [] => rfl
 | x :: s => by simp [befL, befL_irr s]
theorem befL_trans : ∀ a b c : List Int, befL a b = true → befL b c = true → befL a c = true
 | [], [], _, h, _ => by simp [befL] at h
 | [], _ :: _, [], _, h => by simp [befL] at h
 | [], _ :: _, _ :: _, _, _ => rfl
 | _ :: _, [], _, h, _ => by simp [befL] at h
 | _ :: _, _ :: _, [], _, h => by simp [befL] at h
 | x :: s, y :: t, z :: u, h1, h2 => by
  unfold befL at *
  by_cases e1 : x = y
  · subst e1
    rw [if_pos rfl] at h1
    by_cases e2 : x = z
    · subst e2
      rw [if_pos rfl] at h2 ⊢
      exact befL_trans s t u h1 h2
    · rw [if_neg e2] at h2 ⊢; exact h2
  · rw [if_neg e1] at h1
    simp at h1
    by_cases e2 : y = z
    · subst e2
      rw [if_neg e1]; simpa using h1
    · rw [if_neg e2] at h2
      simp at h2
      rw [if_neg (by omega)]; simp; omega
theorem befL_tri : ∀ a b : List Int, befL a b = false → befL b a = false → a = b
 | [], [], _, _ => rfl
 | [], _ :: _, h, _ => by simp [befL] at h
 | _ :: _, [], _, h => by simp [befL] at h
 | x :: s, y :: t, h1, h2 => by
  unfold befL at *
  by_cases e : x = y
  · subst e
    rw [if_pos rfl] at h1 h2
    rw [befL_tri s t h1 h2]
  · rw [if_neg e] at h1
    rw [if_neg (fun h => e h.symm)] at h2
    simp at h1 h2
    omega
theorem befL_asym {a b : List Int} (h : befL a b = true) : befL b a = false := by
 rw [Bool.eq_false_iff]; intro h2
 have := befL_trans a b a h h2
 rw [befL_irr] at this; cases this
theorem befL_cons (x : Int) (s t : List Int) : befL (x :: s) (x :: t) = befL s t := by simp [befL]
theorem loopE_cons (x : Int) (t part : List Int) : loopE (x :: t) part = ((part ++ [x]) :: loopE t (part ++ [x])) ++ loopE t part := rfl
theorem befL_pre : ∀ (p a b : List Int), befL (p ++ a) (p ++ b) = befL a b
 | [], _, _ => rfl
 | x :: p, a, b => by
  show befL (x :: (p ++ a)) (x :: (p ++ b)) = _
  rw [befL_cons]; exact befL_pre p a b
def stepA (b : Option (List Int)) (p : List Int) : Option (List Int) := if fullB p && (match b with | none => true | some m => decide (p.length < m.length)) then some p else b
def bestA (ps : List (List Int)) : Option (List Int) := ps.foldl stepA none
theorem loopE_form : ∀ (l part q : List Int), q ∈ loopE l part → ∃ y r, q = part ++ y :: r ∧ y ∈ l
 | [], part, q, h => by simp [loopE] at h
 | x :: t, part, q, h => by
  rw [loopE_cons] at h
  rcases List.mem_append.1 h with h | h
  · rcases List.mem_cons.1 h with h | h
    · exact ⟨x, [], by rw [h], by simp⟩
    · obtain ⟨y, r, e, _⟩ := loopE_form t (part ++ [x]) q h
      exact ⟨x, y :: r, by rw [e]; simp, by simp⟩
  · obtain ⟨y, r, e, hy⟩ := loopE_form t part q h
    exact ⟨y, r, e, List.mem_cons_of_mem _ hy⟩
theorem loopE_lex : ∀ (l part : List Int), l.Pairwise (· < ·) → (loopE l part).Pairwise (fun a b => befL a b = true)
 | [], part, _ => by simp [loopE]
 | x :: t, part, h => by
  rw [List.pairwise_cons] at h
  rw [loopE_cons, List.pairwise_append]
  refine ⟨?_, loopE_lex t part h.2, fun a ha b hb => ?_⟩
  · rw [List.pairwise_cons]
    refine ⟨fun q hq => ?_, loopE_lex t (part ++ [x]) h.2⟩
    obtain ⟨y, r, e, _⟩ := loopE_form t (part ++ [x]) q hq
    rw [e]
    have := befL_pre (part ++ [x]) [] (y :: r)
    rw [List.append_nil] at this
    rw [this]; rfl
  · obtain ⟨y, r, e, hy⟩ := loopE_form t part b hb
    have hx : ∃ r2, a = part ++ x :: r2 := by
     rcases List.mem_cons.1 ha with ha | ha
     · exact ⟨[], ha⟩
     · obtain ⟨z, r2, e2, _⟩ := loopE_form t (part ++ [x]) a ha
       exact ⟨z :: r2, by rw [e2]; simp⟩
    obtain ⟨r2, e2⟩ := hx
    rw [e, e2, befL_pre]
    have := h.1 y hy
    unfold befL
    rw [if_neg (by omega)]; simpa using this
theorem subsL_lex (set : List Int) (h : set.Pairwise (· < ·)) : (subsL set).Pairwise (fun a b => befL a b = true) := by
 unfold subsL
 rw [List.pairwise_cons]
 refine ⟨fun q hq => ?_, loopE_lex set [] h⟩
 obtain ⟨y, r, e, _⟩ := loopE_form set [] q hq
 rw [e]; rfl
theorem mem_parts : ∀ (l part q : List Int), q ∈ part :: loopE l part ↔ ∃ s, s < 2 ^ l.length ∧ q = part ++ digsL l s
 | [], part, q => by
  simp [loopE, digsL, pick, prtL]
 | x :: t, part, q => by
  have h1 := mem_parts t (part ++ [x]) q
  have h2 := mem_parts t part q
  have e : q ∈ part :: loopE (x :: t) part ↔ (q ∈ part :: loopE t part ∨ q ∈ (part ++ [x]) :: loopE t (part ++ [x])) := by
   rw [loopE_cons]
   simp only [List.mem_cons, List.mem_append]
   constructor
   · rintro (h | ((h | h) | h))
     · exact .inl (.inl h)
     · exact .inr (.inl h)
     · exact .inr (.inr h)
     · exact .inl (.inr h)
   · rintro ((h | h) | (h | h))
     · exact .inl h
     · exact .inr (.inr h)
     · exact .inr (.inl (.inl h))
     · exact .inr (.inl (.inr h))
  rw [e, h1, h2, List.length_cons, Nat.pow_succ]
  constructor
  · rintro (⟨s, hs, h⟩ | ⟨s, hs, h⟩)
    · exact ⟨s, by omega, by rw [digsL_low hs]; exact h⟩
    · exact ⟨2 ^ t.length + s, by omega, by rw [digsL_high hs, h]; simp⟩
  · rintro ⟨s, hs, h⟩
    by_cases hlt : s < 2 ^ t.length
    · left; exact ⟨s, hlt, by rw [digsL_low hlt] at h; exact h⟩
    · right
      refine ⟨s - 2 ^ t.length, by omega, ?_⟩
      have e2 : s = 2 ^ t.length + (s - 2 ^ t.length) := by omega
      rw [e2, digsL_high (by omega)] at h
      rw [h]; simp
def partsS (set : List Int) (n : Nat) : List (List Int) := (List.range n).map (digsL set)
theorem partsS_succ (set : List Int) (n : Nat) : partsS set (n + 1) = partsS set n ++ [digsL set n] := by unfold partsS; rw [List.range_succ, List.map_append]; rfl
set_option maxRecDepth 100000
theorem Delete_c (v : Value) (xs : List Int) (i lo : Nat) (w : World) (ho : w.ownsRow lo 3 1 v xs.length (ints xs)) (hi : i < xs.length) (hn : xs.length ≤ 1000) :
 Calls Tryz.prog 281 #[v, .int .i64 (i : Int), .int .i64 ((i : Int) + 1)] w fun e w' => ∃ u, e = .returned u ∧ w'.ownsRow lo 3 1 u (xs.eraseIdx i).length (ints (xs.eraseIdx i)) ∧ w.grownBy w' v.ownBlock := by
 have hv : v ≠ .slice none 0 0 := by
  intro e
  obtain ⟨a, c, e2, _⟩ := (Sl.of_own ho).slice
  rw [e] at e2
  injection e2 with _ e3
  omega
 obtain ⟨g, cap, rfl, hlo, hlt, h1, h2, _, hH⟩ := Lib.holds_of_ownsRow ho hv
 unfold maxLen at h2
 have H := Tryz.slices_Delete_int g 0 cap i (i + 1) xs w hH h1 (by omega) (by omega) (by omega)
 rw [show ((i + 1 : Nat) : Int) = (i : Int) + 1 by omega] at H
 refine H.mono ?_
 rintro e w' ⟨rfl, q, rfl⟩
 have hl := erase_len hi
 have h3 := Lib.ownsRow_putRow (q := q) (k := (xs.eraseIdx i).length) (ys := xs.take i ++ xs.drop (i + 1) ++ List.replicate (i + 1 - i) 0) ho (by simp; omega) (by omega)
 have e3 : List.take (xs.eraseIdx i).length (xs.take i ++ xs.drop (i + 1) ++ List.replicate (i + 1 - i) (0 : Int)) = xs.eraseIdx i := by rw [← List.eraseIdx_eq_take_drop_succ, List.take_left]
 rw [e3] at h3
 have h4 := grownBy_sortedI (w := w) (g := g) (n := q) (os := #[]) (xs.take i ++ xs.drop (i + 1) ++ List.replicate (i + 1 - i) 0).toArray
 rw [Sort.grow_empty] at h4
 exact ⟨_, rfl, by rw [show xs.length - (i + 1 - i) = (xs.eraseIdx i).length by omega]; exact h3, h4⟩
set_option maxHeartbeats 2000000 in
theorem isLeast_c (v : Value) (xs : List Int) (w : World) (hv : Ints w v xs) (ht : testB xs = true) :
 Calls Tryz.prog 253 #[v] w fun e w' => e = .returned (.bool (leastL (setS xs))) ∧ Below w.heap.size w w' := by
 have hlen : xs.length ≤ 10 := by unfold testB at ht; simp only [Bool.and_eq_true, decide_eq_true_eq] at ht; exact ht.1
 have HS := Lib.hid (setOf_c v xs w hv (by omega))
 have hts := testB_set ht
 have hsl := setS_len xs
 clear hv ht
 generalize setS xs = l at *
 have hll : l.length ≤ 10 := by omega
 have HT := Lib.hid hts; clear hts hsl
 go_enter Tryz.func253, Tryz.ntmps253
 go_wp2_with fail
 refine HS.out.mono ?_
 rintro e w1 ⟨u, rfl, ho, hb1⟩
 have hIu := Ints.of_own ho
 obtain ⟨ua, uc, rfl, _, _, _⟩ := hIu.parts
 have HI := Lib.hid hIu
 clear ho hIu
 go_wp2
 go_loopw [9] (fun i wr => ∃ k : Nat, k ≤ l.length ∧ i = .int .i64 (k : Int) ∧ Hid (∀ j, j < k → fullB (l.eraseIdx j) = false) ∧ Below w1.heap.size w1 wr) (fun i _ => l.length - (intOf i).toNat)
 case atStart => exact ⟨0, by omega, rfl, fun j h => by omega, Below.refl _ _⟩
 case round =>
  obtain ⟨k, hk, rfl, hbef, hb⟩ := hrel
  by_cases hlt : k < l.length
  · have hd : decide ((k : Int) < (l.length : Int)) = true := by simp; omega
    have HC := Lib.hid (Clone_c _ l wr (HI.out.below hb) (by omega))
    have hte := Lib.hid (testB_erase HT.out k)
    go_wp2_with fail
    refine HC.out.mono ?_
    rintro e w2 ⟨u2, rfl, ho2, hb2⟩
    have HD := Lib.hid (Delete_c u2 l k wr.heap.size w2 ho2 hlt (by omega))
    have HO2 := Lib.hid ho2
    clear ho2
    go_wp2_with fail
    refine HD.out.mono ?_
    rintro e w3 ⟨u3, rfl, ho3, hg3⟩
    have hb3 : Below wr.heap.size wr w3 := hb2.grown hg3 hb2.size (fun q hq => (HO2.out.lt q hq).1)
    have hI3 := Lib.hid (Ints.of_own ho3)
    clear ho3 hg3 hb2
    go_wp2_with fail
    refine (isFull_c u3 (l.eraseIdx k) _ hI3.out hte.out).mono ?_
    rintro e w4 ⟨rfl, hb4⟩
    have hb5 := Below.chain hb (Below.chain hb3 hb4)
    clear hb hb3 hb4
    rcases hq : fullB (l.eraseIdx k) with _ | _
    · have HN : Hid (∀ j, j < k + 1 → fullB (l.eraseIdx j) = false) := fun j hj => by
       by_cases hj2 : j < k
       · exact hbef.out j hj2
       · obtain rfl : j = k := by omega
         exact hq
      clear hbef
      go_wp2
      go_roundw
      case rel => exact ⟨k + 1, by omega, by go_num, HN, hb5⟩
      case measure => simp [intOf]; omega
    · have HF := Lib.hid (leastL_bad hlt hq)
      have hb9 := Below.chain hb1 hb5
      clear hbef
      go_wp2
      go_ret
      exact ⟨by rw [HF.out]; rfl, hb9⟩
  · obtain rfl : k = l.length := by omega
    have HF := Lib.hid (leastL_ok hbef.out)
    have hI2 := Lib.hid (HI.out.below hb)
    go_wp2_with fail
    refine (isFull_c _ l _ hI2.out HT.out).mono ?_
    rintro e w2 ⟨rfl, hb2⟩
    have hb3 := Below.chain hb1 (Below.chain hb hb2)
    go_wp2
    go_ret
    exact ⟨by rw [HF.out]; rfl, hb3⟩
theorem befL_step {a b : List Int} {k : Nat} {x : Int} (ha : a[k]? = some x) (hb : b[k]? = some x) : befL (a.drop k) (b.drop k) = befL (a.drop (k + 1)) (b.drop (k + 1)) := by
 have e1 : a.drop k = x :: a.drop (k + 1) := by
  have hlt := (List.getElem?_eq_some_iff.1 ha).1
  rw [List.drop_eq_getElem_cons hlt]
  rw [List.getElem?_eq_getElem hlt] at ha
  rw [Option.some.inj ha]
 have e2 : b.drop k = x :: b.drop (k + 1) := by
  have hlt := (List.getElem?_eq_some_iff.1 hb).1
  rw [List.drop_eq_getElem_cons hlt]
  rw [List.getElem?_eq_getElem hlt] at hb
  rw [Option.some.inj hb]
 rw [e1, e2, befL_cons]
theorem befL_diff {a b : List Int} {k : Nat} {x y : Int} (ha : a[k]? = some x) (hb : b[k]? = some y) (hne : x ≠ y) : befL (a.drop k) (b.drop k) = decide (x < y) := by
 have e1 : a.drop k = x :: a.drop (k + 1) := by
  have hlt := (List.getElem?_eq_some_iff.1 ha).1
  rw [List.drop_eq_getElem_cons hlt]
  rw [List.getElem?_eq_getElem hlt] at ha
  rw [Option.some.inj ha]
 have e2 : b.drop k = y :: b.drop (k + 1) := by
  have hlt := (List.getElem?_eq_some_iff.1 hb).1
  rw [List.drop_eq_getElem_cons hlt]
  rw [List.getElem?_eq_getElem hlt] at hb
  rw [Option.some.inj hb]
 rw [e1, e2]
 unfold befL
 rw [if_neg hne]
theorem befL_end {a b : List Int} {k : Nat} (h : k = a.length ∨ k = b.length) (ha : k ≤ a.length) (hb : k ≤ b.length) : befL (a.drop k) (b.drop k) = decide (a.length < b.length) := by
 rcases h with h | h
 · subst h
   rw [List.drop_length]
   cases hd : b.drop a.length with
   | nil =>
    have := List.drop_eq_nil_iff.1 hd
    simp [befL]; omega
   | cons y t =>
    have : a.length < b.length := by
     rcases Nat.lt_or_ge a.length b.length with h | h
     · exact h
     · rw [List.drop_eq_nil_of_le h] at hd; cases hd
    simp [befL]; omega
 · subst h
   rw [show b.drop b.length = [] by simp]
   cases hd : a.drop b.length with
   | nil =>
    have := List.drop_eq_nil_iff.1 hd
    simp [befL]; omega
   | cons y t =>
    simp [befL]; omega
set_option maxHeartbeats 1000000 in
theorem l7Before_c (v1 v2 : Value) (a b : List Int) (w : World) (h1 : Ints w v1 a) (h2 : Ints w v2 b) :
 Calls Tryz.prog 228 #[v1, v2] w fun e w' => e = .returned (.bool (befL a b)) ∧ Below w.heap.size w w' := by
 have m1 := h1.le; have m2 := h2.le
 obtain ⟨a1, c1, rfl, _, _, H1⟩ := h1.parts
 obtain ⟨a2, c2, rfl, _, _, H2⟩ := h2.parts
 clear h1 h2
 go_enter Tryz.func228, Tryz.ntmps228
 go_wp2
 go_loopw [5] (fun i wr => ∃ k : Nat, k ≤ a.length ∧ k ≤ b.length ∧ i = .int .i64 (k : Int) ∧ Hid (befL a b = befL (a.drop k) (b.drop k)) ∧ Below w.heap.size w wr) (fun i _ => a.length - (intOf i).toNat)
 case atStart => exact ⟨0, by omega, by omega, rfl, rfl, Below.refl _ _⟩
 case round =>
  obtain ⟨k, hk1, hk2, rfl, hbe, hb⟩ := hrel
  by_cases hlt1 : k < a.length
  · have hd1 : decide ((k : Int) < (a.length : Int)) = true := by simp; omega
    by_cases hlt2 : k < b.length
    · have hd2 : decide ((k : Int) < (b.length : Int)) = true := by simp; omega
      have n0 : (0 : Int) ≤ (k : Int) := by omega
      obtain ⟨x, hx⟩ := elem_at hlt1
      obtain ⟨y, hy⟩ := elem_at hlt2
      obtain ⟨b1, o1, rfl, f1⟩ := H1.out k x hx.out
      obtain ⟨b2, o2, rfl, f2⟩ := H2.out k y hy.out
      have g1 := cell_later hb f1
      have g2 := cell_later hb f2
      clear f1 f2
      rcases hxy : (x != y) with _ | _
      · have hE : x = y := by simpa using hxy
        have HN : Hid (befL a b = befL (a.drop (k + 1)) (b.drop (k + 1))) := by
         show _ = _
         rw [hbe.out]; exact befL_step hx.out (by rw [hy.out, hE])
        clear hbe hE
        go_wp2
        go_quiet (fail)
        go_wp2
        go_roundw
        case rel => exact ⟨k + 1, by omega, by omega, by go_num, HN, below_drewN hb⟩
        case measure => simp [intOf]; omega
      · have hE : x ≠ y := by simpa using hxy
        have HN := Lib.hid (show befL a b = decide (x < y) by rw [hbe.out]; exact befL_diff hx.out hy.out hE)
        clear hbe hE
        go_wp2
        go_quiet (fail)
        go_wp2
        go_quiet (fail)
        go_wp2
        go_ret
        exact ⟨by rw [HN.out]; rfl, below_drewN (below_drewN hb)⟩
    · have hd2 : decide ((k : Int) < (b.length : Int)) = false := by simp; omega
      have HN := Lib.hid (show befL a b = decide (a.length < b.length) by rw [hbe.out]; exact befL_end (.inr (by omega)) (by omega) (by omega))
      clear hbe
      go_wp2
      go_ret
      exact ⟨by rw [HN.out]; rfl, hb⟩
  · have hd1 : decide ((k : Int) < (a.length : Int)) = false := by simp; omega
    have HN := Lib.hid (show befL a b = decide (a.length < b.length) by rw [hbe.out]; exact befL_end (.inl (by omega)) (by omega) (by omega))
    clear hbe
    go_wp2
    go_ret
    exact ⟨by rw [HN.out]; rfl, hb⟩
theorem full_nil : fullB [] = false := by decide
def BestV (lo m : Nat) (w : World) (bv : Value) : Option (List Int) → Prop
 | none => bv = .slice none 0 0
 | some b => b ≠ [] ∧ b.length ≤ 10 ∧ w.ownsRow lo 3 1 bv b.length (ints b) ∧ ∃ g cap, bv = .slice (some ⟨g, 0, none⟩) b.length cap ∧ g ≠ m
structure StI (lo m : Nat) (done : List (List Int)) (w : World) : Prop where
 lm : lo ≤ m
 fm : w.frozen? ⟨m, 0, none⟩ = false
 best : ∃ bv, w.cell? ⟨m, 0, none⟩ = some bv ∧ BestV lo m w bv (bestA done)
theorem BestV.keep {lo m : Nat} {w w' : World} {bv : Value} {r : Option (List Int)} (h : BestV lo m w bv r) (hb : Below w.heap.size w w') : BestV lo m w' bv r := by
 cases r with
 | none => exact h
 | some b => exact ⟨h.1, h.2.1, own_keep h.2.2.1 hb, h.2.2.2⟩
theorem StI.keep {lo m : Nat} {done : List (List Int)} {w w' : World} (h : StI lo m done w) (hb : Below w.heap.size w w') : StI lo m done w' := by
 obtain ⟨bv, hc, hB⟩ := h.best
 exact ⟨h.lm, by rw [hb.frozen (p := ⟨m, 0, none⟩) (World.block_lt_of_cell? _ _ hc)]; exact h.fm, bv, cell_later hb hc, hB.keep hb⟩
theorem digs_len (S : List Int) (n : Nat) : (digsL S n).length ≤ S.length := by
 unfold digsL pick; rw [List.length_map]; exact prtL_le _ _ _
theorem digs_mem {S : List Int} {n : Nat} {y : Int} (h : y ∈ digsL S n) : y ∈ S := by
 unfold digsL pick at h
 rw [List.mem_map] at h
 obtain ⟨z, hz, rfl⟩ := h
 obtain ⟨p, rfl, hp⟩ := prtL_mem hz
 have : S[p]? = some S[p] := List.getElem?_eq_getElem hp
 simp [List.getD, this]
theorem digs_test {S : List Int} (hl : S.length ≤ 10) (hd : ∀ y ∈ S, digitB y = true) (n : Nat) : testB (digsL S n) = true := by
 unfold testB
 rw [Bool.and_eq_true, decide_eq_true_eq, List.all_eq_true]
 exact ⟨Nat.le_trans (digs_len S n) hl, fun y hy => hd y (digs_mem hy)⟩
def insB : List (List Int) → List Int → List (List Int)
 | [], p => [p]
 | q :: t, p => if befL q p then q :: insB t p else p :: q :: t
theorem insB_at : ∀ (l : List (List Int)) (p : List Int) (k : Nat), k ≤ l.length → (∀ j x, j < k → l[j]? = some x → befL x p = true) → (∀ x, l[k]? = some x → befL x p = false) → insB l p = l.take k ++ p :: l.drop k
 | [], p, k, hk, _, _ => by simp at hk; subst hk; simp [insB]
 | y :: t, p, 0, _, _, h0 => by
  have := h0 y rfl
  unfold insB
  rw [this]; simp
 | y :: t, p, k + 1, hk, hb, h0 => by
  have hy := hb 0 y (by omega) rfl
  have ih := insB_at t p k (by simpa using hk) (fun j x hj hx => hb (j + 1) x (by omega) (by simpa using hx)) (fun x hx => h0 x (by simpa using hx))
  unfold insB
  rw [hy, ih]
  simp
theorem insB_mem : ∀ (l : List (List Int)) (p x : List Int), x ∈ insB l p ↔ x = p ∨ x ∈ l
 | [], p, x => by simp [insB]
 | y :: t, p, x => by
  have ih := insB_mem t p x
  unfold insB
  cases befL y p
  · simp
  · simp only [if_true, List.mem_cons, ih]
    constructor
    · rintro (h | h | h); exact .inr (.inl h); exact .inl h; exact .inr (.inr h)
    · rintro (h | h | h); exact .inr (.inl h); exact .inl h; exact .inr (.inr h)
theorem insB_len : ∀ (l : List (List Int)) (p : List Int), (insB l p).length = l.length + 1
 | [], p => rfl
 | y :: t, p => by
  have ih := insB_len t p
  unfold insB
  cases befL y p <;> simp [ih]
theorem insB_pw : ∀ (l : List (List Int)) (p : List Int), l.Pairwise (fun a b => befL a b = true) → p ∉ l → (insB l p).Pairwise (fun a b => befL a b = true)
 | [], p, _, _ => by simp [insB]
 | y :: t, p, h, hn => by
  rw [List.pairwise_cons] at h
  have ih := insB_pw t p h.2 (fun hm => hn (List.mem_cons_of_mem _ hm))
  unfold insB
  cases hb : befL y p
  · have hyp : befL p y = true := by
     cases h2 : befL p y
     · exact absurd (befL_tri y p hb h2) (fun e => hn (by rw [e]; simp))
     · rfl
    rw [if_neg (by simp), List.pairwise_cons, List.pairwise_cons]
    refine ⟨fun z hz => ?_, h⟩
    rcases List.mem_cons.1 hz with e | e
    · rw [e]; exact hyp
    · exact befL_trans _ _ _ hyp (h.1 z e)
  · rw [if_pos rfl, List.pairwise_cons]
    refine ⟨fun z hz => ?_, ih⟩
    rcases (insB_mem t p z).1 hz with e | e
    · rw [e]; exact hb
    · exact h.1 z e
theorem eq_of_bef : ∀ (l1 l2 : List (List Int)), l1.Pairwise (fun a b => befL a b = true) → l2.Pairwise (fun a b => befL a b = true) → (∀ x, x ∈ l1 ↔ x ∈ l2) → l1 = l2
 | [], [], _, _, _ => rfl
 | [], y :: t, _, _, h => by have := (h y).2 (by simp); simp at this
 | x :: t, [], _, _, h => by have := (h x).1 (by simp); simp at this
 | x :: t, y :: s, h1, h2, h => by
  rw [List.pairwise_cons] at h1 h2
  have hx := (h x).1 (by simp)
  have hy := (h y).2 (by simp)
  have e : x = y := by
   rcases List.mem_cons.1 hx with e | e
   · exact e
   · rcases List.mem_cons.1 hy with e2 | e2
     · exact e2.symm
     · have a := h2.1 x e
       have b := h1.1 y e2
       rw [befL_asym a] at b; cases b
  subst e
  rw [eq_of_bef t s h1.2 h2.2 (fun z => by
   have hz := h z
   simp only [List.mem_cons] at hz
   constructor
   · intro hm
     have := h1.1 z hm
     rcases hz.1 (.inr hm) with e | e
     · rw [e, befL_irr] at this; cases this
     · exact e
   · intro hm
     have := h2.1 z hm
     rcases hz.2 (.inr hm) with e | e
     · rw [e, befL_irr] at this; cases this
     · exact e)]
def backN (l : List Int) : Nat := l.foldl (fun a x => a + 2 ^ (9 - x.toNat)) 0
set_option maxRecDepth 100000 in
theorem backN_digs : ∀ s, s < 1024 → backN (digsL tenI s) = s := by decide +kernel
set_option maxRecDepth 100000 in
theorem setS_digs : ∀ s, s < 1024 → setS (digsL tenI s) = digsL tenI s := by decide +kernel
def ltN (n : Nat) : List (List Int) := (partsS tenI n).foldl (fun l p => if leastL p then insB l p else l) []
theorem ltN_succ (n : Nat) : ltN (n + 1) = if leastL (digsL tenI n) then insB (ltN n) (digsL tenI n) else ltN n := by
 unfold ltN; rw [partsS_succ, List.foldl_append]; rfl
theorem ltN_len : ∀ n, (ltN n).length ≤ n
 | 0 => by simp [ltN, partsS]
 | n + 1 => by
  have := ltN_len n
  rw [ltN_succ]
  split
  · rw [insB_len]; omega
  · omega
theorem ltN_is : ∀ n, n ≤ 1024 → (ltN n).Pairwise (fun a b => befL a b = true) ∧ ∀ x, x ∈ ltN n ↔ ∃ s, s < n ∧ x = digsL tenI s ∧ leastL x = true
 | 0, _ => by simp [ltN, partsS]
 | n + 1, hn => by
  obtain ⟨h1, h2⟩ := ltN_is n (by omega)
  rw [ltN_succ]
  cases hl : leastL (digsL tenI n)
  · refine ⟨h1, fun x => ?_⟩
    rw [if_neg (by simp), h2]
    constructor
    · rintro ⟨s, a, b, c⟩; exact ⟨s, by omega, b, c⟩
    · rintro ⟨s, a, b, c⟩
      by_cases e : s = n
      · subst e; rw [b, hl] at c; cases c
      · exact ⟨s, by omega, b, c⟩
  · rw [if_pos rfl]
    refine ⟨insB_pw _ _ h1 (fun hm => ?_), fun x => ?_⟩
    · obtain ⟨s, a, b, _⟩ := (h2 _).1 hm
      have e1 := backN_digs n (by omega)
      rw [b, backN_digs s (by omega)] at e1
      omega
    · rw [insB_mem, h2]
      constructor
      · rintro (e | ⟨s, a, b, c⟩)
        · exact ⟨n, by omega, e, by rw [e]; exact hl⟩
        · exact ⟨s, by omega, b, c⟩
      · rintro ⟨s, a, b, c⟩
        by_cases e : s = n
        · subst e; exact .inl b
        · exact .inr ⟨s, by omega, b, c⟩
def ltA : List (List Int) := (subsL tenI).filter fun p => leastL (setS p)
theorem tenI_lt : tenI.Pairwise (· < ·) := by decide
theorem ltA_eq : ltA = ltN 1024 := by
 have hI := ltN_is 1024 (Nat.le_refl _)
 refine eq_of_bef _ _ ((subsL_lex tenI tenI_lt).filter _) hI.1 (fun x => ?_)
 unfold ltA
 rw [hI.2, List.mem_filter]
 have hm := mem_parts tenI [] x
 constructor
 · rintro ⟨a, b⟩
   obtain ⟨s, hs, e⟩ := hm.1 a
   rw [List.nil_append] at e
   have hs : s < 1024 := hs
   exact ⟨s, hs, e, by rw [e, setS_digs s hs] at b; rw [e]; exact b⟩
 · rintro ⟨s, hs, e, hl⟩
   refine ⟨hm.2 ⟨s, hs, by rw [List.nil_append]; exact e⟩, ?_⟩
   rw [e, setS_digs s hs, ← e]; exact hl
theorem wpList_loadBL {ops : Array Oper} {rest : List Oper} {op : Oper} {a : Act} {w : World} {Q : Exit → Act → World → Prop} (hw : Region.wanted op (yielded ops a.tmps) = true) (x : Operand) (ho : op.op = .load 51 x)
 (g : Nat) (hx : a.eval x = .pointer (some ⟨g, 0, none⟩)) (b : List Int) (hc : w.rangeAt g 0 (ints b)) (hb : b.length = 19)
 (h : wpList Tryz.prog ops Q rest (a.put op.dst (.agg (ints b).toArray)) w) : wpList Tryz.prog ops Q (op :: rest) a w :=
 wpList_load_want hw _ x ho g 0 hx (ints b) _ hc Tryz.underlying51 rfl (by rw [show (ints b).length = 19 by simp [ints, hb]]; kernel_rfl) h
set_option linter.unusedSimpArgs false
def showR (b : List Int) : List Int := shTo b 6
def wRow : Bs := [114, 111, 119]
def wSent : Bs := [115, 101, 110, 116]
def wNumber : Bs := [110, 117, 109, 98, 101, 114]
def wBars : Bs := [98, 97, 114, 115]
def wFirst : Bs := [102, 105, 114, 115, 116]
def wLeast : Bs := [108, 101, 97, 115, 116]
def wDigits : Bs := [100, 105, 103, 105, 116, 115]
def wTold : Bs := [116, 111, 108, 100]
def wImages : Bs := [105, 109, 97, 103, 101, 115]
def wHarmless : Bs := [104, 97, 114, 109, 108, 101, 115, 115]
def wNear : Bs := [110, 101, 97, 114]
def wSame : Bs := [115, 97, 109, 101]
def wFull : Bs := [102, 117, 108, 108]
def wBulbs : Bs := [98, 117, 108, 98, 115]
def wShow : Bs := [115, 104, 111, 119]
def wClear : Bs := [99, 108, 101, 97, 114]
def wDark : Bs := [100, 97, 114, 107]
def wLit : Bs := [108, 105, 116]
def wMend : Bs := [109, 101, 110, 100]
def wTurn : Bs := [116, 117, 114, 110]
def wMirror : Bs := [109, 105, 114, 114, 111, 114]
def tellM (b : List Int) (w : Bs) : Option Bs :=
 if w = wRow then some (rowTx (showR b)) else if w = wSent then some (rowTx (b.take 6)) else if w = wNumber then (numO (showR b)).map Lib.decDigits
 else if w = wBars then some (Lib.decDigits (litL (showR b))) else if w = wFirst then (if fnOk (fsB b) (showR b) then some (listT (fnL (fsB b) (showR b))) else none)
 else if w = wLeast then some (Lib.decDigits ltA.length) else none
def placeM (b : List Int) (w : Bs) (k : Int) : Option Bs :=
 if inB k 0 5 = false then none else
 let f := bF b k.toNat
 let c := shAt b k.toNat
 if w = wDigits then some (listT (digL f.1 f.2 c)) else if w = wTold then some (listT (tdL f.1 f.2)) else if w = wImages then some (Lib.decDigits (grpL f.1 f.2).length)
 else if w = wHarmless then some (yesT (decide ((grpL f.1 f.2).length = 10))) else if w = wNear then some (listT (nearL c)) else if w = wSame then some (partT (csA f.1 f.2) (csB f.1 f.2)) else none
def askM (b : List Int) (w : Bs) (l : List Int) : Option Bs := match l with
 | [] => tellM b w
 | [x] => if w = wBulbs then (if inB x 0 9999 then some (partT (mbA x) (mbB x)) else none) else placeM b w x
 | [x, y] => if w = wFull then (if testB [x, y] then some (yesT (fullB [x, y])) else none) else none
 | _ => none
def kindM (w : Bs) : Option (Int × Nat) :=
 if w = wShow then some (1, 2) else if w = wClear then some (2, 1) else if w = wDark then some (3, 2) else if w = wLit then some (4, 2)
 else if w = wMend then some (5, 1) else if w = wTurn then some (6, 0) else if w = wMirror then some (7, 0) else none
def numsM (ws : List Bs) : Option (List Int) := ws.mapM rdO
def sayO (o : Option Bs) : Bs := o.getD [63]
def execM (b : List Int) (line : Bs) : List Int × Option Bs :=
 let ws := splitS 32 line
 let w := ws.headD []
 match numsM ws.tail with
 | none => (b, none)
 | some l => if 2 < l.length then (b, none) else match kindM w with
  | some (k, n) => if l.length = n ∧ possB b k (l.getD 0 0) (l.getD 1 0) = true then (doB b k (l.getD 0 0) (l.getD 1 0), some (rowTx (showR (doB b k (l.getD 0 0) (l.getD 1 0))))) else (b, none)
  | none => (b, askM b w l)
end Go.Proofs.YtohgjfdbnkjefaaGreatDoor
