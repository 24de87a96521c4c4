/- The walks of setOf and l7Set: the set of a test. -/
import Derived.Test.YtfflbbgipbnckaaSeq
import Derived.Test.YtfflbbgipbnckaaSet
import Derived.Test.YtfflbbgipbnckaaBox
import Derived.Sort.OwnSortedInts
import Derived.Lib.OwnBridge
import Derived.Deep.AppendLies
import Derived.Deep.RegionHeld3
namespace Go.Proofs.Ytfflbbgipbnckaa
open Go.RowKit
set_option linter.unusedVariables false
set_option maxRecDepth 100000
theorem Collect_c (Bs : Nat) (sv : Value) (xs : List Int) (hlen : xs.length ≤ 1048576) (w : World) (hBs : Bs < w.heap.size) (hc : w.cell? ⟨Bs, 0, none⟩ = some sv) (hI : VInts w.heap.size w sv xs) :
    Calls Try.prog 86 #[.func (.func 88) #[] #[.pointer (some ⟨Bs, 0, none⟩)]] w fun e W' => ∃ v, e = .returned v ∧ W'.ownsRow w.heap.size 3 1 v xs.length (xs.map (Value.int .i64)) ∧ Below w.heap.size w W' := by
  have H := Lib.hid (AppendSeq_c Bs sv xs hlen w hBs hc hI)
  clear hc hI
  go_enter Try.func86, Try.ntmps86
  go_wp2_with fail
  refine H.out.mono ?_
  rintro e w1 ⟨v, rfl, ho, hb⟩
  go_wp2
  go_ret
  exact ⟨v, rfl, ho, hb⟩
def srt (xs : List Int) : List Int := xs.mergeSort fun x y => decide (x ≤ y)
theorem srt_len (xs : List Int) : (srt xs).length = xs.length := List.length_mergeSort xs
theorem Sort_c (v : Value) (xs : List Int) (lo : Nat) (w : World) (ho : w.ownsRow lo 3 1 v xs.length (xs.map (Value.int .i64))) (hn : xs.length ≤ 1048576) :
    Calls Try.prog 87 #[v] w fun e w' => e = .returned (.tuple #[]) ∧ w'.ownsRow lo 3 1 v xs.length ((srt xs).map (Value.int .i64)) ∧ w.grownBy w' v.ownBlock := by
  by_cases hz : xs.length = 0
  · obtain ⟨a, c, rfl, _⟩ := (Sl.of_own ho).slice
    have hx : xs = [] := List.eq_nil_of_length_eq_zero hz
    subst hx
    refine (Try.slices_Sort_int_none a c w).mono ?_
    rintro e w' ⟨rfl, rfl⟩
    exact ⟨rfl, by simpa [srt] using ho, World.grownBy.refl _ _⟩
  · have hv : v ≠ .slice none 0 0 := by
      intro e
      obtain ⟨a, c, e2, _⟩ := (Sl.of_own ho).slice
      rw [e] at e2
      injection e2 with _ e3
      omega
    obtain ⟨g, cap, rfl, hlo, hlt, h1, h2, _, hH⟩ := Lib.holds_of_ownsRow ho hv
    refine (Try.slices_Sort_int g 0 cap xs w hH hlt (by omega)).mono ?_
    rintro e w' ⟨rfl, n, os, rfl⟩
    rcases ho.2 with ⟨h0, _⟩ | ⟨g', cap', cur, hv2, hbase, hb, h1', h2', h3, h4⟩
    · cases h0
    · cases hv2
      exact ⟨rfl, ownsRow_sortedI (srt_len xs) hlo hb h1 h2 h3, grownBy_sortedI _⟩
theorem Sorted_c (Bs : Nat) (sv : Value) (xs : List Int) (hlen : xs.length ≤ 1048576) (w : World) (hBs : Bs < w.heap.size) (hc : w.cell? ⟨Bs, 0, none⟩ = some sv) (hI : VInts w.heap.size w sv xs) :
    Calls Try.prog 65 #[.func (.func 88) #[] #[.pointer (some ⟨Bs, 0, none⟩)]] w fun e W' => ∃ v, e = .returned v ∧ W'.ownsRow w.heap.size 3 1 v xs.length ((srt xs).map (Value.int .i64)) ∧ Below w.heap.size w W' := by
  have H := Lib.hid (Collect_c Bs sv xs hlen w hBs hc hI)
  have HS := Lib.hid (fun v w h => Sort_c v xs w.heap.size w h hlen)
  clear hc hI
  go_enter Try.func65, Try.ntmps65
  go_wp2_with fail
  refine H.out.mono ?_
  rintro e w1 ⟨v, rfl, ho, hb⟩
  have ho0 := ho
  obtain ⟨a, c, rfl, _⟩ := (Sl.of_own ho).slice
  go_wp2_with fail
  refine (Sort_c _ xs w.heap.size w1 ho hlen).mono ?_
  rintro e w2 ⟨rfl, ho2, hg2⟩
  have hb2 : Below w.heap.size w w2 := hb.grown hg2 hb.size (fun g hg => (ho0.lt g hg).1)
  clear ho ho0 hg2
  go_wp2
  go_ret
  exact ⟨_, rfl, ho2, hb2⟩
theorem Compact_c (v : Value) (xs : List Int) (lo : Nat) (w : World) (ho : w.ownsRow lo 3 1 v xs.length (xs.map (Value.int .i64))) (hn : xs.length ≤ 1048576) :
    Calls Try.prog 64 #[v] w fun e w' => ∃ u, e = .returned u ∧ w'.ownsRow lo 3 1 u (Lib.compact xs).length ((Lib.compact xs).map (Value.int .i64)) ∧ w.grownBy w' v.ownBlock := by
  by_cases hz : xs.length = 0
  · obtain ⟨a, c, rfl, _⟩ := (Sl.of_own ho).slice
    have hx : xs = [] := List.eq_nil_of_length_eq_zero hz
    subst hx
    refine (Try.slices_Compact_int_empty a c w).mono ?_
    rintro e w' ⟨rfl, rfl⟩
    exact ⟨_, rfl, by simpa [Lib.compact, Lib.compactUpTo] using ho, World.grownBy.refl _ _⟩
  · have hv : v ≠ .slice none 0 0 := by
      intro e
      obtain ⟨a, c, e2, _⟩ := (Sl.of_own ho).slice
      rw [e] at e2
      injection e2 with _ e3
      omega
    obtain ⟨g, cap, rfl, hlo, hlt, h1, h2, _, hH⟩ := Lib.holds_of_ownsRow ho hv
    refine (Try.slices_Compact_int g 0 cap xs w hH (by omega) h1).mono ?_
    rintro e w' ⟨rfl, q, rfl⟩
    have hle := Lib.compact_length_le xs
    have h3 := Lib.ownsRow_putRow (q := q) (k := (Lib.compact xs).length) (ys := Lib.compact xs ++ List.replicate (xs.length - (Lib.compact xs).length) 0) ho (by simp; omega) hle
    rw [List.take_left] at h3
    refine ⟨_, rfl, h3, ?_⟩
    have h4 := grownBy_sortedI (w := w) (g := g) (n := q) (os := #[]) (Lib.compact xs ++ List.replicate (xs.length - (Lib.compact xs).length) 0).toArray
    rw [Sort.grow_empty] at h4
    exact h4
theorem setOf_c (v : Value) (xs : List Int) (w : World) (hv : Ints w v xs) (hn : xs.length ≤ 1048576) :
    Calls Try.prog 40 #[v] w fun e w' => ∃ u, e = .returned u ∧ w'.ownsRow w.heap.size 3 1 u (setS xs).length ((setS xs).map (Value.int .i64)) ∧ Below w.heap.size w w' := by
  have hV := VInts.of hv
  obtain ⟨a, c, rfl, _, _, _⟩ := hv.parts
  have hb0 := below_one (w := w) (.cells #[.slice a xs.length c] 22)
  have hV1 := Lib.hid ((VInts.of (hv.below hb0)))
  have q0 : (w.alloc (.cells #[.slice a xs.length c] 22)).cell? ⟨w.heap.size, 0, none⟩ = some (.slice a xs.length c) := by rw [World.cell?_alloc_at _ _ _ _ rfl]; rfl
  have HS := Lib.hid (Sorted_c w.heap.size (.slice a xs.length c) xs hn (w.alloc (.cells #[.slice a xs.length c] 22)) (by simp) q0 hV1.out)
  clear hV hv q0 hV1
  go_enter Try.func40, Try.ntmps40
  go_wp2_with fail
  refine (Values_c a xs.length c w).mono ?_
  rintro e w' ⟨rfl, rfl⟩
  go_wp2_with fail
  refine HS.out.mono ?_
  rintro e w1 ⟨u, rfl, ho, hb⟩
  have ho1 : w1.ownsRow w.heap.size 3 1 u (srt xs).length ((srt xs).map (Value.int .i64)) := own_lo (ownsRow_cast ho (srt_len xs).symm rfl) (by simp)
  have hb1 := Below.chain hb0 hb
  have hnl : (srt xs).length ≤ 1048576 := by rw [srt_len]; exact hn
  have HE : Hid (Lib.compact (srt xs) = setS xs) := setL_eq xs
  have HO := Lib.hid ho1
  clear ho hb hb0 ho1
  go_wp2_with fail
  refine (Compact_c u (srt xs) w.heap.size w1 HO.out hnl).mono ?_
  rintro e w2 ⟨u2, rfl, ho2, hg2⟩
  have hb2 : Below w.heap.size w w2 := hb1.grown hg2 hb1.size (fun g hg => (HO.out.lt g hg).1)
  rw [HE.out] at ho2
  clear hg2
  go_wp2
  go_ret
  exact ⟨_, rfl, ho2, hb2⟩
end Go.Proofs.Ytfflbbgipbnckaa
