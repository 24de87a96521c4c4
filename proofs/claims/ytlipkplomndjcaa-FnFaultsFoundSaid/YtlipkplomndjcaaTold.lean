/- Walks of ToldDigits. -/
import Derived.Test.YtlipkplomndjcaaShownRow
import Derived.Test.YtlipkplomndjcaaDark2
import Derived.Test.YtlipkplomndjcaaBox
namespace Go.Proofs.Ytlipkplomndjcaa
open Go.RowKit
set_option linter.unusedVariables false
set_option maxRecDepth 100000
theorem headD_of {xs : List Int} {x d : Int} (h : xs[0]? = some x) : xs.headD d = x := by cases xs <;> simp_all
theorem grpL_pos {d l : Int} {k : Nat} {xs : List Int} (h : (grpL d l)[k]? = some xs) : 0 < xs.length := by
  have hm := List.mem_of_getElem? h
  unfold grpL grpTo at hm
  simp only [List.mem_map, List.mem_filter] at hm
  obtain ⟨x, ⟨hx, _⟩, rfl⟩ := hm
  obtain ⟨n, hn, hxn⟩ := List.getElem_of_mem hx
  have hn10 : n < 10 := by rw [List.length_take] at hn; omega
  rw [List.getElem_take] at hxn
  have hx2 : x = (n : Int) := by
    have := tenI_at hn10
    rw [List.getElem?_eq_getElem (by simp [tenI]; omega), hxn] at this
    simpa using this
  subst hx2
  have h0 := grpOf_head (d := d) (l := l) hn10
  exact (List.getElem?_eq_some_iff.1 h0).1
def toldTo (xss : List (List Int)) (k : Nat) : List Int := ((xss.take k).filter fun xs => xs.length == 1).map fun xs => xs.headD 0
theorem toldTo_succ {xss : List (List Int)} {k : Nat} {xs : List Int} (h : xss[k]? = some xs) : toldTo xss (k + 1) = toldTo xss k ++ if xs.length == 1 then [xs.headD 0] else [] := by
  unfold toldTo
  rw [take_snoc h, List.filter_append, List.map_append]
  cases hq : xs.length == 1 <;> simp [hq]
theorem toldTo_len (xss : List (List Int)) (k : Nat) : (toldTo xss k).length = dkI 2 xss k := by
  unfold toldTo dkI; rw [List.length_map]; congr 2
theorem toldTo_le (xss : List (List Int)) (k : Nat) : (toldTo xss k).length ≤ xss.length := by rw [toldTo_len]; exact dkI_le _ _ _
def tdL (d l : Int) : List Int := if faultB d l then toldTo (grpL d l) (grpL d l).length else []
theorem tdL_le (d l : Int) : (tdL d l).length ≤ 10 := by
  unfold tdL; split
  · exact Nat.le_trans (toldTo_le _ _) (grpTo_le _ _ _)
  · simp
theorem ToldDigits_c (d l : Int) (w : World) : Calls Try.prog 37 #[.agg #[.int .i64 d, .int .i64 l]] w (IntsPost w (tdL d l) (faultB d l)) := by
  obtain ⟨i, hi, hz0, hz1, hz2⟩ := info_parts info_int
  rcases ha : faultB d l with _ | _
  · have HL := Lib.hid (show tdL d l = [] by simp [tdL, ha])
    have HA := Lib.hid ha; clear ha
    go_enter Try.func37, Try.ntmps37
    go_wp2_with fail
    refine (IsFault_c d l _).mono ?_
    rintro e w1 ⟨rfl, hb1⟩
    rw [HA.out]
    go_wp2
    go_ret2
    exact IntsPost.mk' HL.out rfl (World.ownsRow_nil _ _ _ _) (Below.chain (below_one _) hb1)
  · have HL := Lib.hid (show tdL d l = toldTo (grpL d l) (grpL d l).length by simp [tdL, ha])
    have bd := faultB_true ha
    have HA := Lib.hid ha; clear ha
    go_enter Try.func37, Try.ntmps37
    go_wp2_with fail
    refine (IsFault_c d l _).mono ?_
    rintro e w1 ⟨rfl, hb1⟩
    rw [HA.out]
    have q0 := (box_after hb1).1 0 _ rfl
    have q1 := (box_after hb1).1 1 _ rfl
    have hb2 := Below.chain (below_one _) hb1
    clear hb1
    go_wp2_with fail
    refine (groups_c d l _ bd.1 bd.2.1 bd.2.2.1 bd.2.2.2.1).mono ?_
    rintro e w2 ⟨u, rfl, ho, hb3⟩
    have hb4 := Below.chain hb2 hb3
    have sz2 := hb4.size
    clear hb3 hb2 q0 q1
    have h10 : (grpL d l).length ≤ 10 := grpTo_le _ _ _
    have HN : Hid (∀ (k : Nat) (xs : List Int), (grpL d l)[k]? = some xs → 0 < xs.length) := fun k xs h => grpL_pos h
    generalize grpL d l = xss at *
    obtain ⟨a, c, rfl, hxl, HC⟩ := ho.parts
    clear ho
    go_wp2
    go_loopw [4, 6, 13] (fun o _ j wr => ∃ k : Nat, k ≤ xss.length ∧ j = .int .i64 (k : Int) ∧ wr.ownsRow w2.heap.size 3 1 o (toldTo xss k).length ((toldTo xss k).map (Value.int .i64)) ∧ Below w.heap.size w wr ∧ Below w2.heap.size w2 wr) (fun _ _ j _ => xss.length - (intOf j).toNat)
    case atStart => exact ⟨0, by omega, rfl, World.ownsRow_nil _ _ _ _, hb4, Below.refl _ _⟩
    case round =>
      obtain ⟨k, hk, rfl, ho, hb, hb5⟩ := hrel
      clear hb4
      by_cases hlt : k < xss.length
      · have hd : decide ((k : Int) < (xss.length : Int)) = true := by simp; omega
        obtain ⟨xs, hx⟩ := elem_at hlt
        obtain ⟨b, off, a', c', rfl, f0, hxsl, hI⟩ := HC.out k xs hx.out
        have hpos := HN.out k xs hx.out
        obtain ⟨a2, c2, he, _, _, HI⟩ := hI.parts
        obtain ⟨x0, hx0⟩ := elem_at hpos
        obtain ⟨b3, o3, e3, f1⟩ := HI.out 0 _ hx0.out
        have hhd : xs.headD 0 = x0 := headD_of hx0.out
        injection he with he1 he2 he3
        subst he1 e3
        have g0 := cell_later hb5 f0
        have g1 := cell_later hb5 f1
        simp only [Nat.add_zero] at g1
        have hS := toldTo_succ hx.out
        have hle := toldTo_le xss k
        rw [hhd] at hS
        generalize toldTo xss k = cur at *
        have HS := Lib.hid hS; clear hS f0 f1 hI HI hhd hx hx0
        rcases hq : xs.length == 1 with _ | _
        · have hq1 : decide ((xs.length : Int) = 1) = false := by simp at hq ⊢; omega
          have HS2 := Lib.hid (show toldTo xss (k + 1) = cur by rw [HS.out, hq]; simp)
          clear HS
          go_wp2
          go_roundw
          case rel => exact ⟨k + 1, by omega, by go_num, by rw [HS2.out]; exact ho, hb, hb5⟩
          case measure => simp [intOf]; omega
        · have hq1 : decide ((xs.length : Int) = 1) = true := by simp at hq ⊢; omega
          have HS2 := Lib.hid (show toldTo xss (k + 1) = cur ++ [x0] by rw [HS.out, hq]; simp)
          clear HS
          go_wp2_with (at_builtin; refine wpList_append_own_at _ rfl _ _ 24 rfl w2.heap.size 3 i (.int .i64 0) 1 8 Try.underlying24 hi hz0 hz1 hz2 rfl (by decide) _ cur.length (cur.map (Value.int .i64)) rfl (ho.alloc _) ⟨wr.heap.size, 0, none⟩ 1 1 [.int .i64 x0] rfl rfl (news_new _ [.int .i64 x0] _) (by simp [Value.oneCell']) (by unfold maxLen; omega) (by omega) (by have := hb5.size; simp; omega) ?_)
          intro v' w3 ho5 hg5 _ _
          have hb7 : Below w.heap.size w w3 := (Below.alc hb _).grown hg5 (by have := hb.size; simp; omega) (fun g hg => Nat.le_trans sz2 (ho.lt g hg).1)
          have hb8 : Below w2.heap.size w2 w3 := (Below.alc hb5 _).grown hg5 (by have := hb5.size; simp; omega) (fun g hg => (ho.lt g hg).1)
          clear ho hb hb5 hg5
          go_wp2
          go_roundw
          case rel => exact ⟨k + 1, by omega, by go_num, by rw [HS2.out]; exact ownsRow_cast ho5 (by simp) (by simp), hb7, hb8⟩
          case measure => simp [intOf]; omega
      · obtain rfl : k = xss.length := by omega
        go_wp2
        go_ret2
        exact IntsPost.mk' HL.out rfl (own_lo ho sz2) hb
end Go.Proofs.Ytlipkplomndjcaa
