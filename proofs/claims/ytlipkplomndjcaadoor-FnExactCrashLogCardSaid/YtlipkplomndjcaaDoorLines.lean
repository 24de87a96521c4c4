/- strings.Lines: the closure that hands a text's lines over, and the loop over it. -/
import Derived.RangeFuncBox
import Derived.RangeFuncLeaves
import Derived.RangeFuncCalls
import Derived.RangeFuncNested
import Derived.Shelf.Abstract
import Derived.WalkKit
import Derived.OwnWalkIn
import Derived.TacticsInMore
import Derived.LoopNIn
import Derived.LoopIn
import Derived.Maps.AppendAt
import Derived.Test.YtlipkplomndjcaaDoorDec
namespace Go.Proofs.YtlipkplomndjcaaDoor
open Go.RowKit Go.Shelf
set_option linter.unusedVariables false
attribute [local go_sem] Oper.semAt_some
/-- what is said of the world abides the turn of the iterator's own box -/
def AbBox (Bx : Nat) (J : List Bs → World → Prop) : Prop := ∀ s A B, J s A → A.grownBy B (some Bx) → J s B
theorem setBox_grow (W : World) (Bx : Nat) (v : Value) : W.grownBy (W.setCell ⟨Bx, 0, none⟩ v) (some Bx) := grownBy_setCell' W Bx v
theorem grow_drew {W W' : World} {r : Option Nat} (h : W.grownBy W' r) : W.grownBy W'.drew r := ⟨h.os, h.tape, h.output, h.size, h.block⟩
theorem Lines_c (s : ByteArray) (w : World) :
    Calls Tryd.prog 64 #[.string s] w fun e w' => e = .returned (.func (.func 70) #[] #[.pointer (some ⟨w.heap.size, 0, none⟩)]) ∧ w' = w.alloc (.cells #[.string s] 9) := by
  go_enter Tryd.func64, Tryd.ntmps64
  go_wp2
  go_ret
  exact ⟨rfl, rfl⟩
def LinesDone (s : List UInt8) (J Jx : List Bs → World → Prop) (e : Ending) (W' : World) : Prop :=
  (∃ v, e = .returned v) ∧ ((∃ xs, xs.flatten = s ∧ J xs W') ∨ (∃ pre l r, s = pre.flatten ++ (l ++ r) ∧ First l r ∧ Jx (pre ++ [l]) W'))
theorem IB_c (s : ByteArray) (w : World) : Calls Tryd.prog 71 #[.string s, .int .u8 10] w fun e w' => e = .returned (.int .i64 (Lib.indexByte s.data.toList 10)) ∧ w = w' :=
  (Tryd.strings_IndexByte s 10 w).mono fun e w' h => ⟨h.1, h.2.symm⟩
set_option maxRecDepth 100000 in
set_option maxHeartbeats 2000000 in
theorem lines1_in (n : Nat) (hn : 3 ≤ n) (l Bx : Nat) (s : ByteArray) (hs : s.size ≤ 1073741824) (J Jx : List Bs → World → Prop) (hJ : AbBox Bx J)
    (hY : ∀ pre (x : Bs) W, J pre W → x.length ≤ s.size → YieldAt Fence.wide (n - 1) Tryd.prog l #[.string (bs x)] W fun e W' =>
      (e = .returned (.bool true) ∧ J (pre ++ [x]) W' ∧ W'.heap[Bx]? = W.heap[Bx]?) ∨ (e = .returned (.bool false) ∧ Jx (pre ++ [x]) W'))
    (W : World) (hB : Boxed W Bx 9 (.string s)) (h0 : J [] W) :
    CallsIn Fence.wide n Tryd.prog 70 #[.func (.yield l) #[] #[], .pointer (some ⟨Bx, 0, none⟩)] W (LinesDone s.data.toList J Jx) := by
  refine callsIn_of_wp Tryd.func70 rfl trivial ?_ rfl
  simp only [Tryd.ntmps70, List.size_toArray, List.length_cons, List.length_nil, Nat.reduceAdd, Nat.reduceSub, Array.replicate_succ, Array.replicate_zero, List.push_toArray, List.append_toArray, List.nil_append, List.cons_append]
  gi_wp2
  gi_loopw [3, 4] (fun _ _ wr => ∃ (pre : List Bs) (rest : ByteArray), s.data.toList = pre.flatten ++ rest.data.toList ∧ J pre wr ∧ Boxed wr Bx 9 (.string rest))
    (fun _ _ wr => match wr.cell? ⟨Bx, 0, none⟩ with | some (.string r) => r.size | _ => 0)
  case atStart => exact ⟨[], s, rfl, h0, hB⟩
  case round =>
    obtain ⟨pre, rest, hsp, hJs, hBx⟩ := hrel
    have hsz : rest.size ≤ s.size := by rw [← ba_len s, hsp, ← ba_len rest]; simp
    have hcell := hBx.cell
    have hfz := hBx.frozen
    have HSP := Lib.hid hsp
    clear hsp
    by_cases hlt : 0 < rest.size
    · rcases first_at rest.data.toList 10 with ⟨a, b, hab, hc⟩ | hc
      · have HX := Lib.hid (indexByte_hit (b := b) hc)
        have hlen : a.length + 1 + b.length = rest.size := by rw [← ba_len, hab]; simp; omega
        have H1 : Hid (rest.extract 0 (a.length + 1) = bs (a ++ [10])) := by
          have := ext_to (s := rest) (a := a ++ [10]) (b := b) (by rw [hab]; simp)
          rwa [List.length_append] at this
        have H2 := Lib.hid (ext_from hab)
        have HAB := Lib.hid hab
        have HC := Lib.hid hc
        have hla : a.length ≤ rest.size := by omega
        have hlb : a.length + 1 ≤ rest.size := by omega
        generalize hk : a.length = k at *
        have hp0 : (0 : Int) ≤ (k : Int) := by omega
        have hp1 : (k : Int) ≤ (rest.size : Int) := by omega
        have hp2 : (k : Int) + 1 ≤ (rest.size : Int) := by omega
        have hw : IntKind.i64.wrap ((k : Int) + 1) = (k : Int) + 1 := IntWalk.i64_in _ (by omega)
        have HK := Lib.hid hk
        have HL := Lib.hid hlen
        clear hab hc hk hlen
        have hJ1 := hJ pre wr _ hJs (grow_drew (setBox_grow wr Bx (.string (rest.extract (k + 1) rest.size))))
        have B1 : Boxed (wr.setCell ⟨Bx, 0, none⟩ (.string (rest.extract (k + 1) rest.size))).drew Bx 9 (.string (rest.extract (k + 1) rest.size)) := hBx.set _
        have HB1 := Lib.hid B1
        have hxl : (a ++ [10]).length ≤ s.size := by simp; have := HK.out; omega
        obtain ⟨fn, tmps, assign, body, hy, hR⟩ := hY pre (a ++ [10]) _ hJ1 hxl
        rw [← H1.out] at hy
        clear B1 hJ1 hxl
        gi_wp2_with fail
        refine ⟨trivial, fun _ => by omega, ?_⟩
        refine (callsIn_wide.2 (IB_c rest _)).mono ?_
        rintro e w' ⟨rfl, rfl⟩
        rw [HAB.out, HX.out]
        gi_wp2
        gi_region
        gi_wp2
        refine ⟨fun _ => by omega, ?_⟩
        refine hR.mono ?_
        rintro e W3 (⟨rfl, hJ3, hk3⟩ | ⟨rfl, hJx3⟩)
        · have B3 : Boxed W3 Bx 9 (.string (rest.extract (k + 1) rest.size)) := hk3.trans HB1.out
          have HB3 := Lib.hid B3
          clear B3
          gi_wp2
          go_roundw
          case rel =>
            refine ⟨pre ++ [a ++ [10]], rest.extract (k + 1) rest.size, ?_, hJ3, HB3.out⟩
            rw [H2.out, bs_list, HSP.out, HAB.out]; simp
          case measure =>
            rw [HB3.out.cell, hcell]
            show (rest.extract (k + 1) rest.size).size < rest.size
            rw [H2.out, bs_size]; have := HL.out; omega
        · gi_wp2
          refine bodyPost_ret (results_none rfl _ _ _) rfl ?_
          refine ⟨⟨_, rfl⟩, .inr ⟨pre, a ++ [10], b, ?_, .inl ⟨a, rfl, HC.out⟩, hJx3⟩⟩
          rw [HSP.out, HAB.out]; simp
      · have HX := Lib.hid (indexByte_miss hc)
        have HC := Lib.hid hc
        clear hc
        have hJ1 := hJ pre wr _ hJs (setBox_grow wr Bx (.string ⟨#[]⟩))
        have B1 : Boxed (wr.setCell ⟨Bx, 0, none⟩ (.string ⟨#[]⟩)) Bx 9 (.string ⟨#[]⟩) := hBx.set _
        have HB1 := Lib.hid B1
        have hxl : rest.data.toList.length ≤ s.size := by rw [ba_len]; omega
        obtain ⟨fn, tmps, assign, body, hy, hR⟩ := hY pre rest.data.toList _ hJ1 hxl
        rw [bs_of] at hy
        clear B1 hJ1 hxl
        gi_wp2_with fail
        refine ⟨trivial, fun _ => by omega, ?_⟩
        refine (callsIn_wide.2 (IB_c rest _)).mono ?_
        rintro e w' ⟨rfl, rfl⟩
        rw [HX.out]
        gi_wp2
        refine ⟨fun _ => by omega, ?_⟩
        refine hR.mono ?_
        rintro e W3 (⟨rfl, hJ3, hk3⟩ | ⟨rfl, hJx3⟩)
        · have B3 : Boxed W3 Bx 9 (.string ⟨#[]⟩) := hk3.trans HB1.out
          have HB3 := Lib.hid B3
          clear B3
          gi_wp2
          go_roundw
          case rel =>
            refine ⟨pre ++ [rest.data.toList], ⟨#[]⟩, ?_, hJ3, HB3.out⟩
            rw [HSP.out]; simp
          case measure =>
            rw [HB3.out.cell, hcell]
            show (0 : Nat) < rest.size
            exact hlt
        · gi_wp2
          refine bodyPost_ret (results_none rfl _ _ _) rfl ?_
          refine ⟨⟨_, rfl⟩, .inr ⟨pre, rest.data.toList, [], ?_, .inr ⟨HC.out, rfl⟩, hJx3⟩⟩
          rw [HSP.out]; simp
    · gi_wp2
      go_end0
      refine ⟨⟨_, rfl⟩, .inl ⟨pre, ?_, hJs⟩⟩
      rw [HSP.out, List.eq_nil_of_length_eq_zero (l := rest.data.toList) (by rw [ba_len]; omega), List.append_nil]
end Go.Proofs.YtlipkplomndjcaaDoor
