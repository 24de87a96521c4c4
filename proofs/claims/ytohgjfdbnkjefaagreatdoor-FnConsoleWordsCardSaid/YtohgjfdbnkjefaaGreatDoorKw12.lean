/- Texts of this claim, gathered: Short, Least2, Short2, Short3, Short4, Lts, Bench4, Cwm, DecS, Lines, Loop, ReadL, OpenS, LogC, LogL, LogM, HelpR. -/
import Derived.Test.YtohgjfdbnkjefaaGreatDoorKw11
import Derived.Deep.RegionHeld3
import Derived.Deep.DeepCutAuto
import Derived.BigRegion
import Derived.RangeFuncBox
import Derived.RangeFuncLeaves
import Derived.RangeFuncCalls
import Derived.RangeFuncNested
import Derived.Shelf.Abstract
import Derived.WalkKit
import Derived.OwnWalkIn
import Derived.TacticsInMore
import Derived.LoopNIn
import Derived.LoopIn
import Derived.Maps.AppendAt
import Derived.Maps.OwnIn
import Derived.Laws.IdiomStrings
namespace Go.Proofs.YtohgjfdbnkjefaaGreatDoor
open Go.RowKit
set_option linter.unusedVariables false
def stepA (b : Option (List Int)) (p : List Int) : Option (List Int) := if fullB p && (match b with | none => true | some m => decide (p.length < m.length)) then some p else b
def bestA (ps : List (List Int)) : Option (List Int) := ps.foldl stepA none
set_option maxRecDepth 100000
theorem Delete_c (v : Value) (xs : List Int) (i lo : Nat) (w : World) (ho : w.ownsRow lo 3 1 v xs.length (ints xs)) (hi : i < xs.length) (hn : xs.length ≤ 1000) :
 Calls Tryz.prog 281 #[v, .int .i64 (i : Int), .int .i64 ((i : Int) + 1)] w fun e w' => ∃ u, e = .returned u ∧ w'.ownsRow lo 3 1 u (xs.eraseIdx i).length (ints (xs.eraseIdx i)) ∧ w.grownBy w' v.ownBlock := by
 have hv : v ≠ .slice none 0 0 := by
  intro e
  obtain ⟨a, c, e2, _⟩ := (Sl.of_own ho).slice
  rw [e] at e2
  injection e2 with _ e3
  omega
 obtain ⟨g, cap, rfl, hlo, hlt, h1, h2, _, hH⟩ := Lib.holds_of_ownsRow ho hv
 unfold maxLen at h2
 have H := Tryz.slices_Delete_int g 0 cap i (i + 1) xs w hH h1 (by omega) (by omega) (by omega)
 rw [show ((i + 1 : Nat) : Int) = (i : Int) + 1 by omega] at H
 refine H.mono ?_
 rintro e w' ⟨rfl, q, rfl⟩
 have hl := erase_len hi
 have h3 := Lib.ownsRow_putRow (q := q) (k := (xs.eraseIdx i).length) (ys := xs.take i ++ xs.drop (i + 1) ++ List.replicate (i + 1 - i) 0) ho (by simp; omega) (by omega)
 have e3 : List.take (xs.eraseIdx i).length (xs.take i ++ xs.drop (i + 1) ++ List.replicate (i + 1 - i) (0 : Int)) = xs.eraseIdx i := by rw [← List.eraseIdx_eq_take_drop_succ, List.take_left]
 rw [e3] at h3
 have h4 := grownBy_sortedI (w := w) (g := g) (n := q) (os := #[]) (xs.take i ++ xs.drop (i + 1) ++ List.replicate (i + 1 - i) 0).toArray
 rw [Sort.grow_empty] at h4
 exact ⟨_, rfl, by rw [show xs.length - (i + 1 - i) = (xs.eraseIdx i).length by omega]; exact h3, h4⟩
set_option maxHeartbeats 2000000 in
theorem isLeast_c (v : Value) (xs : List Int) (w : World) (hv : Ints w v xs) (ht : testB xs = true) :
 Calls Tryz.prog 253 #[v] w fun e w' => e = .returned (.bool (leastL (setS xs))) ∧ Below w.heap.size w w' := by
 have hlen : xs.length ≤ 10 := by unfold testB at ht; simp only [Bool.and_eq_true, decide_eq_true_eq] at ht; exact ht.1
 have HS := Lib.hid (setOf_c v xs w hv (by omega))
 have hts := testB_set ht
 have hsl := setS_len xs
 clear hv ht
 generalize setS xs = l at *
 have hll : l.length ≤ 10 := by omega
 have HT := Lib.hid hts; clear hts hsl
 go_enter Tryz.func253, Tryz.ntmps253
 go_wp2_with fail
 refine HS.out.mono ?_
 rintro e w1 ⟨u, rfl, ho, hb1⟩
 have hIu := Ints.of_own ho
 obtain ⟨ua, uc, rfl, _, _, _⟩ := hIu.parts
 have HI := Lib.hid hIu
 clear ho hIu
 go_wp2
 go_loopw [9] (fun i wr => ∃ k : Nat, k ≤ l.length ∧ i = .int .i64 (k : Int) ∧ Hid (∀ j, j < k → fullB (l.eraseIdx j) = false) ∧ Below w1.heap.size w1 wr) (fun i _ => l.length - (intOf i).toNat)
 case atStart => exact ⟨0, by omega, rfl, fun j h => by omega, Below.refl _ _⟩
 case round =>
  obtain ⟨k, hk, rfl, hbef, hb⟩ := hrel
  by_cases hlt : k < l.length
  · have hd : decide ((k : Int) < (l.length : Int)) = true := by simp; omega
    have HC := Lib.hid (Clone_c _ l wr (HI.out.below hb) (by omega))
    have hte := Lib.hid (testB_erase HT.out k)
    go_wp2_with fail
    refine HC.out.mono ?_
    rintro e w2 ⟨u2, rfl, ho2, hb2⟩
    have HD := Lib.hid (Delete_c u2 l k wr.heap.size w2 ho2 hlt (by omega))
    have HO2 := Lib.hid ho2
    clear ho2
    go_wp2_with fail
    refine HD.out.mono ?_
    rintro e w3 ⟨u3, rfl, ho3, hg3⟩
    have hb3 : Below wr.heap.size wr w3 := hb2.grown hg3 hb2.size (fun q hq => (HO2.out.lt q hq).1)
    have hI3 := Lib.hid (Ints.of_own ho3)
    clear ho3 hg3 hb2
    go_wp2_with fail
    refine (isFull_c u3 (l.eraseIdx k) _ hI3.out hte.out).mono ?_
    rintro e w4 ⟨rfl, hb4⟩
    have hb5 := Below.chain hb (Below.chain hb3 hb4)
    clear hb hb3 hb4
    rcases hq : fullB (l.eraseIdx k) with _ | _
    · have HN : Hid (∀ j, j < k + 1 → fullB (l.eraseIdx j) = false) := fun j hj => by
       by_cases hj2 : j < k
       · exact hbef.out j hj2
       · obtain rfl : j = k := by omega
         exact hq
      clear hbef
      go_wp2
      go_roundw
      case rel => exact ⟨k + 1, by omega, by go_num, HN, hb5⟩
      case measure => simp [intOf]; omega
    · have HF := Lib.hid (leastL_bad hlt hq)
      have hb9 := Below.chain hb1 hb5
      clear hbef
      go_wp2
      go_ret
      exact ⟨by rw [HF.out]; rfl, hb9⟩
  · obtain rfl : k = l.length := by omega
    have HF := Lib.hid (leastL_ok hbef.out)
    have hI2 := Lib.hid (HI.out.below hb)
    go_wp2_with fail
    refine (isFull_c _ l _ hI2.out HT.out).mono ?_
    rintro e w2 ⟨rfl, hb2⟩
    have hb3 := Below.chain hb1 (Below.chain hb hb2)
    go_wp2
    go_ret
    exact ⟨by rw [HF.out]; rfl, hb3⟩
def BestV (lo m : Nat) (w : World) (bv : Value) : Option (List Int) → Prop
 | none => bv = .slice none 0 0
 | some b => b ≠ [] ∧ b.length ≤ 10 ∧ w.ownsRow lo 3 1 bv b.length (ints b) ∧ ∃ g cap, bv = .slice (some ⟨g, 0, none⟩) b.length cap ∧ g ≠ m
structure StI (lo m : Nat) (done : List (List Int)) (w : World) : Prop where
 lm : lo ≤ m
 fm : w.frozen? ⟨m, 0, none⟩ = false
 best : ∃ bv, w.cell? ⟨m, 0, none⟩ = some bv ∧ BestV lo m w bv (bestA done)
theorem BestV.keep {lo m : Nat} {w w' : World} {bv : Value} {r : Option (List Int)} (h : BestV lo m w bv r) (hb : Below w.heap.size w w') : BestV lo m w' bv r := by
 cases r with
 | none => exact h
 | some b => exact ⟨h.1, h.2.1, own_keep h.2.2.1 hb, h.2.2.2⟩
theorem StI.keep {lo m : Nat} {done : List (List Int)} {w w' : World} (h : StI lo m done w) (hb : Below w.heap.size w w') : StI lo m done w' := by
 obtain ⟨bv, hc, hB⟩ := h.best
 exact ⟨h.lm, by rw [hb.frozen (p := ⟨m, 0, none⟩) (World.block_lt_of_cell? _ _ hc)]; exact h.fm, bv, cell_later hb hc, hB.keep hb⟩
def ltA : List (List Int) := (subsL tenI).filter fun p => leastL (setS p)
set_option linter.unusedSimpArgs false
def showR (b : List Int) : List Int := shTo b 6
def wRow : Bs := [114, 111, 119]
def wSent : Bs := [115, 101, 110, 116]
def wNumber : Bs := [110, 117, 109, 98, 101, 114]
def wBars : Bs := [98, 97, 114, 115]
def wFirst : Bs := [102, 105, 114, 115, 116]
def wLeast : Bs := [108, 101, 97, 115, 116]
def wDigits : Bs := [100, 105, 103, 105, 116, 115]
def wTold : Bs := [116, 111, 108, 100]
def wImages : Bs := [105, 109, 97, 103, 101, 115]
def wHarmless : Bs := [104, 97, 114, 109, 108, 101, 115, 115]
def wNear : Bs := [110, 101, 97, 114]
def wSame : Bs := [115, 97, 109, 101]
def wFull : Bs := [102, 117, 108, 108]
def wBulbs : Bs := [98, 117, 108, 98, 115]
def wShow : Bs := [115, 104, 111, 119]
def wClear : Bs := [99, 108, 101, 97, 114]
def wDark : Bs := [100, 97, 114, 107]
def wLit : Bs := [108, 105, 116]
def wMend : Bs := [109, 101, 110, 100]
def wTurn : Bs := [116, 117, 114, 110]
def wMirror : Bs := [109, 105, 114, 114, 111, 114]
def tellM (b : List Int) (w : Bs) : Option Bs :=
 if w = wRow then some (rowTx (showR b)) else if w = wSent then some (rowTx (b.take 6)) else if w = wNumber then (numO (showR b)).map Lib.decDigits
 else if w = wBars then some (Lib.decDigits (litL (showR b))) else if w = wFirst then (if fnOk (fsB b) (showR b) then some (listT (fnL (fsB b) (showR b))) else none)
 else if w = wLeast then some (Lib.decDigits ltA.length) else none
def placeM (b : List Int) (w : Bs) (k : Int) : Option Bs :=
 if inB k 0 5 = false then none else
 let f := bF b k.toNat
 let c := shAt b k.toNat
 if w = wDigits then some (listT (digL f.1 f.2 c)) else if w = wTold then some (listT (tdL f.1 f.2)) else if w = wImages then some (Lib.decDigits (grpL f.1 f.2).length)
 else if w = wHarmless then some (yesT (decide ((grpL f.1 f.2).length = 10))) else if w = wNear then some (listT (nearL c)) else if w = wSame then some (partT (csA f.1 f.2) (csB f.1 f.2)) else none
def askM (b : List Int) (w : Bs) (l : List Int) : Option Bs := match l with
 | [] => tellM b w
 | [x] => if w = wBulbs then (if inB x 0 9999 then some (partT (mbA x) (mbB x)) else none) else placeM b w x
 | [x, y] => if w = wFull then (if testB [x, y] then some (yesT (fullB [x, y])) else none) else none
 | _ => none
def kindM (w : Bs) : Option (Int × Nat) :=
 if w = wShow then some (1, 2) else if w = wClear then some (2, 1) else if w = wDark then some (3, 2) else if w = wLit then some (4, 2)
 else if w = wMend then some (5, 1) else if w = wTurn then some (6, 0) else if w = wMirror then some (7, 0) else none
def numsM (ws : List Bs) : Option (List Int) := ws.mapM rdO
def sayO (o : Option Bs) : Bs := o.getD [63]
def execM (b : List Int) (line : Bs) : List Int × Option Bs :=
 let ws := splitS 32 line
 let w := ws.headD []
 match numsM ws.tail with
 | none => (b, none)
 | some l => if 2 < l.length then (b, none) else match kindM w with
  | some (k, n) => if l.length = n ∧ possB b k (l.getD 0 0) (l.getD 1 0) = true then (doB b k (l.getD 0 0) (l.getD 1 0), some (rowTx (showR (doB b k (l.getD 0 0) (l.getD 1 0))))) else (b, none)
  | none => (b, askM b w l)
end Go.Proofs.YtohgjfdbnkjefaaGreatDoor
namespace Go.Proofs.YtohgjfdbnkjefaaGreatDoor
open Go.RowKit Go.Shelf
set_option linter.unusedVariables false
attribute [local go_sem] Oper.semAt_some
def AbBox (Bx : Nat) (J : List Bs → World → Prop) : Prop := ∀ s A B, J s A → A.grownBy B (some Bx) → J s B
theorem setBox_grow (W : World) (Bx : Nat) (v : Value) : W.grownBy (W.setCell ⟨Bx, 0, none⟩ v) (some Bx) := grownBy_setCell' W Bx v
theorem grow_drew {W W' : World} {r : Option Nat} (h : W.grownBy W' r) : W.grownBy W'.drew r := ⟨h.os, h.tape, h.output, h.size, h.block⟩
theorem Lines_c (s : ByteArray) (w : World) :
 Calls Tryz.prog 166 #[.string s] w fun e w' => e = .returned (.func (.func 213) #[] #[.pointer (some ⟨w.heap.size, 0, none⟩)]) ∧ w' = w.alloc (.cells #[.string s] 9) := by
 go_enter Tryz.func166, Tryz.ntmps166
 go_wp2
 go_ret
 exact ⟨rfl, rfl⟩
def LinesDone (s : List UInt8) (J Jx : List Bs → World → Prop) (e : Ending) (W' : World) : Prop :=
 (∃ v, e = .returned v) ∧ ((∃ xs, xs.flatten = s ∧ J xs W') ∨ (∃ pre l r, s = pre.flatten ++ (l ++ r) ∧ First l r ∧ Jx (pre ++ [l]) W'))
theorem IB_c (s : ByteArray) (w : World) : Calls Tryz.prog 214 #[.string s, .int .u8 10] w fun e w' => e = .returned (.int .i64 (Lib.indexByte s.data.toList 10)) ∧ w = w' :=
 (Tryz.strings_IndexByte s 10 w).mono fun e w' h => ⟨h.1, h.2.symm⟩
set_option maxRecDepth 100000 in
set_option maxHeartbeats 2000000 in
theorem lines1_in (n : Nat) (hn : 3 ≤ n) (l Bx : Nat) (s : ByteArray) (hs : s.size ≤ 1073741824) (J Jx : List Bs → World → Prop) (hJ : AbBox Bx J)
 (hY : ∀ pre (x : Bs) W, J pre W → x.length ≤ s.size → YieldAt Fence.wide (n - 1) Tryz.prog l #[.string (bs x)] W fun e W' =>
  (e = .returned (.bool true) ∧ J (pre ++ [x]) W' ∧ W'.heap[Bx]? = W.heap[Bx]?) ∨ (e = .returned (.bool false) ∧ Jx (pre ++ [x]) W'))
 (W : World) (hB : Boxed W Bx 9 (.string s)) (h0 : J [] W) :
 CallsIn Fence.wide n Tryz.prog 213 #[.func (.yield l) #[] #[], .pointer (some ⟨Bx, 0, none⟩)] W (LinesDone s.data.toList J Jx) := by
 refine callsIn_of_wp Tryz.func213 rfl trivial ?_ rfl
 simp only [Tryz.ntmps213, List.size_toArray, List.length_cons, List.length_nil, Nat.reduceAdd, Nat.reduceSub, Array.replicate_succ, Array.replicate_zero, List.push_toArray, List.append_toArray, List.nil_append, List.cons_append]
 gi_wp2
 gi_loopw [3, 4] (fun _ _ wr => ∃ (pre : List Bs) (rest : ByteArray), s.data.toList = pre.flatten ++ rest.data.toList ∧ J pre wr ∧ Boxed wr Bx 9 (.string rest))
  (fun _ _ wr => match wr.cell? ⟨Bx, 0, none⟩ with | some (.string r) => r.size | _ => 0)
 case atStart => exact ⟨[], s, rfl, h0, hB⟩
 case round =>
  obtain ⟨pre, rest, hsp, hJs, hBx⟩ := hrel
  have hsz : rest.size ≤ s.size := by rw [← ba_len s, hsp, ← ba_len rest]; simp
  have hcell := hBx.cell
  have hfz := hBx.frozen
  have HSP := Lib.hid hsp
  clear hsp
  by_cases hlt : 0 < rest.size
  · rcases first_at rest.data.toList 10 with ⟨a, b, hab, hc⟩ | hc
    · have HX := Lib.hid (indexByte_hit (b := b) hc)
      have hlen : a.length + 1 + b.length = rest.size := by rw [← ba_len, hab]; simp; omega
      have H1 : Hid (rest.extract 0 (a.length + 1) = bs (a ++ [10])) := by
       have := ext_to (s := rest) (a := a ++ [10]) (b := b) (by rw [hab]; simp)
       rwa [List.length_append] at this
      have H2 := Lib.hid (ext_from hab)
      have HAB := Lib.hid hab
      have HC := Lib.hid hc
      have hla : a.length ≤ rest.size := by omega
      have hlb : a.length + 1 ≤ rest.size := by omega
      generalize hk : a.length = k at *
      have hp0 : (0 : Int) ≤ (k : Int) := by omega
      have hp1 : (k : Int) ≤ (rest.size : Int) := by omega
      have hp2 : (k : Int) + 1 ≤ (rest.size : Int) := by omega
      have hw : IntKind.i64.wrap ((k : Int) + 1) = (k : Int) + 1 := IntWalk.i64_in _ (by omega)
      have HK := Lib.hid hk
      have HL := Lib.hid hlen
      clear hab hc hk hlen
      have hJ1 := hJ pre wr _ hJs (grow_drew (setBox_grow wr Bx (.string (rest.extract (k + 1) rest.size))))
      have B1 : Boxed (wr.setCell ⟨Bx, 0, none⟩ (.string (rest.extract (k + 1) rest.size))).drew Bx 9 (.string (rest.extract (k + 1) rest.size)) := hBx.set _
      have HB1 := Lib.hid B1
      have hxl : (a ++ [10]).length ≤ s.size := by simp; have := HK.out; omega
      obtain ⟨fn, tmps, assign, body, hy, hR⟩ := hY pre (a ++ [10]) _ hJ1 hxl
      rw [← H1.out] at hy
      clear B1 hJ1 hxl
      gi_wp2_with fail
      refine ⟨trivial, fun _ => by omega, ?_⟩
      refine (callsIn_wide.2 (IB_c rest _)).mono ?_
      rintro e w' ⟨rfl, rfl⟩
      rw [HAB.out, HX.out]
      gi_wp2
      gi_region
      gi_wp2
      refine ⟨fun _ => by omega, ?_⟩
      refine hR.mono ?_
      rintro e W3 (⟨rfl, hJ3, hk3⟩ | ⟨rfl, hJx3⟩)
      · have B3 : Boxed W3 Bx 9 (.string (rest.extract (k + 1) rest.size)) := hk3.trans HB1.out
        have HB3 := Lib.hid B3
        clear B3
        gi_wp2
        go_roundw
        case rel =>
         refine ⟨pre ++ [a ++ [10]], rest.extract (k + 1) rest.size, ?_, hJ3, HB3.out⟩
         rw [H2.out, bs_list, HSP.out, HAB.out]; simp
        case measure =>
         rw [HB3.out.cell, hcell]
         show (rest.extract (k + 1) rest.size).size < rest.size
         rw [H2.out, bs_size]; have := HL.out; omega
      · gi_wp2
        refine bodyPost_ret (results_none rfl _ _ _) rfl ?_
        refine ⟨⟨_, rfl⟩, .inr ⟨pre, a ++ [10], b, ?_, .inl ⟨a, rfl, HC.out⟩, hJx3⟩⟩
        rw [HSP.out, HAB.out]; simp
    · have HX := Lib.hid (indexByte_miss hc)
      have HC := Lib.hid hc
      clear hc
      have hJ1 := hJ pre wr _ hJs (setBox_grow wr Bx (.string ⟨#[]⟩))
      have B1 : Boxed (wr.setCell ⟨Bx, 0, none⟩ (.string ⟨#[]⟩)) Bx 9 (.string ⟨#[]⟩) := hBx.set _
      have HB1 := Lib.hid B1
      have hxl : rest.data.toList.length ≤ s.size := by rw [ba_len]; omega
      obtain ⟨fn, tmps, assign, body, hy, hR⟩ := hY pre rest.data.toList _ hJ1 hxl
      rw [bs_of] at hy
      clear B1 hJ1 hxl
      gi_wp2_with fail
      refine ⟨trivial, fun _ => by omega, ?_⟩
      refine (callsIn_wide.2 (IB_c rest _)).mono ?_
      rintro e w' ⟨rfl, rfl⟩
      rw [HX.out]
      gi_wp2
      refine ⟨fun _ => by omega, ?_⟩
      refine hR.mono ?_
      rintro e W3 (⟨rfl, hJ3, hk3⟩ | ⟨rfl, hJx3⟩)
      · have B3 : Boxed W3 Bx 9 (.string ⟨#[]⟩) := hk3.trans HB1.out
        have HB3 := Lib.hid B3
        clear B3
        gi_wp2
        go_roundw
        case rel =>
         refine ⟨pre ++ [rest.data.toList], ⟨#[]⟩, ?_, hJ3, HB3.out⟩
         rw [HSP.out]; simp
        case measure =>
         rw [HB3.out.cell, hcell]
         show (0 : Nat) < rest.size
         exact hlt
      · gi_wp2
        refine bodyPost_ret (results_none rfl _ _ _) rfl ?_
        refine ⟨⟨_, rfl⟩, .inr ⟨pre, rest.data.toList, [], ?_, .inr ⟨HC.out, rfl⟩, hJx3⟩⟩
        rw [HSP.out]; simp
  · gi_wp2
    go_end0
    refine ⟨⟨_, rfl⟩, .inl ⟨pre, ?_, hJs⟩⟩
    rw [HSP.out, List.eq_nil_of_length_eq_zero (l := rest.data.toList) (by rw [ba_len]; omega), List.append_nil]
end Go.Proofs.YtohgjfdbnkjefaaGreatDoor
namespace Go.Proofs.YtohgjfdbnkjefaaGreatDoor
open Go.RowKit Go.Shelf
set_option linter.unusedVariables false
def OwnL {β : Type} (Bx B : Nat) (I : β → World → Prop) : Prop :=
 ∀ s W W' row, I s W → W.grownBy W' row → (∀ r, row = some r → r = Bx ∨ (B ≤ r ∧ ∃ o : Obj, W.heap[r]? = some o ∧ o.isCells = false)) → I s W'
theorem OwnL.putObj {β : Type} {Bx B : Nat} {I : β → World → Prop} (h : OwnL Bx B I) {s : β} {W : World} {l : Nat} {o : Obj} (o' : Obj) (hs : I s W) (hB : B ≤ l) (hl : W.heap[l]? = some o) (ho : o.isCells = false) : I s (W.putObj l o') :=
 h s W _ (some l) hs (grownBy_putObj' W l o') (fun r e => by cases e; exact .inr ⟨hB, o, hl, ho⟩)
theorem OwnL.alloc {β : Type} {Bx B : Nat} {I : β → World → Prop} (h : OwnL Bx B I) {s : β} {W : World} (o : Obj) (hs : I s W) : I s (W.alloc o) :=
 h s W _ none hs (World.grownBy_alloc W o none) (fun r e => by cases e)
def postL (B Bx : Nat) (I : List Bs → World → Prop) (Ix : Go.Code → List Bs → World → Prop) (xs : List Bs) (W : World) : Exit → Act → World → Prop
 | .normal, _, W' => KeepsFrom B W W' ∧ W'.heap[Bx]? = W.heap[Bx]? ∧ I xs W'
 | .ret, _, W' => KeepsFrom B W W' ∧ Ix .ret xs W'
 | .exit id, _, W' => KeepsFrom B W W' ∧ Ix (.exit id) xs W'
 | .goto t, _, W' => KeepsFrom B W W' ∧ Ix (.goto t) xs W'
 | .panic _, _, _ => False
 | .outgrown, _, _ => False
def recL (fn : FuncId) (a : Act) (p : Tmp) (assign body : Go.Code) (D : Nat) (st : LoopState) (pe : Option Go.Code) : Loop :=
 { state := st, pending := pe, fn := fn, tmps := a.tmps, params := #[p], assign := assign, body := body, defers := D }
theorem wpIn_lines {g : Operand} {p : Tmp} {assign body : Go.Code} {Q : Exit → Act → World → Prop} {a : Act} {w : World} (n : Nat) (hn : 4 ≤ n) (Bx : Nat) (s : ByteArray) (hs : s.size ≤ 1073741824)
 (hg : a.eval g = .func (.func 213) #[] #[.pointer (some ⟨Bx, 0, none⟩)]) (hB : Boxed w Bx 9 (.string s))
 (I : List Bs → World → Prop) (Ix : Go.Code → List Bs → World → Prop) (hI : OwnL Bx w.heap.size I) (hIx : ∀ c, OwnL Bx w.heap.size (Ix c)) (h0 : I [] w) (a₁ : Bs → Act)
 (hassign : ∀ (l : Nat) (x : Bs) (W : World) (K : Act → World → Prop), K (a₁ x) W →
  assign.wpIn (Fence.wide.inRound l) (n - 1 - 1) Tryz.prog (Exit.then K (fun _ _ _ => False)) { tmps := ((#[p] : Array Tmp).zip #[Value.string (bs x)]).foldl (fun t (p, v) => t.setIfInBounds p v) a.tmps, defers := [] } W)
 (hbody : ∀ (l : Nat) (pre : List Bs) (x : Bs) (W : World), I pre W → x.length ≤ s.size → body.wpIn (Fence.wide.inRound l) (n - 1 - 1) Tryz.prog (postL w.heap.size Bx I Ix (pre ++ [x]) W) (a₁ x) W)
 (hdone : ∀ (D : Nat) (xs : List Bs) (W : World), w.heap.size ≤ D → xs.flatten = s.data.toList → I xs W → W.heap[D]? = some (.deferred (some [])) → Q .normal { a with defers := { target := .collected D, args := #[] } :: a.defers } W)
 (hstop : ∀ (D : Nat) (c : Go.Code) (pre : List Bs) (x r : Bs) (W : World), w.heap.size ≤ D → s.data.toList = pre.flatten ++ (x ++ r) → First x r → Ix c (pre ++ [x]) W → W.heap[D]? = some (.deferred (some [])) →
  c.wpIn Fence.wide n Tryz.prog Q { a with defers := { target := .collected D, args := #[] } :: a.defers } W) :
 (Code.rangeFunc g #[p] assign body).wpIn Fence.wide n Tryz.prog Q a w := by
 refine wpIn_rangeFunc ?_
 intro fn hfn
 have hbx := hB.lt
 obtain ⟨D, hD⟩ : ∃ D, D = w.heap.size := ⟨_, rfl⟩
 obtain ⟨W1, hW1⟩ : ∃ W1, W1 = (w.alloc (.deferred (some []))).alloc (.loop (recL fn a p assign body D .ready none)) := ⟨_, rfl⟩
 have hL1 : W1.heap[D + 1]? = some (.loop (recL fn a p assign body D .ready none)) := by
  have h := World.alloc_heap_new (w.alloc (.deferred (some []))) (.loop (recL fn a p assign body D .ready none))
  rw [World.size_alloc, ← hD, ← hW1] at h; exact h
 have hK1 : W1.heap[D]? = some (.deferred (some [])) := by
  rw [hW1, hD]; exact (Below.heap_alloc _ _ _ (by simp)).trans (World.alloc_heap_new w _)
 have hI1 : I [] W1 := by rw [hW1]; exact hI.alloc _ (hI.alloc _ h0)
 have hB1 : Boxed W1 Bx 9 (.string s) := by rw [hW1]; exact (hB.alloc _).alloc _
 refine ⟨D + 1, [{ target := .collected D, args := #[] }], W1, { target := .fn (.func 213) #[.pointer (some ⟨Bx, 0, none⟩)], args := #[.func (.yield (D + 1)) #[] #[]] }, W1, 213,
  #[.func (.yield (D + 1)) #[] #[], .pointer (some ⟨Bx, 0, none⟩)], W1, ?_, ?_, fun _ _ => trivial, ?_, fun h => by omega, ?_⟩
 · rw [hW1, hD]; exact run_enterLoop_outer _ _ _ _ _
 · simp only [resolve, hg]
   simp [go_sem]
 · simp [invoke, go_sem]
 have keep : ∀ {A B : World} {k : Nat} {o : Obj}, k ≠ Bx → A.grownBy B (some Bx) → A.heap[k]? = some o → B.heap[k]? = some o := fun {A B k o} hne hgr hk =>
  (hgr.block k (Array.getElem?_eq_some_iff.1 hk).1 (fun e => hne (by injection e))).trans hk
 have hne0 : D ≠ Bx := by omega
 have hne1 : D + 1 ≠ Bx := by omega
 refine (lines1_in (n - 1) (by omega) (D + 1) Bx s hs
  (fun pre W => I pre W ∧ W.heap[D + 1]? = some (.loop (recL fn a p assign body D .ready none)) ∧ W.heap[D]? = some (.deferred (some [])))
  (fun pre W => ∃ c, Ix c pre W ∧ W.heap[D + 1]? = some (.loop (recL fn a p assign body D .done (some c))) ∧ W.heap[D]? = some (.deferred (some [])))
  (fun t A B h hgr => ⟨hI t A B _ h.1 hgr (fun r e => by injection e with e; exact .inl e.symm), keep hne1 hgr h.2.1, keep hne0 hgr h.2.2⟩)
  ?_ W1 hB1 ⟨hI1, hL1, hK1⟩).mono ?_
 · rintro pre x W ⟨hi, hl, hk⟩ hlen
   have hlt : D + 1 < W.heap.size := (Array.getElem?_eq_some_iff.1 hl).1
   have hy := run_yield (P := Tryz.prog) (args := #[.string (bs x)]) hl rfl
   refine ⟨fn, _, assign, body, hy, roundIn_of_wpIn hfn (hassign (D + 1) x W _ ?_)⟩
   refine ⟨_, run_beginRound hl rfl, ?_⟩
   have hl2 : (W.putObj (D + 1) (.loop (recL fn a p assign body D .busy none))).heap[D + 1]? = some (.loop (recL fn a p assign body D .busy none)) := World.putObj_heap_same hlt
   have hk2 : (W.putObj (D + 1) (.loop (recL fn a p assign body D .busy none))).heap[D]? = some (.deferred (some [])) := (World.putObj_heap_other (by omega)).trans hk
   refine wpIn_mono (hbody _ pre x _ (hI.putObj _ hi (by omega) hl rfl) hlen) ?_
   rintro e a3 W3 hp
   have fin : KeepsFrom w.heap.size (W.putObj (D + 1) (.loop (recL fn a p assign body D .busy none))) W3 → ∀ jump : Option Go.Code,
    (Instr.endRound (D + 1) jump).run Tryz.prog W3 = .ok (.bool jump.isNone) (W3.putObj (D + 1) (.loop (recL fn a p assign body D (if jump.isNone then .ready else .done) jump))) ∧
    W3.heap[D + 1]? = some (.loop (recL fn a p assign body D .busy none)) ∧
    (W3.putObj (D + 1) (.loop (recL fn a p assign body D (if jump.isNone then .ready else .done) jump))).heap[D + 1]? = some (.loop (recL fn a p assign body D (if jump.isNone then .ready else .done) jump)) ∧
    (W3.putObj (D + 1) (.loop (recL fn a p assign body D (if jump.isNone then .ready else .done) jump))).heap[D]? = some (.deferred (some [])) := fun hk3 jump => by
    have hl3 := hk3.same _ _ (by omega) hl2 rfl
    exact ⟨run_endRound (P := Tryz.prog) jump hl3, hl3, World.putObj_heap_same (Array.getElem?_eq_some_iff.1 hl3).1, (World.putObj_heap_other (by omega)).trans (hk3.same _ _ (by omega) hk2 rfl)⟩
   cases e with
   | normal =>
    obtain ⟨hk3, hbx3, hi3⟩ := hp
    obtain ⟨hr, hl3, hl4, hk4⟩ := fin hk3 none
    exact ⟨_, _, hr, .inl ⟨rfl, ⟨hI.putObj _ hi3 (by omega) hl3 rfl, hl4, hk4⟩, (World.putObj_heap_other (Ne.symm hne1)).trans (hbx3.trans (World.putObj_heap_other (Ne.symm hne1)))⟩⟩
   | ret =>
    obtain ⟨hr, hl3, hl4, hk4⟩ := fin hp.1 (some .ret)
    exact ⟨_, _, hr, .inr ⟨rfl, .ret, (hIx _).putObj _ hp.2 (by omega) hl3 rfl, hl4, hk4⟩⟩
   | exit id =>
    obtain ⟨hr, hl3, hl4, hk4⟩ := fin hp.1 (some (.exit id))
    exact ⟨_, _, hr, .inr ⟨rfl, .exit id, (hIx _).putObj _ hp.2 (by omega) hl3 rfl, hl4, hk4⟩⟩
   | goto t =>
    obtain ⟨hr, hl3, hl4, hk4⟩ := fin hp.1 (some (.goto t))
    exact ⟨_, _, hr, .inr ⟨rfl, .goto t, (hIx _).putObj _ hp.2 (by omega) hl3 rfl, hl4, hk4⟩⟩
   | panic ch => exact hp.elim
   | outgrown => exact hp.elim
 · rintro e W2 ⟨⟨v, rfl⟩, (⟨xs, hS, hi, hl, hk⟩ | ⟨pre, x, r, hsp, hf, c, hi, hl, hk⟩)⟩
   · exact ⟨none, _, run_endLoop (P := Tryz.prog) hl (by simp [recL]), hdone D xs _ (by omega) hS (hI.putObj _ hi (by omega) hl rfl) ((World.putObj_heap_other (by omega)).trans hk)⟩
   · exact ⟨some c, _, run_endLoop (P := Tryz.prog) hl (by simp [recL]), hstop D c pre x r _ (by omega) hsp hf ((hIx c).putObj _ hi (by omega) hl rfl) ((World.putObj_heap_other (by omega)).trans hk)⟩
end Go.Proofs.YtohgjfdbnkjefaaGreatDoor
namespace Go.Proofs.YtohgjfdbnkjefaaGreatDoor
open Go.RowKit Go.Shelf
set_option linter.unusedVariables false
attribute [local go_sem] Oper.semAt_some
theorem info_LogRecord : (Tryz.prog.info? 76).map (fun i => (i.zero, i.size, i.bytes)) = some (some (.agg #[.string ⟨#[]⟩, .string ⟨#[]⟩]), 2, 32) := by kernel_rfl
def flatR (es : List (Bs × Bs)) : List Value := es.flatMap fun e => [.string (bs e.1), .string (bs e.2)]
theorem flatR_snoc (es : List (Bs × Bs)) (e : Bs × Bs) : flatR (es ++ [e]) = flatR es ++ [.string (bs e.1), .string (bs e.2)] := by simp [flatR]
theorem linesS_len (k : Nat) (es : List (Bs × Bs)) (h : ∀ e ∈ es, OkE e) (hk : k + es.length ≤ 60) : (linesS k es).length ≤ 454 * es.length := by
 induction es generalizing k with
 | nil => simp [linesS]
 | cons e t ih =>
  have h1 := lnS_len (k := k) (h e (by simp)) (by simp at hk; omega)
  have h2 := ih (k + 1) (fun a ha => h a (by simp [ha])) (by simp at hk; omega)
  simp only [linesS, List.length_append, List.length_cons]
  omega
structure RL (n₀ : Nat) (w : World) (es : List (Bs × Bs)) (W : World) (v : Value) : Prop where
 ok : ∀ e ∈ es, OkE e
 le : es.length ≤ 60
 b0 : Boxed W n₀ 72 v
 b1 : Boxed W (n₀ + 1) 3 (.int .i64 (((linesS 0 es).length : Nat) : Int))
 row : W.ownsRow n₀ 76 2 v es.length (flatR es)
 bel : Below n₀ w W
 nb : v.ownBlock ≠ some (n₀ + 2)
 big : n₀ + 3 ≤ W.heap.size
def IL (n₀ : Nat) (w : World) (pre : List Bs) (W : World) : Prop := ∃ es v, pre.flatten = linesS 0 es ∧ RL n₀ w es W v
def IxL (n₀ : Nat) (w : World) (c : Go.Code) (pre : List Bs) (W : World) : Prop :=
 c = .exit 0 ∧ ∃ es v pre0 x, pre = pre0 ++ [x] ∧ pre0.flatten = linesS 0 es ∧ RL n₀ w es W v ∧ (es.length < 60 → ∀ e, OkE e → x ≠ lnS es.length e)
theorem RL.kept {n₀ : Nat} {w : World} {es : List (Bs × Bs)} {W W' : World} {v : Value} (h : RL n₀ w es W v) {B : Nat} (hB : n₀ + 2 < B) (hn : w.heap.size = n₀) {row : Option Nat} (hg : W.grownBy W' row)
 (hr : ∀ r, row = some r → r = n₀ + 2 ∨ (B ≤ r ∧ ∃ o : Obj, W.heap[r]? = some o ∧ o.isCells = false)) : RL n₀ w es W' v := by
 have hne : ∀ k, k < n₀ + 2 → some k ≠ row := fun k hk e => by
  rcases hr k e.symm with h1 | ⟨h1, _⟩ <;> omega
 refine ⟨h.ok, h.le, h.b0.kept hg (hne _ (by omega)), h.b1.kept hg (hne _ (by omega)), h.row.kept hg ?_, ?_, h.nb, Nat.le_trans h.big hg.size⟩
 · rcases h.row.2 with ⟨rfl, _⟩ | ⟨g, cap, cur, rfl, hb, hgb, _⟩
   · exact .inl rfl
   · right
     intro e
     have e2 : some g = row := by simpa [Value.ownBlock] using e
     rcases hr g e2.symm with rfl | ⟨_, o, ho, hc⟩
     · exact h.nb rfl
     · rw [hgb] at ho; cases ho; cases hc
 · refine h.bel.grown hg (hn ▸ h.bel.size) (fun k e => ?_)
   rcases hr k e with rfl | ⟨h1, _⟩ <;> omega
theorem IL_own (w : World) {B : Nat} (hB : w.heap.size + 2 < B) : OwnL (w.heap.size + 2) B (IL w.heap.size w) := by
 rintro s W W' row ⟨es, v, h1, h2⟩ hg hr
 exact ⟨es, v, h1, h2.kept hB rfl hg hr⟩
theorem IxL_own (w : World) {B : Nat} (hB : w.heap.size + 2 < B) (c : Go.Code) : OwnL (w.heap.size + 2) B (IxL w.heap.size w c) := by
 rintro s W W' row ⟨h0, es, v, pre0, x, h1, h2, h3, h4⟩ hg hr
 exact ⟨h0, es, v, pre0, x, h1, h2, h3.kept hB rfl hg hr, h4⟩
def ReadOut (s : ByteArray) (w : World) (e : Ending) (w' : World) : Prop :=
 ∃ v es rest, e = .returned (.tuple #[v, .int .i64 (((linesS 0 es).length : Nat) : Int)]) ∧ w'.ownsRow w.heap.size 76 2 v es.length (flatR es) ∧ Opens s.data.toList es rest ∧ Below w.heap.size w w'
theorem below_keeps {B : Nat} {W W' : World} (h : Below W.heap.size W W') : KeepsFrom B W W' := ⟨h.size, fun k o _ hk _ => (h.block k (Array.getElem?_eq_some_iff.1 hk).1).trans hk⟩
theorem RL.below {n₀ : Nat} {w : World} {es : List (Bs × Bs)} {W W' : World} {v : Value} (h : RL n₀ w es W v) (hn : w.heap.size = n₀) (hb : Below W.heap.size W W') : RL n₀ w es W' v :=
 h.kept (B := n₀ + 3) (by omega) hn (Below.gr hb) (fun r e => by cases e)
theorem RL.app {n₀ : Nat} {w : World} {es : List (Bs × Bs)} {W w1 : World} {v v' : Value} (h : RL n₀ w es W v) (hn : w.heap.size = n₀) (c r : ByteArray) (hok : OkE (c.data.toList, r.data.toList)) (hlt : es.length < 60) (A : Obj)
 (hown : w1.ownsRow n₀ 76 2 v' (es.length + 1) (flatR es ++ [.string c, .string r])) (hgrow : (W.alloc A).grownBy w1 v.ownBlock) (hat : v'.ownBlock = v.ownBlock ∨ v'.ownBlock = some (W.alloc A).heap.size) :
 Boxed w1 n₀ 72 v ∧ Boxed (w1.setCell ⟨n₀, 0, none⟩ v') (n₀ + 1) 3 (.int .i64 (((linesS 0 es).length : Nat) : Int)) ∧
 (∀ z : Int, z = (((linesS 0 (es ++ [(c.data.toList, r.data.toList)])).length : Nat) : Int) → KeepsFrom (n₀ + 3) W ((w1.setCell ⟨n₀, 0, none⟩ v').setCell ⟨n₀ + 1, 0, none⟩ (.int .i64 z)) ∧ ((w1.setCell ⟨n₀, 0, none⟩ v').setCell ⟨n₀ + 1, 0, none⟩ (.int .i64 z)).heap[n₀ + 2]? = W.heap[n₀ + 2]? ∧
  RL n₀ w (es ++ [(c.data.toList, r.data.toList)]) ((w1.setCell ⟨n₀, 0, none⟩ v').setCell ⟨n₀ + 1, 0, none⟩ (.int .i64 z)) v') := by
 have hbig := h.big
 obtain ⟨a1, a2, a3, a4, a5⟩ := h.b0.appended (by decide) h.row (by omega) (Nat.le_refl _) hown hgrow
 have b1 : Boxed w1 (n₀ + 1) 3 (.int .i64 (((linesS 0 es).length : Nat) : Int)) := (h.b1.alloc A).kept hgrow (h.b1.not_row (by decide) h.row)
 have b2 : Boxed (w1.setCell ⟨n₀, 0, none⟩ v') (n₀ + 1) 3 (.int .i64 (((linesS 0 es).length : Nat) : Int)) := b1.kept (grownBy_setCell' w1 n₀ v') (fun e => by injection e with e; omega)
 refine ⟨a1, b2, fun z hz => ?_⟩
 have hne : v'.ownBlock ≠ some (n₀ + 2) := by
  rcases hat with e | e
  · rw [e]; exact h.nb
  · rw [e]; intro e2; injection e2 with e2; simp at e2; omega
 have hne1 : v'.ownBlock ≠ some (n₀ + 1) := fun e => (b2.not_row (by decide) a3) e.symm
 refine ⟨(a4.trans (KeepsOthers.setCell _ _ _)).from _, ?_, ?_, ?_, ?_, ?_, ?_, ?_, hne, ?_⟩
 · rw [Below.heap_setCell _ _ _ _ (show n₀ + 2 ≠ n₀ + 1 by omega), Below.heap_setCell _ _ _ _ (show n₀ + 2 ≠ n₀ by omega)]
   exact (hgrow.block (n₀ + 2) (by simp; omega) (fun e => h.nb e.symm)).trans (Below.heap_alloc W A _ (by omega))
 · intro x hx
   simp only [List.mem_append, List.mem_singleton] at hx
   rcases hx with hx | rfl
   · exact h.ok x hx
   · exact hok
 · simp; omega
 · exact a2.kept (grownBy_setCell' _ (n₀ + 1) _) (fun e => by injection e with e; omega)
 · rw [← hz]; exact b2.set _
 · rw [flatR_snoc, List.length_append, bs_of, bs_of]
   exact a3.kept (grownBy_setCell' _ (n₀ + 1) _) (.inr hne1)
 · have := (h.bel.trans a5).setCell (p := ⟨n₀ + 1, 0, none⟩) (by show n₀ ≤ n₀ + 1; omega) (.int .i64 z)
   exact this
 · have := a4.size
   have h2 : ((w1.setCell ⟨n₀, 0, none⟩ v').setCell ⟨n₀ + 1, 0, none⟩ (.int .i64 z)).heap.size = (w1.setCell ⟨n₀, 0, none⟩ v').heap.size := by simp [World.setCell]
   omega
set_option maxRecDepth 100000 in
set_option maxHeartbeats 4000000 in
theorem readLog_in (n : Nat) (hn : 6 ≤ n) (s : ByteArray) (w : World) (hs : s.size ≤ 1048576) (ht : Tab w) : CallsIn Fence.wide n Tryz.prog 122 #[.string s] w (ReadOut s w) := by
 have h1 : 1 ≤ n := by omega
 obtain ⟨i0, hi, hz0, hz1, hz2⟩ := info_parts info_LogRecord
 have HT := Lib.hid ht
 clear ht
 refine callsIn_of_wp_marks Tryz.func122 rfl trivial ?_ rfl
 simp only [Tryz.ntmps122, List.size_toArray, List.length_cons, List.length_nil, Nat.reduceAdd, Nat.reduceSub, Array.replicate_succ, Array.replicate_zero, List.push_toArray, List.append_toArray, List.nil_append, List.cons_append]
 gi_wp2_with fail
 refine ⟨trivial, ?_⟩
 refine (callsIn_wide.2 (Lines_c s _)).mono ?_
 rintro e w' ⟨rfl, rfl⟩
 gi_wp2
 have hbel : Below w.heap.size w (((w.alloc (.cells #[.slice none 0 0] 72)).alloc (.cells #[.int .i64 0] 3)).alloc (.cells #[.string s] 9)) := by (repeat (first | exact Below.refl _ _ | exact (Below.refl _ _).drew | assumption | exact below_one _ | refine Below.chain ?_ (by assumption) | refine Below.drew ?_ | refine Below.alc ?_ _ | refine below_drewN ?_ | (refine Below.setCell ?_ ?_ _) | exact Nat.le_refl _ | (simp; done) | (simp; omega)))
 have hbx : Boxed (((w.alloc (.cells #[.slice none 0 0] 72)).alloc (.cells #[.int .i64 0] 3)).alloc (.cells #[.string s] 9)) (w.heap.size + 2) 9 (.string s) := by
  have := Boxed.new ((w.alloc (.cells #[.slice none 0 0] 72)).alloc (.cells #[.int .i64 0] 3)) 9 (.string s)
  simpa using this
 have hb1 : Boxed (((w.alloc (.cells #[.slice none 0 0] 72)).alloc (.cells #[.int .i64 0] 3)).alloc (.cells #[.string s] 9)) (w.heap.size + 1) 3 (.int .i64 0) := by
  have := (Boxed.new (w.alloc (.cells #[.slice none 0 0] 72)) 3 (.int .i64 0)).alloc (.cells #[.string s] 9)
  simpa using this
 have hb0 : Boxed (((w.alloc (.cells #[.slice none 0 0] 72)).alloc (.cells #[.int .i64 0] 3)).alloc (.cells #[.string s] 9)) w.heap.size 72 (.slice none 0 0) :=
  ((Boxed.new w 72 (.slice none 0 0)).alloc _).alloc _
 have h0 : IL w.heap.size w [] (((w.alloc (.cells #[.slice none 0 0] 72)).alloc (.cells #[.int .i64 0] 3)).alloc (.cells #[.string s] 9)) :=
  ⟨[], _, rfl, by simp, by simp, hb0, hb1, World.ownsRow_nil _ _ _ _, hbel, by simp [Value.ownBlock], by simp⟩
 have hsz : (((w.alloc (.cells #[.slice none 0 0] 72)).alloc (.cells #[.int .i64 0] 3)).alloc (.cells #[.string s] 9)).heap.size = w.heap.size + 3 := by simp
 generalize ((w.alloc (.cells #[.slice none 0 0] 72)).alloc (.cells #[.int .i64 0] 3)).alloc (.cells #[.string s] 9) = W0 at *
 refine wpIn_lines n (by omega) (w.heap.size + 2) s (by omega) rfl hbx (IL w.heap.size w) (IxL w.heap.size w) (IL_own w (by omega)) (fun c => IxL_own w (by omega) c) h0
  (fun x => { tmps := #[.string s, undef, .slice none 0 0, .int .i64 0, .pointer (some ⟨w.heap.size, 0, none⟩), .pointer (some ⟨w.heap.size + 1, 0, none⟩), .string (bs x), undef, undef, .string s,
   .func (.func 213) #[] #[.pointer (some ⟨w.heap.size + 1 + 1, 0, none⟩)], .string (bs x), undef, undef, undef, undef, undef, undef, undef, undef, undef, undef, undef, undef, undef, undef, undef, undef, undef, undef, undef], defers := [] }) ?assign ?body ?done ?stop
 case assign =>
  intro l x W K hK
  gi_wp2
  exact hK
 case body =>
  rintro l pre x W ⟨es, v, hpre, hR⟩ hx
  clear h0 hb0 hb1 hbx hbel
  obtain ⟨a, c, rfl, _⟩ := (Sl.of_own hR.row).slice
  have hHR := Lib.hid hR
  have hc0 := hR.b0.cell
  have hc1 := hR.b1.cell
  have hle := hR.le
  have hlen := linesS_len 0 es hR.ok (by omega)
  have HP := Lib.hid hpre
  clear hpre hR
  gi_wp2_with fail
  refine ⟨trivial, fun _ => by omega, ?_⟩
  refine (CallsIn.inRound l (callsIn_wide.2 (decodeRecord_c es.length hle (bs x) _ (by rw [bs_size]; omega) (HT.out.on hHR.out.bel)))).mono ?_
  rintro e W2 ⟨c2, r2, ok, rfl, hcs, hrs, HT1, HF1, hb2⟩
  unfold recV
  have hR2 := (hHR.out.below rfl hb2).below rfl (below_one (.cells #[.string c2, .string r2] 76))
  have HR2 := Lib.hid hR2
  have HB2 := Lib.hid (Below.alc hb2 (.cells #[.string c2, .string r2] 76))
  have hc2 := hR2.b0.cell
  have hf2 := hR2.b0.frozen
  have hd1 := hR2.b1.cell
  have hd2 := hR2.b1.frozen
  clear hR2 hb2 hc0 hc1
  cases ok with
  | false =>
   gi_wp2
   exact ⟨below_keeps HB2.out, rfl, es, _, pre, x, rfl, HP.out, HR2.out, fun hk e he hxe => HF1.out trivial hk e he (by rw [bs_list]; exact hxe)⟩
  | true =>
   obtain ⟨hok, hlt, hln⟩ := HT1.out rfl
   rw [bs_list] at hln
   have HLN := Lib.hid hln
   have HOK := Lib.hid hok
   have hxl := lnS_len hok hlt
   rw [← hln] at hxl
   have HX := Lib.hid (show ((bs x).size : Int) = (x.length : Int) by rw [bs_size])
   clear hln hok
   have hnews : ∀ j u, [Value.string c2, Value.string r2][j]? = some u → ((W2.alloc (.cells #[.string c2, .string r2] 76)).alloc (.cells #[.string c2, .string r2] 76)).cell? ((⟨W2.heap.size + 1, 0, none⟩ : Addr).add j) = some u := by
    have h := news_new (W2.alloc (.cells #[.string c2, .string r2] 76)) [.string c2, .string r2] 76
    rw [show (W2.alloc (.cells #[.string c2, .string r2] 76)).heap.size = W2.heap.size + 1 by simp] at h
    exact h
   have HNW := Lib.hid hnews
   clear hnews
   gi_wp2_with (gi_at_builtin; refine wpListIn_append_own_at _ rfl _ _ 72 rfl w.heap.size 76 i0 (.agg #[.string ⟨#[]⟩, .string ⟨#[]⟩]) 2 32 Tryz.underlying72 hi hz0 hz1 hz2 rfl (by decide) _ _ _ rfl (HR2.out.row.alloc _) ⟨W2.heap.size + 1, 0, none⟩ 1 1 [.string c2, .string r2] rfl rfl HNW.out (by simp [Value.oneCell']) (by unfold maxLen; omega) (by omega) (by have := HR2.out.big; simp at this ⊢; omega) ?_; intro v' w1 hown' hgrow _ hat; obtain ⟨ga, capa, rfl⟩ := ownsRow_succ hown'; obtain ⟨p1, p2, p3⟩ := HR2.out.app rfl c2 r2 HOK.out hlt _ hown' hgrow hat; have hq1 := p1.cell; have hq2 := p1.frozen; have hq3 := p2.cell; have hq4 := p2.frozen; have HP3 := Lib.hid p3; clear p1 p2 p3 hown' hgrow hat)
   have hz : wrap64 ((((linesS 0 es).length : Nat) : Int) + (((bs x).size : Nat) : Int)) = (((linesS 0 (es ++ [(c2.data.toList, r2.data.toList)])).length : Nat) : Int) := by
    rw [linesS_snoc, List.length_append, Nat.zero_add, ← HLN.out, HX.out, IntWalk.wrap64_in _ ⟨by omega, by omega⟩]
    omega
   obtain ⟨k1, k2, k3⟩ := HP3.out _ hz
   have hbig := hHR.out.big
   refine ⟨(below_keeps HB2.out).trans (hsz ▸ k1), k2.trans (HB2.out.block _ (by omega)), _, _, ?_, k3⟩
   rw [List.flatten_append, HP.out, linesS_snoc, Nat.zero_add, ← HLN.out]; simp
 case done =>
  rintro D xs W hD hfl ⟨es, v, hpre, hR⟩ hK
  have hc0 := hR.b0.cell
  have hc1 := hR.b1.cell
  have HR := Lib.hid hR
  have HO : Hid (Opens s.data.toList es []) := by
   have h := Opens.whole hR.ok hR.le
   rw [← hpre, hfl] at h; exact h
  have HK := Lib.hid hK
  clear hR hpre hfl hK h0 hb0 hb1 hbx hbel
  gi_wp2
  gi_region
  gi_wp2
  refine ⟨by simp, .inl ⟨_, _, rfl, run_takeDeferred (show W.drew.heap[D]? = _ from HK.out), ?_⟩⟩
  exact ⟨_, results_tmp2 rfl _ _ _, v, es, [], rfl, ownsRow_putObj (show W.drew.ownsRow _ _ _ _ _ _ from HR.out.row) _ HK.out rfl, HO.out, HR.out.bel.drew.trans (belowK_b (w := w) (Nat.le_refl _) W.drew D _ _ (by omega) HK.out rfl rfl)⟩
 case stop =>
  rintro D cj pre x r W hD hsp hf ⟨rfl, es, v, pre0, x0, hpx, hpre, hR, hno⟩ hK
  have hc0 := hR.b0.cell
  have hc1 := hR.b1.cell
  have HR := Lib.hid hR
  have HO : Hid (Opens s.data.toList es (x ++ r)) := by
   obtain ⟨rfl, e2⟩ := List.append_inj' hpx rfl
   injection e2 with e2
   subst e2
   refine ⟨hR.ok, hR.le, by rw [hsp, hpre], ?_⟩
   by_cases h60 : es.length = 60
   · exact .inl h60
   · right
     intro e hb
     exact hno (by have := hR.le; omega) e hb.1 (hf.begins hb)
  have HK := Lib.hid hK
  clear hR hpre hK h0 hb0 hb1 hbx hbel hpx hsp hf hno
  gi_wp2
  gi_region
  gi_wp2
  refine ⟨by simp, .inl ⟨_, _, rfl, run_takeDeferred (show W.drew.heap[D]? = _ from HK.out), ?_⟩⟩
  exact ⟨_, results_tmp2 rfl _ _ _, v, es, x ++ r, rfl, ownsRow_putObj (show W.drew.ownsRow _ _ _ _ _ _ from HR.out.row) _ HK.out rfl, HO.out, HR.out.bel.drew.trans (belowK_b (w := w) (Nat.le_refl _) W.drew D _ _ (by omega) HK.out rfl rfl)⟩
theorem readLog_c (s : ByteArray) (w : World) (hs : s.size ≤ 1048576) (ht : Tab w) : Calls Tryz.prog 122 #[.string s] w (ReadOut s w) :=
 (callsIn_wide (n := 8)).1 (readLog_in 8 (by omega) s w hs ht)
end Go.Proofs.YtohgjfdbnkjefaaGreatDoor
namespace Go.Proofs.YtohgjfdbnkjefaaGreatDoor
open Go.RowKit
set_option linter.unusedVariables false
set_option maxRecDepth 100000
theorem Opens.done {s : Bs} {es : List (Bs × Bs)} (h : ∀ e ∈ es, OkE e) (hl : es.length ≤ 60) (he : s = linesS 0 es) : Opens s es [] := by rw [he]; exact Opens.whole h hl
set_option linter.unusedSimpArgs false
structure ValidL (d p : Bs) (n : Int) (es : List (Bs × Bs)) : Prop where
 sz : (d ++ p).length ≤ 30000
 ok : ∀ e ∈ es, OkE e
 le : es.length ≤ 60
 eq : d ++ p = linesS 0 es
 fin : d = [] ∨ ∃ t, d = t ++ [10]
 cnt : n = (es.length : Int)
theorem ValidL.opens {d p : Bs} {n : Int} {es : List (Bs × Bs)} (h : ValidL d p n es) : Opens (d ++ p) es [] := Opens.done h.ok h.le h.eq
theorem ValidL.uniq {d p : Bs} {n n' : Int} {es es' : List (Bs × Bs)} (h : ValidL d p n es) (h' : ValidL d p n' es') : es = es' := (h.opens.uniq h'.opens).1
theorem valid_of {d p : Bs} {n : Int} {es : List (Bs × Bs)} {rest : Bs} (ho : Opens (d ++ p) es rest) (h1 : (d ++ p).length ≤ 30000) (h2 : (linesS 0 es).length = (d ++ p).length) (h3 : n = (es.length : Int)) (h4 : d = [] ∨ ∃ t, d = t ++ [10]) : ValidL d p n es := by
 refine ⟨h1, ho.ok, ho.le, ?_, h4, h3⟩
 have h := ho.eq
 have hr : rest = [] := List.eq_nil_of_length_eq_zero (by have h5 := h2; rw [h, List.length_append] at h5; omega)
 rw [hr, List.append_nil] at h; exact h
theorem valid_to {d p : Bs} {n : Int} {es es' : List (Bs × Bs)} {rest : Bs} (ho : Opens (d ++ p) es rest) (h : ValidL d p n es') : (linesS 0 es).length = (d ++ p).length ∧ n = (es.length : Int) := by
 obtain ⟨rfl, rfl⟩ := ho.uniq h.opens
 exact ⟨by rw [← h.eq], h.cnt⟩
def logV (d p : ByteArray) (n : Int) : Value := .agg #[.string d, .string p, .int .i64 n]
def RecOut (d p : ByteArray) (n : Int) (w : World) (e : Ending) (w' : World) : Prop :=
 ∃ v es ok, e = .returned (.tuple #[v, .bool ok]) ∧ w'.ownsRow w.heap.size 76 2 v es.length (flatR es) ∧
  Hid (ok = true → ValidL d.data.toList p.data.toList n es) ∧ Hid (ok = false → ∀ es', ¬ ValidL d.data.toList p.data.toList n es') ∧ Below w.heap.size w w'
theorem app_list (d p : ByteArray) : (d ++ p).data.toList = d.data.toList ++ p.data.toList := by simp
theorem app_size (d p : ByteArray) : (d ++ p).size = d.size + p.size := by simp [ByteArray.size_append]
theorem HasSuffix_c (s : ByteArray) (w : World) (hs : s.size ≤ 1073741824) : Calls Tryz.prog 123 #[.string s, .string ⟨#[10]⟩] w fun e w' => e = .returned (.bool (Lib.hasSuffix s.data.toList [10])) ∧ w = w' :=
 (Tryz.strings_HasSuffix s ⟨#[10]⟩ w (by omega)).mono fun e w' h => ⟨h.1, h.2.symm⟩
set_option maxHeartbeats 4000000 in
theorem records_c (d p : ByteArray) (n : Int) (w : World) (hd : d.size ≤ 1048576) (hp : p.size ≤ 1048576) (ht : Tab w) : Calls Tryz.prog 70 #[logV d p n] w (RecOut d p n w) := by
 unfold logV
 have hb0 := Lib.hid (below_one (w := w) (.cells #[.string d, .string p, .int .i64 n] 29))
 have HT := Lib.hid ht
 clear ht
 by_cases hbig : 30000 < d.size + p.size
 · have ht1 : decide ((30000 : Int) < (d.size : Int) + (p.size : Int)) = true := by simp; omega
   have HF : Hid (∀ es', ¬ ValidL d.data.toList p.data.toList n es') := fun es' h => by
    have := h.sz
    rw [List.length_append, ba_len, ba_len] at this; omega
   go_enter Tryz.func70, Tryz.ntmps70
   go_wp2
   go_ret2
   exact ⟨_, [], false, rfl, World.ownsRow_nil _ _ _ _, (fun h => by cases h), (fun _ => HF.out), hb0.out⟩
 · have ht1 : decide ((30000 : Int) < (d.size : Int) + (p.size : Int)) = false := by simp; omega
   have hAL := Lib.hid (app_list d p)
   have hAS := Lib.hid (app_size d p)
   have HRL := Lib.hid (fun w => readLog_c (d ++ p) w (by rw [app_size]; omega))
   have hB0 := Lib.hid (Bk.new w 29 #[.string d, .string p, .int .i64 n])
   go_enter Tryz.func70, Tryz.ntmps70
   go_wp2_with fail
   refine (HRL.out _ (HT.out.on hb0.out)).mono ?_
   rintro e w2 ⟨v, es, rest, rfl, ho, hopn, hb2⟩
   rw [hAL.out] at hopn
   generalize d ++ p = all at *
   have hall : all.size ≤ 2097152 := by have := hAS.out; omega
   obtain ⟨a, c, rfl, _⟩ := (Sl.of_own ho).slice
   have B2 := hB0.out.below hb2
   have q0 : w2.cell? ⟨w.heap.size, 0, none⟩ = some (.string d) := B2.cell 0
   have q2 : w2.cell? ⟨w.heap.size, 2, none⟩ = some (.int .i64 n) := B2.cell 2
   have HO := Lib.hid (own_lo (lo' := w.heap.size) ho (by simp))
   have HOp := Lib.hid hopn
   have HB := Lib.hid (Below.chain hb0.out hb2)
   have hlen := linesS_len 0 es hopn.ok (by have := hopn.le; omega)
   have hle := hopn.le
   clear ho hopn hb2 B2 hB0 HRL
   have NO : Hid (((linesS 0 es).length ≠ all.size ∨ n ≠ (es.length : Int) ∨ ¬ (d.data.toList = [] ∨ ∃ t, d.data.toList = t ++ [10])) → RecOut d p n w (.returned (.tuple #[.slice a es.length c, .bool false])) w2) := fun h =>
    ⟨_, es, false, rfl, HO.out, (fun h => by cases h), (fun _ es' hv => by
     obtain ⟨h1, h2⟩ := valid_to HOp.out hv
     rw [List.length_append, ba_len, ba_len, ← hAS.out] at h1
     rcases h with h | h | h
     · exact h h1
     · exact h h2
     · exact h hv.fin), HB.out⟩
   generalize hL : (linesS 0 es).length = L at *
   have HL := Lib.hid hL
   clear hL
   by_cases h1 : L = all.size
   · have t1 : ((L : Int) == (all.size : Int)) = true := by rw [h1]; simp
     by_cases h2 : n = (es.length : Int)
     · have t2 : (n == (es.length : Int)) = true := by rw [h2]; simp
       have YES : Hid ((d.data.toList = [] ∨ ∃ t, d.data.toList = t ++ [10]) → RecOut d p n w (.returned (.tuple #[.slice a es.length c, .bool true])) w2) := fun h =>
        ⟨_, es, true, rfl, HO.out, (fun _ => valid_of HOp.out (by rw [List.length_append, ba_len, ba_len]; omega) (by rw [HL.out, List.length_append, ba_len, ba_len, ← hAS.out, h1]) h2 h), (fun h => by cases h), HB.out⟩
       have H2 := Lib.hid h2
       have H1 := Lib.hid h1
       clear h1 h2
       by_cases h3 : d.size = 0
       · have t3 : d.toList.isEmpty = true := by rw [empty_size]; simp [h3]
         have Y := Lib.hid (YES.out (.inl (List.eq_nil_of_length_eq_zero (by rw [ba_len]; exact h3))))
         clear h3 YES NO
         go_wp2
         go_ret2
         exact Y.out
       · have t3 : d.toList.isEmpty = false := by rw [empty_size]; simp [h3]
         have HS := Lib.hid (HasSuffix_c d)
         have hne : d.data.toList ≠ [] := fun h => h3 (by rw [← ba_len, h]; rfl)
         rcases hsf : Lib.hasSuffix d.data.toList [10] with _ | _
         · have N := Lib.hid (NO.out (.inr (.inr (fun h => by
            rcases h with h | h
            · exact hne h
            · rw [(suffix_iff _).2 h] at hsf; cases hsf))))
           have HSF := Lib.hid hsf
           clear hsf NO YES hne
           go_wp2_with fail
           refine (HS.out _ (by omega)).mono ?_
           rintro e w3 ⟨rfl, rfl⟩
           rw [HSF.out]
           go_wp2
           go_ret2
           exact N.out
         · have Y := Lib.hid (YES.out (.inr ((suffix_iff _).1 hsf)))
           have HSF := Lib.hid hsf
           clear hsf NO YES hne
           go_wp2_with fail
           refine (HS.out _ (by omega)).mono ?_
           rintro e w3 ⟨rfl, rfl⟩
           rw [HSF.out]
           go_wp2
           go_ret2
           exact Y.out
     · have t2 : (n == (es.length : Int)) = false := by simp [h2]
       have N := Lib.hid (NO.out (.inr (.inl h2)))
       clear h2 h1 NO
       go_wp2
       go_ret2
       exact N.out
   · have t1 : ((L : Int) == (all.size : Int)) = false := by simp; omega
     have N := Lib.hid (NO.out (.inl h1))
     clear h1 NO
     go_wp2
     go_ret2
     exact N.out
def ValOut (d p : ByteArray) (n : Int) (w : World) (e : Ending) (w' : World) : Prop :=
 ∃ ok, e = .returned (.bool ok) ∧ (ok = true ↔ ∃ es, ValidL d.data.toList p.data.toList n es) ∧ Below w.heap.size w w'
theorem IsValidLog_c (d p : ByteArray) (n : Int) (w : World) (hd : d.size ≤ 1048576) (hp : p.size ≤ 1048576) (ht : Tab w) : Calls Tryz.prog 81 #[logV d p n] w (ValOut d p n w) := by
 have HR := Lib.hid (fun w => records_c d p n w hd hp)
 unfold logV at *
 have hb0 := Lib.hid (below_one (w := w) (.cells #[.string d, .string p, .int .i64 n] 29))
 have HT := Lib.hid ht
 clear ht
 go_enter Tryz.func81, Tryz.ntmps81
 go_wp2_with fail
 refine (HR.out _ (HT.out.on hb0.out)).mono ?_
 rintro e w2 ⟨v, es, ok, rfl, ho, H1, H2, hb2⟩
 have hB := Lib.hid (Below.chain hb0.out hb2)
 clear hb2 ho
 go_wp2
 go_ret
 refine ⟨ok, rfl, ⟨fun h => ⟨es, H1.out h⟩, fun ⟨es', h⟩ => ?_⟩, hB.out⟩
 cases ok with
 | true => rfl
 | false => exact absurd h (H2.out rfl es')
end Go.Proofs.YtohgjfdbnkjefaaGreatDoor
