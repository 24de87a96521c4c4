/- The checker's split of a text at a byte, plainly and walked. -/
import Derived.Test.YtlipkplomndjcaaDoorDec
import Derived.Test.YtlipkplomndjcaaDoorPairs
namespace Go.Proofs.YtlipkplomndjcaaDoor
open Go.RowKit
set_option linter.unusedVariables false
set_option maxRecDepth 100000
def splStep (c : UInt8) (st : List Bs × Bs) (x : UInt8) : List Bs × Bs := if x = c then (st.1 ++ [st.2], []) else (st.1, st.2 ++ [x])
def splSt (c : UInt8) (s : Bs) : List Bs × Bs := s.foldl (splStep c) ([], [])
/-- the parts of a text between bytes -/
def splitS (c : UInt8) (s : Bs) : List Bs := (splSt c s).1 ++ [(splSt c s).2]
theorem splSt_snoc (c : UInt8) (s : Bs) (x : UInt8) : splSt c (s ++ [x]) = splStep c (splSt c s) x := by unfold splSt; rw [List.foldl_append]; rfl
theorem splSt_cur (c : UInt8) (s : Bs) : ∃ p, s = p ++ (splSt c s).2 ∧ (splSt c s).1.length ≤ p.length := by
  refine snocB (M := fun s => ∃ p, s = p ++ (splSt c s).2 ∧ (splSt c s).1.length ≤ p.length) ⟨[], rfl, Nat.le_refl _⟩ (fun l x ih => ?_) s
  obtain ⟨p, h1, h2⟩ := ih
  rw [splSt_snoc]; unfold splStep
  split
  · exact ⟨l ++ [x], by simp, by simp; have := congrArg List.length h1; simp at this; omega⟩
  · refine ⟨p, ?_, h2⟩
    show l ++ [x] = p ++ ((splSt c l).2 ++ [x])
    rw [← List.append_assoc, ← h1]
theorem splSt_none {c : UInt8} {s : Bs} (h : c ∉ s) : splSt c s = ([], s) := by
  refine snocB (M := fun s => c ∉ s → splSt c s = ([], s)) (fun _ => rfl) (fun l x ih h => ?_) s h
  simp only [List.mem_append, List.mem_singleton, not_or] at h
  rw [splSt_snoc, ih h.1]
  unfold splStep
  rw [if_neg (fun e => h.2 e.symm)]
theorem splSt_grow (c : UInt8) (st : List Bs × Bs) (s : Bs) : ∃ l, (s.foldl (splStep c) st).1 = st.1 ++ l := by
  induction s generalizing st with
  | nil => exact ⟨[], by simp⟩
  | cons x t ih =>
    simp only [List.foldl_cons]
    obtain ⟨l, hl⟩ := ih (splStep c st x)
    rw [hl]; unfold splStep; split
    · exact ⟨[st.2] ++ l, by simp⟩
    · exact ⟨l, rfl⟩
/-- a text with the byte: its first part, and more behind -/
theorem split_hit {c : UInt8} {a b : Bs} (h : c ∉ a) : ∃ q l, splitS c (a ++ c :: b) = a :: q :: l := by
  have h1 : splSt c (a ++ c :: b) = b.foldl (splStep c) ([a], []) := by
    have : splSt c (a ++ c :: b) = (c :: b).foldl (splStep c) (splSt c a) := by unfold splSt; rw [List.foldl_append]
    rw [this, splSt_none h]
    simp [splStep]
  obtain ⟨l, hl⟩ := splSt_grow c ([a], []) b
  unfold splitS
  rw [h1, hl]
  cases l with
  | nil => exact ⟨_, [], rfl⟩
  | cons q l => exact ⟨q, _, rfl⟩
theorem split_miss {c : UInt8} {s : Bs} (h : c ∉ s) : splitS c s = [s] := by unfold splitS; rw [splSt_none h]; rfl
theorem split_take {c : UInt8} {s : ByteArray} {k : Nat} (hk : k < s.size) : splSt c (s.data.toList.take (k + 1)) = splStep c (splSt c (s.data.toList.take k)) s[k] := by
  rw [List.take_succ_eq_append_getElem (by rw [ba_len]; exact hk), splSt_snoc, ba_at hk]
/-- the current part is the text from its place on -/
theorem split_ext {c : UInt8} {s : ByteArray} {k : Nat} (hk : k ≤ s.size) : (splSt c (s.data.toList.take k)).2.length ≤ k ∧ (splSt c (s.data.toList.take k)).1.length ≤ k ∧ s.extract (k - (splSt c (s.data.toList.take k)).2.length) k = bs (splSt c (s.data.toList.take k)).2 := by
  obtain ⟨p, h1, h2⟩ := splSt_cur c (s.data.toList.take k)
  have hl : (s.data.toList.take k).length = k := by rw [List.length_take, ba_len]; omega
  have h3 := congrArg List.length h1
  rw [hl, List.length_append] at h3
  refine ⟨by omega, by omega, bs_eq ?_⟩
  rw [Lib.extract_data, List.take_drop]
  generalize (splSt c (s.data.toList.take k)).2 = cur at *
  rw [show k - cur.length + (k - (k - cur.length)) = k by omega, h1, show k - cur.length = p.length by omega, List.drop_left]
theorem info_string : (Tryd.prog.info? 9).map (fun i => (i.zero, i.size, i.bytes)) = some (some (.string ⟨#[]⟩), 1, 16) := by kernel_rfl
def strV (b : Bs) : Value := .string (bs b)
theorem own_ge {w : World} {lo : Nat} {e : TypeId} {size : Nat} {v : Value} {n : Nat} {xs : List Value} (h : w.ownsRow lo e size v n xs) {k : Nat} (hk : some k = v.ownBlock) : lo ≤ k := by
  rcases h.2 with ⟨rfl, _⟩ | ⟨g, cap, cur, rfl, hb, _⟩
  · simp [Value.ownBlock] at hk
  · obtain rfl : k = g := by simpa [Value.ownBlock] using hk
    exact hb
def SplOut (c : UInt8) (l : Bs) (w : World) (e : Ending) (w' : World) : Prop := ∃ v, e = .returned v ∧ w'.ownsRow w.heap.size 9 1 v (splitS c l).length ((splitS c l).map strV) ∧ Below w.heap.size w w'
set_option maxHeartbeats 4000000 in
theorem l1Split_c (s : ByteArray) (c : UInt8) (w : World) (hs : s.size ≤ 1073741824) : Calls Tryd.prog 62 #[.string s, .int .u8 (c.toNat : Int)] w (SplOut c s.data.toList w) := by
  obtain ⟨i0, hi, hz0, hz1, hz2⟩ := info_parts info_string
  have ho0 := World.ownsRow_lit (e := 9) (size := 1) (base := w.heap.size) w #[] 0 (by simp) (by decide) rfl
  go_enter Tryd.func62, Tryd.ntmps62
  go_wp2
  go_loopw [5, 6, 7] (fun out fr i wr => ∃ k : Nat, k ≤ s.size ∧ i = .int .i64 (k : Int) ∧ fr = .int .i64 (((k - (splSt c (s.data.toList.take k)).2.length : Nat)) : Int) ∧ wr.ownsRow w.heap.size 9 1 out (splSt c (s.data.toList.take k)).1.length ((splSt c (s.data.toList.take k)).1.map strV) ∧ Below w.heap.size w wr) (fun _ _ i _ => s.size - (intOf i).toNat)
  case atStart => exact ⟨0, by omega, rfl, rfl, by simpa [splSt] using ho0, below_one _⟩
  case round =>
    obtain ⟨k, hk, rfl, rfl, ho, hB⟩ := hrel
    clear ho0
    obtain ⟨e1, e2, e3⟩ := split_ext (c := c) hk
    by_cases hlt : k < s.size
    · have hd : decide ((k : Int) < (s.size : Int)) = true := by simp; omega
      have HT := Lib.hid (split_take (c := c) hlt)
      generalize splSt c (s.data.toList.take k) = st at *
      obtain ⟨ps, cur⟩ := st
      dsimp only at e1 e2 e3 ho
      have HE := Lib.hid e3
      clear e3
      by_cases hc : s[k] = c
      · have hq : decide (((s[k].toNat : Nat) : Int) = ((c.toNat : Nat) : Int)) = true := by rw [hc]; simp
        have hq2 : (((s[k].toNat : Nat) : Int) == ((c.toNat : Nat) : Int)) = true := by rw [hc]; simp
        have HS : Hid (splSt c (s.data.toList.take (k + 1)) = (ps ++ [cur], [])) := by rw [HT.out]; unfold splStep; rw [if_pos hc]; exact rfl
        have hf0 : (0 : Int) ≤ ((k - cur.length : Nat) : Int) := by omega
        have hf1 : ((k - cur.length : Nat) : Int) ≤ (k : Int) := by omega
        have hf2 : (k : Int) ≤ (s.size : Int) := by omega
        have hf3 : k - cur.length ≤ k := by omega
        clear hc HT
        generalize hfr : k - cur.length = fr at *
        have HFR := Lib.hid hfr
        clear hfr
        go_wp2_with (at_builtin; refine wpList_append_own_at _ rfl _ _ 75 rfl w.heap.size 9 i0 (.string ⟨#[]⟩) 1 16 Tryd.underlying75 hi hz0 hz1 hz2 rfl (by decide) _ ps.length (ps.map strV) rfl (ho.alloc _) ⟨wr.heap.size, 0, none⟩ 1 1 [.string (s.extract fr k)] rfl rfl (news_new _ [.string (s.extract fr k)] _) (by simp [Value.oneCell']) (by unfold maxLen; omega) (by omega) (by have := hB.size; simp; omega) ?_; intro v' w5 ho5 hg5 _ hat)
        have hb7 : Below w.heap.size w w5 := (Below.alc hB _).grown hg5 (by have := hB.size; simp; omega) (fun g hg => (ho.lt g hg).1)
        go_roundw
        case rel =>
          refine ⟨k + 1, by omega, by go_num, ?_, ?_, hb7⟩
          · rw [HS.out]; show Value.int .i64 _ = Value.int .i64 (((k + 1 - 0 : Nat)) : Int); go_num
          · rw [HS.out]
            have h5 := ho5
            rw [HE.out] at h5
            simpa [strV] using h5
        case measure => simp [intOf]; omega
      · have hne : s[k].toNat ≠ c.toNat := fun h => hc (UInt8.toNat_inj.1 h)
        have hq : decide (((s[k].toNat : Nat) : Int) = ((c.toNat : Nat) : Int)) = false := by simp; omega
        have hq2 : (((s[k].toNat : Nat) : Int) == ((c.toNat : Nat) : Int)) = false := by simp; omega
        have HS : Hid (splSt c (s.data.toList.take (k + 1)) = (ps, cur ++ [s[k]])) := by rw [HT.out]; unfold splStep; rw [if_neg hc]; exact rfl
        clear hc hne HT
        go_wp2
        go_roundw
        case rel =>
          refine ⟨k + 1, by omega, by go_num, ?_, ?_, hB⟩
          · rw [HS.out]; show Value.int .i64 _ = Value.int .i64 (((k + 1 - (cur ++ [s[k]]).length : Nat)) : Int); rw [List.length_append, List.length_singleton, show k + 1 - (cur.length + 1) = k - cur.length by omega]
          · rw [HS.out]; exact ho
        case measure => simp [intOf]; omega
    · obtain rfl : k = s.size := by omega
      have hall : s.data.toList.take s.size = s.data.toList := List.take_of_length_le (by rw [ba_len]; omega)
      have HS : Hid (splitS c s.data.toList = (splSt c (s.data.toList.take s.size)).1 ++ [(splSt c (s.data.toList.take s.size)).2]) := by rw [hall]; rfl
      clear hall
      generalize splSt c (s.data.toList.take s.size) = st at *
      obtain ⟨ps, cur⟩ := st
      dsimp only at e1 e2 e3 ho
      have HE := Lib.hid e3
      clear e3
      have hf0 : (0 : Int) ≤ ((s.size - cur.length : Nat) : Int) := by omega
      have hf1 : ((s.size - cur.length : Nat) : Int) ≤ (s.size : Int) := by omega
      have hf3 : s.size - cur.length ≤ s.size := by omega
      generalize hfr : s.size - cur.length = fr at *
      have HFR := Lib.hid hfr
      clear hfr
      go_wp2_with (at_builtin; refine wpList_append_own_at _ rfl _ _ 75 rfl w.heap.size 9 i0 (.string ⟨#[]⟩) 1 16 Tryd.underlying75 hi hz0 hz1 hz2 rfl (by decide) _ ps.length (ps.map strV) rfl (ho.alloc _) ⟨wr.heap.size, 0, none⟩ 1 1 [.string (s.extract fr s.size)] rfl rfl (news_new _ [.string (s.extract fr s.size)] _) (by simp [Value.oneCell']) (by unfold maxLen; omega) (by omega) (by have := hB.size; simp; omega) ?_; intro v' w5 ho5 hg5 _ hat)
      have hb7 : Below w.heap.size w w5 := (Below.alc hB _).grown hg5 (by have := hB.size; simp; omega) (fun g hg => (ho.lt g hg).1)
      go_ret
      refine ⟨v', rfl, ?_, hb7⟩
      rw [HS.out]
      have h5 := ho5
      rw [HE.out] at h5
      simpa [strV] using h5
end Go.Proofs.YtlipkplomndjcaaDoor
