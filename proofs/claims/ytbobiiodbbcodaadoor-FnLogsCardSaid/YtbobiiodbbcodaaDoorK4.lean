/- Texts of this claim, gathered: Split, DecS, Lines, Loop. -/
import Derived.Test.YtbobiiodbbcodaaDoorK3
import Derived.Deep.RegionHeld3
import Derived.Deep.DeepCutAuto
import Derived.BigRegion
import Derived.RangeFuncBox
import Derived.RangeFuncLeaves
import Derived.RangeFuncCalls
import Derived.RangeFuncNested
import Derived.Shelf.Abstract
import Derived.WalkKit
import Derived.OwnWalkIn
import Derived.TacticsInMore
import Derived.LoopNIn
import Derived.LoopIn
import Derived.Maps.AppendAt
namespace Go.Proofs.YtbobiiodbbcodaaDoor
open Go.RowKit
set_option linter.unusedVariables false
set_option maxRecDepth 100000
def splStep (c : UInt8) (st : List Bs × Bs) (x : UInt8) : List Bs × Bs := if x = c then (st.1 ++ [st.2], []) else (st.1, st.2 ++ [x])
def splSt (c : UInt8) (s : Bs) : List Bs × Bs := s.foldl (splStep c) ([], [])
/-- the parts of a text between bytes -/
def splitS (c : UInt8) (s : Bs) : List Bs := (splSt c s).1 ++ [(splSt c s).2]
theorem splSt_snoc (c : UInt8) (s : Bs) (x : UInt8) : splSt c (s ++ [x]) = splStep c (splSt c s) x := by unfold splSt; rw [List.foldl_append]; rfl
theorem splSt_cur (c : UInt8) (s : Bs) : ∃ p, s = p ++ (splSt c s).2 ∧ (splSt c s).1.length ≤ p.length := by
  refine snocB (M := fun s => ∃ p, s = p ++ (splSt c s).2 ∧ (splSt c s).1.length ≤ p.length) ⟨[], rfl, Nat.le_refl _⟩ (fun l x ih => ?_) s
  obtain ⟨p, h1, h2⟩ := ih
  rw [splSt_snoc]; unfold splStep
  split
  · exact ⟨l ++ [x], by simp, by simp; have := congrArg List.length h1; simp at this; omega⟩
  · refine ⟨p, ?_, h2⟩
    show l ++ [x] = p ++ ((splSt c l).2 ++ [x])
    rw [← List.append_assoc, ← h1]
theorem splSt_none {c : UInt8} {s : Bs} (h : c ∉ s) : splSt c s = ([], s) := by
  refine snocB (M := fun s => c ∉ s → splSt c s = ([], s)) (fun _ => rfl) (fun l x ih h => ?_) s h
  simp only [List.mem_append, List.mem_singleton, not_or] at h
  rw [splSt_snoc, ih h.1]
  unfold splStep
  rw [if_neg (fun e => h.2 e.symm)]
theorem splSt_grow (c : UInt8) (st : List Bs × Bs) (s : Bs) : ∃ l, (s.foldl (splStep c) st).1 = st.1 ++ l := by
  induction s generalizing st with
  | nil => exact ⟨[], by simp⟩
  | cons x t ih =>
    simp only [List.foldl_cons]
    obtain ⟨l, hl⟩ := ih (splStep c st x)
    rw [hl]; unfold splStep; split
    · exact ⟨[st.2] ++ l, by simp⟩
    · exact ⟨l, rfl⟩
/-- a text with the byte: its first part, and more behind -/
theorem split_hit {c : UInt8} {a b : Bs} (h : c ∉ a) : ∃ q l, splitS c (a ++ c :: b) = a :: q :: l := by
  have h1 : splSt c (a ++ c :: b) = b.foldl (splStep c) ([a], []) := by
    have : splSt c (a ++ c :: b) = (c :: b).foldl (splStep c) (splSt c a) := by unfold splSt; rw [List.foldl_append]
    rw [this, splSt_none h]
    simp [splStep]
  obtain ⟨l, hl⟩ := splSt_grow c ([a], []) b
  unfold splitS
  rw [h1, hl]
  cases l with
  | nil => exact ⟨_, [], rfl⟩
  | cons q l => exact ⟨q, _, rfl⟩
theorem split_miss {c : UInt8} {s : Bs} (h : c ∉ s) : splitS c s = [s] := by unfold splitS; rw [splSt_none h]; rfl
theorem split_take {c : UInt8} {s : ByteArray} {k : Nat} (hk : k < s.size) : splSt c (s.data.toList.take (k + 1)) = splStep c (splSt c (s.data.toList.take k)) s[k] := by
  rw [List.take_succ_eq_append_getElem (by rw [ba_len]; exact hk), splSt_snoc, ba_at hk]
/-- the current part is the text from its place on -/
theorem split_ext {c : UInt8} {s : ByteArray} {k : Nat} (hk : k ≤ s.size) : (splSt c (s.data.toList.take k)).2.length ≤ k ∧ (splSt c (s.data.toList.take k)).1.length ≤ k ∧ s.extract (k - (splSt c (s.data.toList.take k)).2.length) k = bs (splSt c (s.data.toList.take k)).2 := by
  obtain ⟨p, h1, h2⟩ := splSt_cur c (s.data.toList.take k)
  have hl : (s.data.toList.take k).length = k := by rw [List.length_take, ba_len]; omega
  have h3 := congrArg List.length h1
  rw [hl, List.length_append] at h3
  refine ⟨by omega, by omega, bs_eq ?_⟩
  rw [Lib.extract_data, List.take_drop]
  generalize (splSt c (s.data.toList.take k)).2 = cur at *
  rw [show k - cur.length + (k - (k - cur.length)) = k by omega, h1, show k - cur.length = p.length by omega, List.drop_left]
theorem info_string : (Tryd.prog.info? 9).map (fun i => (i.zero, i.size, i.bytes)) = some (some (.string ⟨#[]⟩), 1, 16) := by kernel_rfl
def strV (b : Bs) : Value := .string (bs b)
theorem own_ge {w : World} {lo : Nat} {e : TypeId} {size : Nat} {v : Value} {n : Nat} {xs : List Value} (h : w.ownsRow lo e size v n xs) {k : Nat} (hk : some k = v.ownBlock) : lo ≤ k := by
  rcases h.2 with ⟨rfl, _⟩ | ⟨g, cap, cur, rfl, hb, _⟩
  · simp [Value.ownBlock] at hk
  · obtain rfl : k = g := by simpa [Value.ownBlock] using hk
    exact hb
def SplOut (c : UInt8) (l : Bs) (w : World) (e : Ending) (w' : World) : Prop := ∃ v, e = .returned v ∧ w'.ownsRow w.heap.size 9 1 v (splitS c l).length ((splitS c l).map strV) ∧ Below w.heap.size w w'
set_option maxHeartbeats 4000000 in
theorem l1Split_c (s : ByteArray) (c : UInt8) (w : World) (hs : s.size ≤ 1073741824) : Calls Tryd.prog 59 #[.string s, .int .u8 (c.toNat : Int)] w (SplOut c s.data.toList w) := by
  obtain ⟨i0, hi, hz0, hz1, hz2⟩ := info_parts info_string
  have ho0 := World.ownsRow_lit (e := 9) (size := 1) (base := w.heap.size) w #[] 0 (by simp) (by decide) rfl
  go_enter Tryd.func59, Tryd.ntmps59
  go_wp2
  go_loopw [5, 6, 7] (fun out fr i wr => ∃ k : Nat, k ≤ s.size ∧ i = .int .i64 (k : Int) ∧ fr = .int .i64 (((k - (splSt c (s.data.toList.take k)).2.length : Nat)) : Int) ∧ wr.ownsRow w.heap.size 9 1 out (splSt c (s.data.toList.take k)).1.length ((splSt c (s.data.toList.take k)).1.map strV) ∧ Below w.heap.size w wr) (fun _ _ i _ => s.size - (intOf i).toNat)
  case atStart => exact ⟨0, by omega, rfl, rfl, by simpa [splSt] using ho0, below_one _⟩
  case round =>
    obtain ⟨k, hk, rfl, rfl, ho, hB⟩ := hrel
    clear ho0
    obtain ⟨e1, e2, e3⟩ := split_ext (c := c) hk
    by_cases hlt : k < s.size
    · have hd : decide ((k : Int) < (s.size : Int)) = true := by simp; omega
      have HT := Lib.hid (split_take (c := c) hlt)
      generalize splSt c (s.data.toList.take k) = st at *
      obtain ⟨ps, cur⟩ := st
      dsimp only at e1 e2 e3 ho
      have HE := Lib.hid e3
      clear e3
      by_cases hc : s[k] = c
      · have hq : decide (((s[k].toNat : Nat) : Int) = ((c.toNat : Nat) : Int)) = true := by rw [hc]; simp
        have hq2 : (((s[k].toNat : Nat) : Int) == ((c.toNat : Nat) : Int)) = true := by rw [hc]; simp
        have HS : Hid (splSt c (s.data.toList.take (k + 1)) = (ps ++ [cur], [])) := by rw [HT.out]; unfold splStep; rw [if_pos hc]; exact rfl
        have hf0 : (0 : Int) ≤ ((k - cur.length : Nat) : Int) := by omega
        have hf1 : ((k - cur.length : Nat) : Int) ≤ (k : Int) := by omega
        have hf2 : (k : Int) ≤ (s.size : Int) := by omega
        have hf3 : k - cur.length ≤ k := by omega
        clear hc HT
        generalize hfr : k - cur.length = fr at *
        have HFR := Lib.hid hfr
        clear hfr
        go_wp2_with (at_builtin; refine wpList_append_own_at _ rfl _ _ 71 rfl w.heap.size 9 i0 (.string ⟨#[]⟩) 1 16 Tryd.underlying71 hi hz0 hz1 hz2 rfl (by decide) _ ps.length (ps.map strV) rfl (ho.alloc _) ⟨wr.heap.size, 0, none⟩ 1 1 [.string (s.extract fr k)] rfl rfl (news_new _ [.string (s.extract fr k)] _) (by simp [Value.oneCell']) (by unfold maxLen; omega) (by omega) (by have := hB.size; simp; omega) ?_; intro v' w5 ho5 hg5 _ hat)
        have hb7 : Below w.heap.size w w5 := (Below.alc hB _).grown hg5 (by have := hB.size; simp; omega) (fun g hg => (ho.lt g hg).1)
        go_roundw
        case rel =>
          refine ⟨k + 1, by omega, by go_num, ?_, ?_, hb7⟩
          · rw [HS.out]; show Value.int .i64 _ = Value.int .i64 (((k + 1 - 0 : Nat)) : Int); go_num
          · rw [HS.out]
            have h5 := ho5
            rw [HE.out] at h5
            simpa [strV] using h5
        case measure => simp [intOf]; omega
      · have hne : s[k].toNat ≠ c.toNat := fun h => hc (UInt8.toNat_inj.1 h)
        have hq : decide (((s[k].toNat : Nat) : Int) = ((c.toNat : Nat) : Int)) = false := by simp; omega
        have hq2 : (((s[k].toNat : Nat) : Int) == ((c.toNat : Nat) : Int)) = false := by simp; omega
        have HS : Hid (splSt c (s.data.toList.take (k + 1)) = (ps, cur ++ [s[k]])) := by rw [HT.out]; unfold splStep; rw [if_neg hc]; exact rfl
        clear hc hne HT
        go_wp2
        go_roundw
        case rel =>
          refine ⟨k + 1, by omega, by go_num, ?_, ?_, hB⟩
          · rw [HS.out]; show Value.int .i64 _ = Value.int .i64 (((k + 1 - (cur ++ [s[k]]).length : Nat)) : Int); rw [List.length_append, List.length_singleton, show k + 1 - (cur.length + 1) = k - cur.length by omega]
          · rw [HS.out]; exact ho
        case measure => simp [intOf]; omega
    · obtain rfl : k = s.size := by omega
      have hall : s.data.toList.take s.size = s.data.toList := List.take_of_length_le (by rw [ba_len]; omega)
      have HS : Hid (splitS c s.data.toList = (splSt c (s.data.toList.take s.size)).1 ++ [(splSt c (s.data.toList.take s.size)).2]) := by rw [hall]; rfl
      clear hall
      generalize splSt c (s.data.toList.take s.size) = st at *
      obtain ⟨ps, cur⟩ := st
      dsimp only at e1 e2 e3 ho
      have HE := Lib.hid e3
      clear e3
      have hf0 : (0 : Int) ≤ ((s.size - cur.length : Nat) : Int) := by omega
      have hf1 : ((s.size - cur.length : Nat) : Int) ≤ (s.size : Int) := by omega
      have hf3 : s.size - cur.length ≤ s.size := by omega
      generalize hfr : s.size - cur.length = fr at *
      have HFR := Lib.hid hfr
      clear hfr
      go_wp2_with (at_builtin; refine wpList_append_own_at _ rfl _ _ 71 rfl w.heap.size 9 i0 (.string ⟨#[]⟩) 1 16 Tryd.underlying71 hi hz0 hz1 hz2 rfl (by decide) _ ps.length (ps.map strV) rfl (ho.alloc _) ⟨wr.heap.size, 0, none⟩ 1 1 [.string (s.extract fr s.size)] rfl rfl (news_new _ [.string (s.extract fr s.size)] _) (by simp [Value.oneCell']) (by unfold maxLen; omega) (by omega) (by have := hB.size; simp; omega) ?_; intro v' w5 ho5 hg5 _ hat)
      have hb7 : Below w.heap.size w w5 := (Below.alc hB _).grown hg5 (by have := hB.size; simp; omega) (fun g hg => (ho.lt g hg).1)
      go_ret
      refine ⟨v', rfl, ?_, hb7⟩
      rw [HS.out]
      have h5 := ho5
      rw [HE.out] at h5
      simpa [strV] using h5
end Go.Proofs.YtbobiiodbbcodaaDoor
namespace Go.Proofs.YtbobiiodbbcodaaDoor
open Go.RowKit
set_option linter.unusedVariables false
set_option linter.unusedSimpArgs false
set_option maxRecDepth 100000
/-- what the first part of a split is -/
def Head (c : UInt8) (s A : Bs) (n : Nat) : Prop := (∃ b, s = A ++ c :: b ∧ c ∉ A ∧ 2 ≤ n) ∨ (c ∉ s ∧ A = s ∧ n = 1)
def HeadOut (s : ByteArray) (c : UInt8) (w : World) (e : Ending) (w' : World) : Prop :=
  ∃ g n cap A, e = .returned (.slice (some ⟨g, 0, none⟩) n cap) ∧ w.heap.size ≤ g ∧ 1 ≤ n ∧ n ≤ 9223372036854775807 ∧ w'.cell? ⟨g, 0, none⟩ = some (.string (bs A)) ∧ A.length ≤ s.size ∧ Hid (Head c s.data.toList A n) ∧ Below w.heap.size w w'
theorem l1SplitH_c (s : ByteArray) (c : UInt8) (w : World) (hs : s.size ≤ 1073741824) : Calls Tryd.prog 59 #[.string s, .int .u8 (c.toNat : Int)] w (HeadOut s c w) :=
  (l1Split_c s c w hs).mono fun e w' ⟨v, he, ho, hb⟩ => by
    have hmx : (splitS c s.data.toList).length ≤ 9223372036854775807 := by
      obtain ⟨a, cp, _, hle, hmx⟩ := Sl.of_own ho
      unfold maxLen at hmx; omega
    rcases first_at s.data.toList c with ⟨a, b, hab, hc⟩ | hc
    · obtain ⟨q, l, hq⟩ := split_hit (b := b) hc
      rw [← hab] at hq
      rw [hq] at ho hmx
      obtain ⟨g, cap, rfl⟩ := ownsRow_succ ho
      refine ⟨g, _, cap, a, he, (ho.lt g rfl).1, by simp, hmx, ho.cellAt 0 (by simp), ?_, .inl ⟨b, hab, hc, by simp⟩, hb⟩
      rw [← ba_len, hab]; simp
    · have hq := split_miss hc
      rw [hq] at ho hmx
      obtain ⟨g, cap, rfl⟩ := ownsRow_succ (k := 0) ho
      refine ⟨g, _, cap, s.data.toList, he, (ho.lt g rfl).1, by simp, by simp, ho.cellAt 0 (by simp), by rw [ba_len]; exact Nat.le_refl _, .inr ⟨hc, rfl, rfl⟩, hb⟩
/-- the line of a record: its first part at '#' is the body -/
theorem head_line {s A : Bs} {n k : Nat} {e : Bs × Bs} (h : Head 35 s A n) (he : OkE e) (hs : s ++ [10] = lnS k e) : A = Lib.itoa (k : Int) ++ 32 :: (e.1 ++ 64 :: e.2) := by
  unfold lnS at hs
  have hs := List.append_cancel_right hs
  unfold sealS at hs
  rcases h with ⟨b, hb, hA, _⟩ | ⟨hn, _, _⟩
  · exact (part_inj hA (bodyS_no he (.inl rfl)) (hb.symm.trans hs)).1
  · exact absurd (by rw [hs]; simp) hn
theorem head_ask {r A : Bs} {n : Nat} {x y : Bs} (h : Head 64 r A n) (hx : (64 : UInt8) ∉ x) (hr : r = x ++ 64 :: y) : A = x := by
  rcases h with ⟨b, hb, hA, _⟩ | ⟨hn, _, _⟩
  · exact (part_inj hA hx (hb.symm.trans hr)).1
  · exact absurd (by rw [hr]; simp) hn
def DecSOut (k : Nat) (s : ByteArray) (w : World) (e : Ending) (w' : World) : Prop :=
  ∃ c r ok, e = .returned (.tuple #[recV c r, .bool ok]) ∧ c.size ≤ s.size ∧ r.size ≤ s.size ∧
    Hid (ok = true → OkE (c.data.toList, r.data.toList) ∧ s.data.toList ++ [10] = lnS k (c.data.toList, r.data.toList)) ∧
    Hid (ok = false → ∀ e, OkE e → s.data.toList ++ [10] ≠ lnS k e) ∧ Below w.heap.size w w'
set_option maxHeartbeats 4000000 in
theorem l12Decode_c (k : Nat) (hk : k ≤ 60) (s : ByteArray) (w : World) (hs : s.size ≤ 1048576) : Calls Tryd.prog 60 #[.string s, .int .i64 (k : Int)] w (DecSOut k s w) := by
  have hsz : (bs (Lib.decDigits k)).size ≤ 20 := by rw [bs_size, Lib.decDigits_length]; exact Lib.nDigits_le20 k (by omega)
  have HN := Lib.hid (fun w => l1Num_c k w (by omega))
  have HL := Lib.hid (fun A n e h he hs => @head_line s.data.toList A n k e h he hs)
  have HI : Hid ((bs (Lib.decDigits k) ++ ⟨#[32]⟩).data.toList = Lib.itoa (k : Int) ++ [32]) := by rw [itoa_nat]; show _ = _; simp [bs]
  generalize bs (Lib.decDigits k) = D at *
  go_enter Tryd.func60, Tryd.ntmps60
  go_wp2_with fail
  refine (HN.out _).mono ?_
  rintro e w2 ⟨rfl, hb2⟩
  have B0 := Lib.hid ((Bk.new w 25 #[.string ⟨#[]⟩, .string ⟨#[]⟩]).below hb2)
  have hb0 := Lib.hid (Below.chain (below_one (w := w) (.cells #[.string ⟨#[]⟩, .string ⟨#[]⟩] 25)) hb2)
  clear hb2
  go_wp2_with fail
  refine (l1SplitH_c s 35 _ (by omega)).mono ?_
  rintro e w3 ⟨g1, n1, cap1, A1, rfl, _, hn1, hm1, hq1, hA1, HH1, hb2⟩
  have B1 := Lib.hid (B0.out.below hb2)
  have hb1 := Lib.hid (Below.chain hb0.out hb2)
  clear B0 hb0 hb2
  have hT : (bs A1).size = A1.length := bs_size A1
  have HTL := Lib.hid (bs_list A1)
  have hTs : (bs A1).size ≤ s.size := by omega
  generalize bs A1 = T at *
  have z0 : w3.cell? ⟨w.heap.size, 0, none⟩ = some (.string ⟨#[]⟩) := B1.out.cell 0
  have z1 : w3.cell? ⟨w.heap.size, 1, none⟩ = some (.string ⟨#[]⟩) := B1.out.cell 1
  have f0 : w3.frozen? ⟨w.heap.size, 0, none⟩ = false := B1.out.frozen 0
  have f1 : w3.frozen? ⟨w.heap.size, 1, none⟩ = false := B1.out.frozen 1
  have HTn := Lib.hid hT
  clear hT hA1
  have NO : Hid ((∀ e : Bs × Bs, OkE e → A1 ≠ Lib.itoa (k : Int) ++ 32 :: (e.1 ++ 64 :: e.2)) → ∀ w', Below w.heap.size w w' → DecSOut k s w (.returned (.tuple #[.agg #[.string ⟨#[]⟩, .string ⟨#[]⟩], .bool false])) w') :=
    fun h w' hb => ⟨⟨#[]⟩, ⟨#[]⟩, false, rfl, Nat.zero_le _, Nat.zero_le _, (fun h => by cases h), (fun _ e he hl => h e he (HL.out A1 n1 e HH1.out he hl)), hb⟩
  by_cases hlt : T.size < D.size + 1
  · have hd : decide ((T.size : Int) < (D.size : Int) + 1) = true := by simp; omega
    have NO2 := Lib.hid (NO.out (fun e he hA => by
      have h1 := congrArg List.length hA
      have h2 := congrArg List.length HI.out
      have h3 : (D ++ ⟨#[32]⟩).data.toList.length = D.size + 1 := by rw [ba_len]; simp [ByteArray.size_append]; rfl
      have := HTn.out
      simp at h1 h2 h3
      omega))
    clear NO
    go_wp2
    exact bodyPost_ret (v := .tuple #[.agg #[.string ⟨#[]⟩, .string ⟨#[]⟩], .bool false]) (by simp [results, Tryd.results60, go_sem, z0, z1]) rfl (NO2.out _ (by have hb := hb1.out; exact (hb.setCell (p := ⟨w.heap.size, 0, none⟩) (Nat.le_refl _) _).setCell (p := ⟨w.heap.size, 1, none⟩) (Nat.le_refl _) _))
  · have hd : decide ((T.size : Int) < (D.size : Int) + 1) = false := by simp; omega
    have hsD : (D ++ ⟨#[32]⟩).data.toList.length = D.size + 1 := by rw [ba_len]; simp [ByteArray.size_append]; rfl
    have hx0 : (T.extract 0 (D.size + 1)).data.toList = T.data.toList.take (D.size + 1) := by rw [Lib.extract_data]; simp
    have hx1 : (T.extract (D.size + 1) T.size).data.toList = T.data.toList.drop (D.size + 1) := Lib.extract_to_end T (D.size + 1)
    have hRs : (T.extract (D.size + 1) T.size).size = T.size - (D.size + 1) := by rw [← ba_len, hx1, List.length_drop, ba_len]
    have hpp : (D.size : Int) + 1 ≤ (T.size : Int) := by omega
    by_cases hq : T.extract 0 (D.size + 1) = D ++ ⟨#[32]⟩
    · have hqe := str_eq hq
      have HTD : Hid (T.data.toList = (Lib.itoa (k : Int) ++ [32]) ++ (T.extract (D.size + 1) T.size).data.toList) := by
        show _ = _
        rw [hx1, ← HI.out, ← hq, hx0, List.take_append_drop]
      have HRS := Lib.hid (show (T.extract (D.size + 1) T.size).size ≤ s.size by omega)
      have HRT := Lib.hid (show ((T.size - (D.size + 1) : Nat) : Int) = ((T.extract (D.size + 1) T.size).size : Int) by rw [hRs])
      clear hq hx0 hx1 hsD hRs
      go_wp2_with fail
      refine (l1SplitH_c _ 64 _ (by have := HRS.out; omega)).mono ?_
      rintro e w4 ⟨g2, n2, cap2, A2, rfl, _, hn2, hm2, hq2, hA2, HH2, hb2⟩
      have B2 := Lib.hid (B1.out.below hb2)
      have hb3 := Lib.hid (Below.chain hb1.out hb2)
      have y0 : w4.cell? ⟨w.heap.size, 0, none⟩ = some (.string ⟨#[]⟩) := B2.out.cell 0
      have y1 : w4.cell? ⟨w.heap.size, 1, none⟩ = some (.string ⟨#[]⟩) := B2.out.cell 1
      have v0 : w4.frozen? ⟨w.heap.size, 0, none⟩ = false := B2.out.frozen 0
      have v1 : w4.frozen? ⟨w.heap.size, 1, none⟩ = false := B2.out.frozen 1
      clear z0 z1 f0 f1 hb2 B1 hb1 hq1 hqe
      generalize T.extract (D.size + 1) T.size = R at *
      have hQ : (bs A2).size = A2.length := bs_size A2
      have HQL := Lib.hid (bs_list A2)
      generalize bs A2 = Q at *
      have hRs := HRS.out
      have HQn := Lib.hid hQ
      have hQs : Q.size ≤ R.size := by omega
      clear hQ hA2
      rcases HH2.out with ⟨b, hRb, hno, _⟩ | ⟨hno, hA, _⟩
      · have hlenR : R.size = Q.size + 1 + b.length := by rw [← ba_len, hRb, HQn.out]; simp; omega
        have hqs : ((Q.size : Int) == (R.size : Int)) = false := by simp; omega
        have hw : IntKind.i64.wrap ((Q.size : Int) + 1) = (Q.size : Int) + 1 := IntWalk.i64_in _ (by omega)
        have hp2 : (Q.size : Int) + 1 ≤ (R.size : Int) := by omega
        have hE : R.extract (Q.size + 1) R.size = bs b := by rw [HQn.out]; exact ext_from hRb
        have hEs : (R.extract (Q.size + 1) R.size).size ≤ s.size := by rw [hE, bs_size]; omega
        have HE2 := Lib.hid hE
        have HEs := Lib.hid hEs
        have HRb := Lib.hid hRb
        have hQs2 : Q.size ≤ s.size := by omega
        clear hE hEs hRb hlenR NO
        go_upto_region 10 with fail
        have C0 := Bk.new w4 25 #[.string Q, .string (R.extract (Q.size + 1) R.size)]
        have B3 := B2.out.alloc (.cells #[.string Q, .string (R.extract (Q.size + 1) R.size)] 25)
        have hb4 := Lib.hid (Below.alc hb3.out (.cells #[.string Q, .string (R.extract (Q.size + 1) R.size)] 25))
        have hgg := C0.lt
        have hgm := B2.out.lt
        generalize w4.alloc (.cells #[.string Q, .string (R.extract (Q.size + 1) R.size)] 25) = w5 at *
        generalize w4.heap.size = g5 at *
        clear y0 y1 v0 v1 hb3 B2
        generalize R.extract (Q.size + 1) R.size = Rp at *
        have q0 : w5.cell? ⟨g5, 0, none⟩ = some (.string Q) := C0.cell 0
        have q1 : w5.cell? ⟨g5, 1, none⟩ = some (.string Rp) := C0.cell 1
        have y0 : w5.cell? ⟨w.heap.size, 0, none⟩ = some (.string ⟨#[]⟩) := B3.cell 0
        have y1 : w5.cell? ⟨w.heap.size, 1, none⟩ = some (.string ⟨#[]⟩) := B3.cell 1
        have v0 : w5.frozen? ⟨w.heap.size, 0, none⟩ = false := B3.frozen 0
        have v1 : w5.frozen? ⟨w.heap.size, 1, none⟩ = false := B3.frozen 1
        have C1 := Lib.hid C0
        have B4 := Lib.hid B3
        clear C0 B3
        have HRV := Lib.hid (l12Record_c Q Rp)
        have HLN := Lib.hid (fun w => l12Line_c k (by omega) Q Rp w (by omega) (by have := HEs.out; omega))
        unfold recV at HRV HLN
        have hne : w.heap.size ≠ g5 := by omega
        have hs1 : ¬ (9223372036854775807 < s.size + 1) := by omega
        have hs2 : ¬ (9223372036854775807 ≤ s.size) := by omega
        have ONLY : ∀ e : Bs × Bs, OkE e → s.data.toList ++ [10] = lnS k e → e = (Q.data.toList, Rp.data.toList) := fun e he hl => by
          have h1 := HTD.out
          rw [HTL.out, HL.out A1 n1 e HH1.out he hl, HRb.out] at h1
          simp only [List.append_assoc, List.singleton_append] at h1
          have h2 := List.append_cancel_left h1
          simp only [List.cons.injEq, true_and] at h2
          obtain ⟨h3, h4⟩ := part_inj he.at_ hno h2
          rw [HQL.out, HE2.out, bs_list, ← h3, ← h4]
        have NO3 : Hid (∀ w', Below w.heap.size w w' → recB Q Rp = false → DecSOut k s w (.returned (.tuple #[.agg #[.string Q, .string Rp], .bool false])) w') := fun w' hb hr =>
          ⟨Q, Rp, false, rfl, hQs2, HEs.out, (fun h => by cases h), (fun _ e he hl => by
            have := ONLY e he hl
            rw [this] at he
            rw [recB_iff.2 he] at hr; cases hr), hb⟩
        have YES3 : Hid (∀ w', Below w.heap.size w w' → recB Q Rp = true → DecSOut k s w (.returned (.tuple #[.agg #[.string Q, .string Rp], .bool ((bs (lineS (k : Int) Q.data.toList Rp.data.toList)).toList == (s ++ ⟨#[10]⟩).toList)])) w') := fun w' hb hr => by
          have hln : bs (lineS (k : Int) Q.data.toList Rp.data.toList) = s ++ ⟨#[10]⟩ ↔ s.data.toList ++ [10] = lnS k (Q.data.toList, Rp.data.toList) := by
            rw [lnS_def]
            constructor
            · intro h
              have := congrArg (fun x : ByteArray => x.data.toList) h
              simpa [bs_list] using this.symm
            · intro h
              rw [← h]; exact (bs_eq (by simp)).symm
          refine ⟨Q, Rp, _, rfl, hQs2, HEs.out, (fun h => ⟨recB_iff.1 hr, hln.1 ?_⟩), (fun h e he hl => ?_), hb⟩
          · by_cases hc : bs (lineS (k : Int) Q.data.toList Rp.data.toList) = s ++ ⟨#[10]⟩
            · exact hc
            · rw [str_ne hc] at h; cases h
          · have h2 := ONLY e he hl
            rw [h2] at hl
            rw [str_eq (hln.2 hl)] at h; cases h
        clear ONLY hno
        rcases hrc : recB Q Rp with _ | _
        · have HRC := Lib.hid hrc
          clear hrc
          -- REGION
          refine wp_region_held_drew (S := fun w' : World => w'.cell? ⟨g5, 0, none⟩ = some (.string Q) ∧ w'.cell? ⟨g5, 1, none⟩ = some (.string Rp)) (by kernel_rfl) ⟨q0, q1⟩ (fun hHeld => ?_)
          refine' wpAnyH_take (i := 0) (oi := _) (v := _) ?e_1 ?a_1 ?b_1 ?c_1 ?q_1 ?y_1 hHeld ?r_1
          case e_1 => (simp only [List.getElem?_toArray, List.getElem?_cons_zero, List.getElem?_cons_succ]; exact rfl)
          case a_1 => kernel_rfl
          case b_1 => kernel_rfl
          case c_1 => kernel_rfl
          case q_1 => exact fun _ _ _ h => h
          case y_1 => exact Or.inl ⟨by rfl, by (intro w hSw; (obtain ⟨hs1, hs2⟩ := hSw); go_simp; first | done | with_reducible rfl)⟩
          try simp only [Act.put, List.setIfInBounds_toArray, List.set_cons_zero, List.set_cons_succ]
          refine' wpAnyH_take (i := 1) (oi := _) (v := _) ?e_2 ?a_2 ?b_2 ?c_2 ?q_2 ?y_2 hHeld ?r_2
          case e_2 => (simp only [List.getElem?_toArray, List.getElem?_cons_zero, List.getElem?_cons_succ]; exact rfl)
          case a_2 => kernel_rfl
          case b_2 => kernel_rfl
          case c_2 => kernel_rfl
          case q_2 => exact fun _ _ _ h => h
          case y_2 => exact Or.inl ⟨by rfl, by (intro w hSw; (obtain ⟨hs1, hs2⟩ := hSw); go_simp; first | done | with_reducible rfl)⟩
          try simp only [Act.put, List.setIfInBounds_toArray, List.set_cons_zero, List.set_cons_succ]
          refine wpAnyH_ready (rs := [2]) (by kernel_rfl) (by simp) ?_
          refine' AllReadyH.cons (o := _) ?e_3 ?st_3 AllReadyH.nil
          case e_3 => (simp only [List.getElem?_toArray, List.getElem?_cons_zero, List.getElem?_cons_succ]; exact rfl)
          intro K hK
          go_simp
          refine (HRV.out _ (by omega) (by have := HEs.out; omega)).mono ?_
          rintro e wa ⟨rfl, hba⟩
          rw [HRC.out]
          have y0a := cell_later hba y0
          have y1a := cell_later hba y1
          have v0a := (hba.frozen (p := ⟨w.heap.size, 0, none⟩) (World.block_lt_of_cell? _ _ y0)).trans v0
          have v1a := (hba.frozen (p := ⟨w.heap.size, 1, none⟩) (World.block_lt_of_cell? _ _ y1)).trans v1
          have q0a := cell_later hba q0
          have q1a := cell_later hba q1
          have HBA := Lib.hid (Below.chain hb4.out.drew hba)
          clear hba
          refine hK.out _ _ ⟨q0a, q1a⟩ (fun hHeld => ?_)
          clear hK K
          try simp only [Act.put, List.setIfInBounds_toArray, List.set_cons_zero, List.set_cons_succ]
          refine' wpAnyH_take (i := 3) (oi := _) (v := _) ?e_4 ?a_4 ?b_4 ?c_4 ?q_4 ?y_4 hHeld ?r_4
          case e_4 => (simp only [List.getElem?_toArray, List.getElem?_cons_zero, List.getElem?_cons_succ]; exact rfl)
          case a_4 => kernel_rfl
          case b_4 => kernel_rfl
          case c_4 => kernel_rfl
          case q_4 => exact fun _ _ _ h => h
          case y_4 => exact Or.inl ⟨by rfl, by (intro w hSw; (try dsimp only at hSw); go_simp; first | done | with_reducible rfl)⟩
          try simp only [Act.put, List.setIfInBounds_toArray, List.set_cons_zero, List.set_cons_succ]
          refine' wpAnyH_take (i := 4) (oi := _) (v := undef) ?e_5 ?a_5 ?b_5 ?c_5 ?q_5 ?y_5 hHeld ?r_5
          case e_5 => (simp only [List.getElem?_toArray, List.getElem?_cons_zero, List.getElem?_cons_succ]; exact rfl)
          case a_5 => kernel_rfl
          case b_5 => kernel_rfl
          case c_5 => kernel_rfl
          case q_5 => exact fun _ _ _ h => h
          case y_5 => exact Or.inr ⟨by rfl, rfl⟩
          try simp only [Act.put, List.setIfInBounds_toArray, List.set_cons_zero, List.set_cons_succ]
          refine' wpAnyH_take (i := 5) (oi := _) (v := undef) ?e_6 ?a_6 ?b_6 ?c_6 ?q_6 ?y_6 hHeld ?r_6
          case e_6 => (simp only [List.getElem?_toArray, List.getElem?_cons_zero, List.getElem?_cons_succ]; exact rfl)
          case a_6 => kernel_rfl
          case b_6 => kernel_rfl
          case c_6 => kernel_rfl
          case q_6 => exact fun _ _ _ h => h
          case y_6 => exact Or.inr ⟨by rfl, rfl⟩
          try simp only [Act.put, List.setIfInBounds_toArray, List.set_cons_zero, List.set_cons_succ]
          refine' wpAnyH_take (i := 6) (oi := _) (v := undef) ?e_7 ?a_7 ?b_7 ?c_7 ?q_7 ?y_7 hHeld ?r_7
          case e_7 => (simp only [List.getElem?_toArray, List.getElem?_cons_zero, List.getElem?_cons_succ]; exact rfl)
          case a_7 => kernel_rfl
          case b_7 => kernel_rfl
          case c_7 => kernel_rfl
          case q_7 => exact fun _ _ _ h => h
          case y_7 => exact Or.inr ⟨by rfl, rfl⟩
          try simp only [Act.put, List.setIfInBounds_toArray, List.set_cons_zero, List.set_cons_succ]
          refine' wpAnyH_take (i := 7) (oi := _) (v := undef) ?e_8 ?a_8 ?b_8 ?c_8 ?q_8 ?y_8 hHeld ?r_8
          case e_8 => (simp only [List.getElem?_toArray, List.getElem?_cons_zero, List.getElem?_cons_succ]; exact rfl)
          case a_8 => kernel_rfl
          case b_8 => kernel_rfl
          case c_8 => kernel_rfl
          case q_8 => exact fun _ _ _ h => h
          case y_8 => exact Or.inr ⟨by rfl, rfl⟩
          try simp only [Act.put, List.setIfInBounds_toArray, List.set_cons_zero, List.set_cons_succ]
          refine' wpAnyH_take (i := 8) (oi := _) (v := undef) ?e_9 ?a_9 ?b_9 ?c_9 ?q_9 ?y_9 hHeld ?r_9
          case e_9 => (simp only [List.getElem?_toArray, List.getElem?_cons_zero, List.getElem?_cons_succ]; exact rfl)
          case a_9 => kernel_rfl
          case b_9 => kernel_rfl
          case c_9 => kernel_rfl
          case q_9 => exact fun _ _ _ h => h
          case y_9 => exact Or.inr ⟨by rfl, rfl⟩
          try simp only [Act.put, List.setIfInBounds_toArray, List.set_cons_zero, List.set_cons_succ]
          refine' wpAnyH_take (i := 9) (oi := _) (v := undef) ?e_10 ?a_10 ?b_10 ?c_10 ?q_10 ?y_10 hHeld ?r_10
          case e_10 => (simp only [List.getElem?_toArray, List.getElem?_cons_zero, List.getElem?_cons_succ]; exact rfl)
          case a_10 => kernel_rfl
          case b_10 => kernel_rfl
          case c_10 => kernel_rfl
          case q_10 => exact fun _ _ _ h => h
          case y_10 => exact Or.inr ⟨by rfl, rfl⟩
          try simp only [Act.put, List.setIfInBounds_toArray, List.set_cons_zero, List.set_cons_succ]
          refine' wpAnyH_take (i := 10) (oi := _) (v := _) ?e_11 ?a_11 ?b_11 ?c_11 ?q_11 ?y_11 hHeld ?r_11
          case e_11 => (simp only [List.getElem?_toArray, List.getElem?_cons_zero, List.getElem?_cons_succ]; exact rfl)
          case a_11 => kernel_rfl
          case b_11 => kernel_rfl
          case c_11 => kernel_rfl
          case q_11 => exact fun _ _ _ h => h
          case y_11 => exact Or.inl ⟨by rfl, by (intro w hSw; (try dsimp only at hSw); go_simp; first | done | with_reducible rfl)⟩
          try simp only [Act.put, List.setIfInBounds_toArray, List.set_cons_zero, List.set_cons_succ]
          refine wpAnyH_ready (rs := [11]) (by kernel_rfl) (by simp) ?_
          refine' AllReadyH.cons (o := _) ?e_12 ?st_12 AllReadyH.nil
          case e_12 => (simp only [List.getElem?_toArray, List.getElem?_cons_zero, List.getElem?_cons_succ]; exact rfl)
          intro K hK
          go_simp
          refine hK.out _ _ ?_ (fun hHeld => ?_)
          · exact ⟨(World.cell?_setCell_far _ _ _ _ hne).trans ((World.cell?_setCell_far _ _ _ _ hne).trans q0a), (World.cell?_setCell_far _ _ _ _ hne).trans ((World.cell?_setCell_far _ _ _ _ hne).trans q1a)⟩
          clear hK K
          try simp only [Act.put, List.setIfInBounds_toArray, List.set_cons_zero, List.set_cons_succ]
          refine' wpAnyH_take (i := 12) (oi := _) (v := _) ?e_13 ?a_13 ?b_13 ?c_13 ?q_13 ?y_13 hHeld ?r_13
          case e_13 => (simp only [List.getElem?_toArray, List.getElem?_cons_zero, List.getElem?_cons_succ]; exact rfl)
          case a_13 => kernel_rfl
          case b_13 => kernel_rfl
          case c_13 => kernel_rfl
          case q_13 => exact fun _ _ _ h => h
          case y_13 => exact Or.inl ⟨by rfl, by (intro w hSw; (try dsimp only at hSw); go_simp; first | done | with_reducible rfl)⟩
          try simp only [Act.put, List.setIfInBounds_toArray, List.set_cons_zero, List.set_cons_succ]
          refine wpAnyH_done (by kernel_rfl) ?_ _
          -- END
          go_wp2
          exact bodyPost_ret (v := .tuple #[.agg #[.string Q, .string Rp], .bool false]) (by simp [results, Tryd.results60, go_sem, y0a, y1a]) rfl (NO3.out _ (by have hb := HBA.out; exact (hb.setCell (p := ⟨w.heap.size, 0, none⟩) (Nat.le_refl _) _).setCell (p := ⟨w.heap.size, 1, none⟩) (Nat.le_refl _) _) HRC.out)
        · have HRC := Lib.hid hrc
          clear hrc
          go_region_held3 (fun w' => w'.cell? ⟨g5, 0, none⟩ = some (.string Q) ∧ w'.cell? ⟨g5, 1, none⟩ = some (.string Rp)) (first | go_keep | (go_split_ands; exact ⟨cell_later hbb ‹_›, cell_later hbb ‹_›⟩) | (go_split_ands; exact ⟨cell_later hba ‹_›, cell_later hba ‹_›⟩))
            (first | (go_at_call 36; refine (HRV.out _ (by omega) (by have := HEs.out; omega)).mono ?_; rintro e wa ⟨rfl, hba⟩; rw [HRC.out]) | (go_at_call 37; refine (HLN.out _).mono ?_; rintro e wb ⟨rfl, hbb⟩; have HBB := Lib.hid (Below.chain (Below.chain hb4.out.drew hba) hbb); have y0b := cell_later hbb (cell_later hba y0); have y1b := cell_later hbb (cell_later hba y1); have v0b := (hbb.frozen (p := ⟨w.heap.size, 0, none⟩) (World.block_lt_of_cell? _ _ (cell_later hba y0))).trans ((hba.frozen (p := ⟨w.heap.size, 0, none⟩) (World.block_lt_of_cell? _ _ y0)).trans v0); have v1b := (hbb.frozen (p := ⟨w.heap.size, 1, none⟩) (World.block_lt_of_cell? _ _ (cell_later hba y1))).trans ((hba.frozen (p := ⟨w.heap.size, 1, none⟩) (World.block_lt_of_cell? _ _ y1)).trans v1)))
          go_wp2
          exact bodyPost_ret (v := .tuple #[.agg #[.string Q, .string Rp], .bool ((bs (lineS (k : Int) Q.data.toList Rp.data.toList)).toList == (s ++ ⟨#[10]⟩).toList)]) (by simp [results, Tryd.results60, go_sem, y0b, y1b]) rfl (YES3.out _ (by have hb := HBB.out; exact (hb.setCell (p := ⟨w.heap.size, 0, none⟩) (Nat.le_refl _) _).setCell (p := ⟨w.heap.size, 1, none⟩) (Nat.le_refl _) _) HRC.out)
      · have hqs : ((Q.size : Int) == (R.size : Int)) = true := by
          rw [HQn.out, hA, ba_len]; simp
        have NO2 := Lib.hid (NO.out (fun e he hA1 => hno (by
          have h1 := HTD.out
          rw [HTL.out, hA1, List.append_assoc] at h1
          have h2 := List.append_cancel_left h1
          simp only [List.singleton_append, List.cons.injEq, true_and] at h2
          rw [← h2]; simp)))
        clear NO hno hA
        go_wp2
        exact bodyPost_ret (v := .tuple #[.agg #[.string ⟨#[]⟩, .string ⟨#[]⟩], .bool false]) (by simp [results, Tryd.results60, go_sem, y0, y1]) rfl (NO2.out _ (by have hb := hb3.out; exact (hb.setCell (p := ⟨w.heap.size, 0, none⟩) (Nat.le_refl _) _).setCell (p := ⟨w.heap.size, 1, none⟩) (Nat.le_refl _) _))
    · have hqe := str_ne hq
      have NO2 := Lib.hid (NO.out (fun e he hA => hq (by
        have h1 : T.data.toList = (D ++ ⟨#[32]⟩).data.toList ++ (e.1 ++ 64 :: e.2) := by rw [HTL.out, hA, HI.out]; simp
        rw [bs_eq hx0, h1, ← hsD, List.take_left, bs_of])))
      clear NO hq hx0 hx1 hsD hRs
      go_wp2
      exact bodyPost_ret (v := .tuple #[.agg #[.string ⟨#[]⟩, .string ⟨#[]⟩], .bool false]) (by simp [results, Tryd.results60, go_sem, z0, z1]) rfl (NO2.out _ (by have hb := hb1.out; exact (hb.setCell (p := ⟨w.heap.size, 0, none⟩) (Nat.le_refl _) _).setCell (p := ⟨w.heap.size, 1, none⟩) (Nat.le_refl _) _))
end Go.Proofs.YtbobiiodbbcodaaDoor
namespace Go.Proofs.YtbobiiodbbcodaaDoor
open Go.RowKit Go.Shelf
set_option linter.unusedVariables false
attribute [local go_sem] Oper.semAt_some
/-- what is said of the world abides the turn of the iterator's own box -/
def AbBox (Bx : Nat) (J : List Bs → World → Prop) : Prop := ∀ s A B, J s A → A.grownBy B (some Bx) → J s B
theorem setBox_grow (W : World) (Bx : Nat) (v : Value) : W.grownBy (W.setCell ⟨Bx, 0, none⟩ v) (some Bx) := grownBy_setCell' W Bx v
theorem grow_drew {W W' : World} {r : Option Nat} (h : W.grownBy W' r) : W.grownBy W'.drew r := ⟨h.os, h.tape, h.output, h.size, h.block⟩
theorem Lines_c (s : ByteArray) (w : World) :
    Calls Tryd.prog 61 #[.string s] w fun e w' => e = .returned (.func (.func 67) #[] #[.pointer (some ⟨w.heap.size, 0, none⟩)]) ∧ w' = w.alloc (.cells #[.string s] 9) := by
  go_enter Tryd.func61, Tryd.ntmps61
  go_wp2
  go_ret
  exact ⟨rfl, rfl⟩
def LinesDone (s : List UInt8) (J Jx : List Bs → World → Prop) (e : Ending) (W' : World) : Prop :=
  (∃ v, e = .returned v) ∧ ((∃ xs, xs.flatten = s ∧ J xs W') ∨ (∃ pre l r, s = pre.flatten ++ (l ++ r) ∧ First l r ∧ Jx (pre ++ [l]) W'))
theorem IB_c (s : ByteArray) (w : World) : Calls Tryd.prog 68 #[.string s, .int .u8 10] w fun e w' => e = .returned (.int .i64 (Lib.indexByte s.data.toList 10)) ∧ w = w' :=
  (Tryd.strings_IndexByte s 10 w).mono fun e w' h => ⟨h.1, h.2.symm⟩
set_option maxRecDepth 100000 in
set_option maxHeartbeats 2000000 in
theorem lines1_in (n : Nat) (hn : 3 ≤ n) (l Bx : Nat) (s : ByteArray) (hs : s.size ≤ 1073741824) (J Jx : List Bs → World → Prop) (hJ : AbBox Bx J)
    (hY : ∀ pre (x : Bs) W, J pre W → x.length ≤ s.size → YieldAt Fence.wide (n - 1) Tryd.prog l #[.string (bs x)] W fun e W' =>
      (e = .returned (.bool true) ∧ J (pre ++ [x]) W' ∧ W'.heap[Bx]? = W.heap[Bx]?) ∨ (e = .returned (.bool false) ∧ Jx (pre ++ [x]) W'))
    (W : World) (hB : Boxed W Bx 9 (.string s)) (h0 : J [] W) :
    CallsIn Fence.wide n Tryd.prog 67 #[.func (.yield l) #[] #[], .pointer (some ⟨Bx, 0, none⟩)] W (LinesDone s.data.toList J Jx) := by
  refine callsIn_of_wp Tryd.func67 rfl trivial ?_ rfl
  simp only [Tryd.ntmps67, List.size_toArray, List.length_cons, List.length_nil, Nat.reduceAdd, Nat.reduceSub, Array.replicate_succ, Array.replicate_zero, List.push_toArray, List.append_toArray, List.nil_append, List.cons_append]
  gi_wp2
  gi_loopw [3, 4] (fun _ _ wr => ∃ (pre : List Bs) (rest : ByteArray), s.data.toList = pre.flatten ++ rest.data.toList ∧ J pre wr ∧ Boxed wr Bx 9 (.string rest))
    (fun _ _ wr => match wr.cell? ⟨Bx, 0, none⟩ with | some (.string r) => r.size | _ => 0)
  case atStart => exact ⟨[], s, rfl, h0, hB⟩
  case round =>
    obtain ⟨pre, rest, hsp, hJs, hBx⟩ := hrel
    have hsz : rest.size ≤ s.size := by rw [← ba_len s, hsp, ← ba_len rest]; simp
    have hcell := hBx.cell
    have hfz := hBx.frozen
    have HSP := Lib.hid hsp
    clear hsp
    by_cases hlt : 0 < rest.size
    · rcases first_at rest.data.toList 10 with ⟨a, b, hab, hc⟩ | hc
      · have HX := Lib.hid (indexByte_hit (b := b) hc)
        have hlen : a.length + 1 + b.length = rest.size := by rw [← ba_len, hab]; simp; omega
        have H1 : Hid (rest.extract 0 (a.length + 1) = bs (a ++ [10])) := by
          have := ext_to (s := rest) (a := a ++ [10]) (b := b) (by rw [hab]; simp)
          rwa [List.length_append] at this
        have H2 := Lib.hid (ext_from hab)
        have HAB := Lib.hid hab
        have HC := Lib.hid hc
        have hla : a.length ≤ rest.size := by omega
        have hlb : a.length + 1 ≤ rest.size := by omega
        generalize hk : a.length = k at *
        have hp0 : (0 : Int) ≤ (k : Int) := by omega
        have hp1 : (k : Int) ≤ (rest.size : Int) := by omega
        have hp2 : (k : Int) + 1 ≤ (rest.size : Int) := by omega
        have hw : IntKind.i64.wrap ((k : Int) + 1) = (k : Int) + 1 := IntWalk.i64_in _ (by omega)
        have HK := Lib.hid hk
        have HL := Lib.hid hlen
        clear hab hc hk hlen
        have hJ1 := hJ pre wr _ hJs (grow_drew (setBox_grow wr Bx (.string (rest.extract (k + 1) rest.size))))
        have B1 : Boxed (wr.setCell ⟨Bx, 0, none⟩ (.string (rest.extract (k + 1) rest.size))).drew Bx 9 (.string (rest.extract (k + 1) rest.size)) := hBx.set _
        have HB1 := Lib.hid B1
        have hxl : (a ++ [10]).length ≤ s.size := by simp; have := HK.out; omega
        obtain ⟨fn, tmps, assign, body, hy, hR⟩ := hY pre (a ++ [10]) _ hJ1 hxl
        rw [← H1.out] at hy
        clear B1 hJ1 hxl
        gi_wp2_with fail
        refine ⟨trivial, fun _ => by omega, ?_⟩
        refine (callsIn_wide.2 (IB_c rest _)).mono ?_
        rintro e w' ⟨rfl, rfl⟩
        rw [HAB.out, HX.out]
        gi_wp2
        gi_region
        gi_wp2
        refine ⟨fun _ => by omega, ?_⟩
        refine hR.mono ?_
        rintro e W3 (⟨rfl, hJ3, hk3⟩ | ⟨rfl, hJx3⟩)
        · have B3 : Boxed W3 Bx 9 (.string (rest.extract (k + 1) rest.size)) := hk3.trans HB1.out
          have HB3 := Lib.hid B3
          clear B3
          gi_wp2
          go_roundw
          case rel =>
            refine ⟨pre ++ [a ++ [10]], rest.extract (k + 1) rest.size, ?_, hJ3, HB3.out⟩
            rw [H2.out, bs_list, HSP.out, HAB.out]; simp
          case measure =>
            rw [HB3.out.cell, hcell]
            show (rest.extract (k + 1) rest.size).size < rest.size
            rw [H2.out, bs_size]; have := HL.out; omega
        · gi_wp2
          refine bodyPost_ret (results_none rfl _ _ _) rfl ?_
          refine ⟨⟨_, rfl⟩, .inr ⟨pre, a ++ [10], b, ?_, .inl ⟨a, rfl, HC.out⟩, hJx3⟩⟩
          rw [HSP.out, HAB.out]; simp
      · have HX := Lib.hid (indexByte_miss hc)
        have HC := Lib.hid hc
        clear hc
        have hJ1 := hJ pre wr _ hJs (setBox_grow wr Bx (.string ⟨#[]⟩))
        have B1 : Boxed (wr.setCell ⟨Bx, 0, none⟩ (.string ⟨#[]⟩)) Bx 9 (.string ⟨#[]⟩) := hBx.set _
        have HB1 := Lib.hid B1
        have hxl : rest.data.toList.length ≤ s.size := by rw [ba_len]; omega
        obtain ⟨fn, tmps, assign, body, hy, hR⟩ := hY pre rest.data.toList _ hJ1 hxl
        rw [bs_of] at hy
        clear B1 hJ1 hxl
        gi_wp2_with fail
        refine ⟨trivial, fun _ => by omega, ?_⟩
        refine (callsIn_wide.2 (IB_c rest _)).mono ?_
        rintro e w' ⟨rfl, rfl⟩
        rw [HX.out]
        gi_wp2
        refine ⟨fun _ => by omega, ?_⟩
        refine hR.mono ?_
        rintro e W3 (⟨rfl, hJ3, hk3⟩ | ⟨rfl, hJx3⟩)
        · have B3 : Boxed W3 Bx 9 (.string ⟨#[]⟩) := hk3.trans HB1.out
          have HB3 := Lib.hid B3
          clear B3
          gi_wp2
          go_roundw
          case rel =>
            refine ⟨pre ++ [rest.data.toList], ⟨#[]⟩, ?_, hJ3, HB3.out⟩
            rw [HSP.out]; simp
          case measure =>
            rw [HB3.out.cell, hcell]
            show (0 : Nat) < rest.size
            exact hlt
        · gi_wp2
          refine bodyPost_ret (results_none rfl _ _ _) rfl ?_
          refine ⟨⟨_, rfl⟩, .inr ⟨pre, rest.data.toList, [], ?_, .inr ⟨HC.out, rfl⟩, hJx3⟩⟩
          rw [HSP.out]; simp
    · gi_wp2
      go_end0
      refine ⟨⟨_, rfl⟩, .inl ⟨pre, ?_, hJs⟩⟩
      rw [HSP.out, List.eq_nil_of_length_eq_zero (l := rest.data.toList) (by rw [ba_len]; omega), List.append_nil]
end Go.Proofs.YtbobiiodbbcodaaDoor
namespace Go.Proofs.YtbobiiodbbcodaaDoor
open Go.RowKit Go.Shelf
set_option linter.unusedVariables false
/-- a word on the world that abides the iterator's box, and blocks that are no cells from B on -/
def OwnL {β : Type} (Bx B : Nat) (I : β → World → Prop) : Prop :=
  ∀ s W W' row, I s W → W.grownBy W' row → (∀ r, row = some r → r = Bx ∨ (B ≤ r ∧ ∃ o : Obj, W.heap[r]? = some o ∧ o.isCells = false)) → I s W'
theorem OwnL.putObj {β : Type} {Bx B : Nat} {I : β → World → Prop} (h : OwnL Bx B I) {s : β} {W : World} {l : Nat} {o : Obj} (o' : Obj) (hs : I s W) (hB : B ≤ l) (hl : W.heap[l]? = some o) (ho : o.isCells = false) : I s (W.putObj l o') :=
  h s W _ (some l) hs (grownBy_putObj' W l o') (fun r e => by cases e; exact .inr ⟨hB, o, hl, ho⟩)
theorem OwnL.alloc {β : Type} {Bx B : Nat} {I : β → World → Prop} (h : OwnL Bx B I) {s : β} {W : World} (o : Obj) (hs : I s W) : I s (W.alloc o) :=
  h s W _ none hs (World.grownBy_alloc W o none) (fun r e => by cases e)
/-- how a round may end -/
def postL (B Bx : Nat) (I : List Bs → World → Prop) (Ix : Go.Code → List Bs → World → Prop) (xs : List Bs) (W : World) : Exit → Act → World → Prop
  | .normal, _, W' => KeepsFrom B W W' ∧ W'.heap[Bx]? = W.heap[Bx]? ∧ I xs W'
  | .ret, _, W' => KeepsFrom B W W' ∧ Ix .ret xs W'
  | .exit id, _, W' => KeepsFrom B W W' ∧ Ix (.exit id) xs W'
  | .goto t, _, W' => KeepsFrom B W W' ∧ Ix (.goto t) xs W'
  | .panic _, _, _ => False
  | .outgrown, _, _ => False
/-- the state of a loop's record -/
def recL (fn : FuncId) (a : Act) (p : Tmp) (assign body : Go.Code) (D : Nat) (st : LoopState) (pe : Option Go.Code) : Loop :=
  { state := st, pending := pe, fn := fn, tmps := a.tmps, params := #[p], assign := assign, body := body, defers := D }
theorem wpIn_lines {g : Operand} {p : Tmp} {assign body : Go.Code} {Q : Exit → Act → World → Prop} {a : Act} {w : World} (n : Nat) (hn : 4 ≤ n) (Bx : Nat) (s : ByteArray) (hs : s.size ≤ 1073741824)
    (hg : a.eval g = .func (.func 67) #[] #[.pointer (some ⟨Bx, 0, none⟩)]) (hB : Boxed w Bx 9 (.string s))
    (I : List Bs → World → Prop) (Ix : Go.Code → List Bs → World → Prop) (hI : OwnL Bx w.heap.size I) (hIx : ∀ c, OwnL Bx w.heap.size (Ix c)) (h0 : I [] w) (a₁ : Bs → Act)
    (hassign : ∀ (l : Nat) (x : Bs) (W : World) (K : Act → World → Prop), K (a₁ x) W →
      assign.wpIn (Fence.wide.inRound l) (n - 1 - 1) Tryd.prog (Exit.then K (fun _ _ _ => False)) { tmps := ((#[p] : Array Tmp).zip #[Value.string (bs x)]).foldl (fun t (p, v) => t.setIfInBounds p v) a.tmps, defers := [] } W)
    (hbody : ∀ (l : Nat) (pre : List Bs) (x : Bs) (W : World), I pre W → x.length ≤ s.size → body.wpIn (Fence.wide.inRound l) (n - 1 - 1) Tryd.prog (postL w.heap.size Bx I Ix (pre ++ [x]) W) (a₁ x) W)
    (hdone : ∀ (D : Nat) (xs : List Bs) (W : World), w.heap.size ≤ D → xs.flatten = s.data.toList → I xs W → W.heap[D]? = some (.deferred (some [])) → Q .normal { a with defers := { target := .collected D, args := #[] } :: a.defers } W)
    (hstop : ∀ (D : Nat) (c : Go.Code) (pre : List Bs) (x r : Bs) (W : World), w.heap.size ≤ D → s.data.toList = pre.flatten ++ (x ++ r) → First x r → Ix c (pre ++ [x]) W → W.heap[D]? = some (.deferred (some [])) →
      c.wpIn Fence.wide n Tryd.prog Q { a with defers := { target := .collected D, args := #[] } :: a.defers } W) :
    (Code.rangeFunc g #[p] assign body).wpIn Fence.wide n Tryd.prog Q a w := by
  refine wpIn_rangeFunc ?_
  intro fn hfn
  have hbx := hB.lt
  obtain ⟨D, hD⟩ : ∃ D, D = w.heap.size := ⟨_, rfl⟩
  obtain ⟨W1, hW1⟩ : ∃ W1, W1 = (w.alloc (.deferred (some []))).alloc (.loop (recL fn a p assign body D .ready none)) := ⟨_, rfl⟩
  have hL1 : W1.heap[D + 1]? = some (.loop (recL fn a p assign body D .ready none)) := by
    have h := World.alloc_heap_new (w.alloc (.deferred (some []))) (.loop (recL fn a p assign body D .ready none))
    rw [World.size_alloc, ← hD, ← hW1] at h; exact h
  have hK1 : W1.heap[D]? = some (.deferred (some [])) := by
    rw [hW1, hD]; exact (Below.heap_alloc _ _ _ (by simp)).trans (World.alloc_heap_new w _)
  have hI1 : I [] W1 := by rw [hW1]; exact hI.alloc _ (hI.alloc _ h0)
  have hB1 : Boxed W1 Bx 9 (.string s) := by rw [hW1]; exact (hB.alloc _).alloc _
  refine ⟨D + 1, [{ target := .collected D, args := #[] }], W1, { target := .fn (.func 67) #[.pointer (some ⟨Bx, 0, none⟩)], args := #[.func (.yield (D + 1)) #[] #[]] }, W1, 67,
    #[.func (.yield (D + 1)) #[] #[], .pointer (some ⟨Bx, 0, none⟩)], W1, ?_, ?_, fun _ _ => trivial, ?_, fun h => by omega, ?_⟩
  · rw [hW1, hD]; exact run_enterLoop_outer _ _ _ _ _
  · simp only [resolve, hg]
    simp [go_sem]
  · simp [invoke, go_sem]
  have keep : ∀ {A B : World} {k : Nat} {o : Obj}, k ≠ Bx → A.grownBy B (some Bx) → A.heap[k]? = some o → B.heap[k]? = some o := fun {A B k o} hne hgr hk =>
    (hgr.block k (Array.getElem?_eq_some_iff.1 hk).1 (fun e => hne (by injection e))).trans hk
  have hne0 : D ≠ Bx := by omega
  have hne1 : D + 1 ≠ Bx := by omega
  refine (lines1_in (n - 1) (by omega) (D + 1) Bx s hs
    (fun pre W => I pre W ∧ W.heap[D + 1]? = some (.loop (recL fn a p assign body D .ready none)) ∧ W.heap[D]? = some (.deferred (some [])))
    (fun pre W => ∃ c, Ix c pre W ∧ W.heap[D + 1]? = some (.loop (recL fn a p assign body D .done (some c))) ∧ W.heap[D]? = some (.deferred (some [])))
    (fun t A B h hgr => ⟨hI t A B _ h.1 hgr (fun r e => by injection e with e; exact .inl e.symm), keep hne1 hgr h.2.1, keep hne0 hgr h.2.2⟩)
    ?_ W1 hB1 ⟨hI1, hL1, hK1⟩).mono ?_
  · rintro pre x W ⟨hi, hl, hk⟩ hlen
    have hlt : D + 1 < W.heap.size := (Array.getElem?_eq_some_iff.1 hl).1
    have hy := run_yield (P := Tryd.prog) (args := #[.string (bs x)]) hl rfl
    refine ⟨fn, _, assign, body, hy, roundIn_of_wpIn hfn (hassign (D + 1) x W _ ?_)⟩
    refine ⟨_, run_beginRound hl rfl, ?_⟩
    have hl2 : (W.putObj (D + 1) (.loop (recL fn a p assign body D .busy none))).heap[D + 1]? = some (.loop (recL fn a p assign body D .busy none)) := World.putObj_heap_same hlt
    have hk2 : (W.putObj (D + 1) (.loop (recL fn a p assign body D .busy none))).heap[D]? = some (.deferred (some [])) := (World.putObj_heap_other (by omega)).trans hk
    refine wpIn_mono (hbody _ pre x _ (hI.putObj _ hi (by omega) hl rfl) hlen) ?_
    rintro e a3 W3 hp
    have fin : KeepsFrom w.heap.size (W.putObj (D + 1) (.loop (recL fn a p assign body D .busy none))) W3 → ∀ jump : Option Go.Code,
        (Instr.endRound (D + 1) jump).run Tryd.prog W3 = .ok (.bool jump.isNone) (W3.putObj (D + 1) (.loop (recL fn a p assign body D (if jump.isNone then .ready else .done) jump))) ∧
        W3.heap[D + 1]? = some (.loop (recL fn a p assign body D .busy none)) ∧
        (W3.putObj (D + 1) (.loop (recL fn a p assign body D (if jump.isNone then .ready else .done) jump))).heap[D + 1]? = some (.loop (recL fn a p assign body D (if jump.isNone then .ready else .done) jump)) ∧
        (W3.putObj (D + 1) (.loop (recL fn a p assign body D (if jump.isNone then .ready else .done) jump))).heap[D]? = some (.deferred (some [])) := fun hk3 jump => by
      have hl3 := hk3.same _ _ (by omega) hl2 rfl
      exact ⟨run_endRound (P := Tryd.prog) jump hl3, hl3, World.putObj_heap_same (Array.getElem?_eq_some_iff.1 hl3).1, (World.putObj_heap_other (by omega)).trans (hk3.same _ _ (by omega) hk2 rfl)⟩
    cases e with
    | normal =>
      obtain ⟨hk3, hbx3, hi3⟩ := hp
      obtain ⟨hr, hl3, hl4, hk4⟩ := fin hk3 none
      exact ⟨_, _, hr, .inl ⟨rfl, ⟨hI.putObj _ hi3 (by omega) hl3 rfl, hl4, hk4⟩, (World.putObj_heap_other (Ne.symm hne1)).trans (hbx3.trans (World.putObj_heap_other (Ne.symm hne1)))⟩⟩
    | ret =>
      obtain ⟨hr, hl3, hl4, hk4⟩ := fin hp.1 (some .ret)
      exact ⟨_, _, hr, .inr ⟨rfl, .ret, (hIx _).putObj _ hp.2 (by omega) hl3 rfl, hl4, hk4⟩⟩
    | exit id =>
      obtain ⟨hr, hl3, hl4, hk4⟩ := fin hp.1 (some (.exit id))
      exact ⟨_, _, hr, .inr ⟨rfl, .exit id, (hIx _).putObj _ hp.2 (by omega) hl3 rfl, hl4, hk4⟩⟩
    | goto t =>
      obtain ⟨hr, hl3, hl4, hk4⟩ := fin hp.1 (some (.goto t))
      exact ⟨_, _, hr, .inr ⟨rfl, .goto t, (hIx _).putObj _ hp.2 (by omega) hl3 rfl, hl4, hk4⟩⟩
    | panic ch => exact hp.elim
    | outgrown => exact hp.elim
  · rintro e W2 ⟨⟨v, rfl⟩, (⟨xs, hS, hi, hl, hk⟩ | ⟨pre, x, r, hsp, hf, c, hi, hl, hk⟩)⟩
    · exact ⟨none, _, run_endLoop (P := Tryd.prog) hl (by simp [recL]), hdone D xs _ (by omega) hS (hI.putObj _ hi (by omega) hl rfl) ((World.putObj_heap_other (by omega)).trans hk)⟩
    · exact ⟨some c, _, run_endLoop (P := Tryd.prog) hl (by simp [recL]), hstop D c pre x r _ (by omega) hsp hf ((hIx c).putObj _ hi (by omega) hl rfl) ((World.putObj_heap_other (by omega)).trans hk)⟩
end Go.Proofs.YtbobiiodbbcodaaDoor
