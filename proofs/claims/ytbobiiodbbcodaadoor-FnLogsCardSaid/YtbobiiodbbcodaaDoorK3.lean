/- Texts of this claim, gathered: Rec, Seal, Laid, CutP, Dec. -/
import Derived.Test.YtbobiiodbbcodaaDoorK2
import Derived.Test.YtbobiiodbbcodaaDoorShelf
import Derived.Lib.SmallJoins
import Derived.Test.YtbobiiodbbcodaaDoorRows
import Derived.ProofKit
import Derived.LaidMore
import Derived.OpenShut
import Derived.Stop.Joined
import Derived.MakeChecks
import Derived.Stop.LaidErr
import Derived.Lib.LastIndexLaws
import Derived.Lib.Strings
import Derived.Lib.Bytealg
namespace Go.Proofs.YtbobiiodbbcodaaDoor
open Go.RowKit
set_option linter.unusedVariables false
set_option maxRecDepth 100000
theorem empty_size (c : ByteArray) : c.toList.isEmpty = decide (c.size = 0) := by
  rw [Lib.toList_data, Lib.size_eq]
  cases c.data.toList <;> simp
def recV (c r : ByteArray) : Value := .agg #[.string c, .string r]
theorem IsValidRecord_c (c r : ByteArray) (w : World) (hc : c.size ≤ 1073741824) (hr : r.size ≤ 1073741824) : Calls Tryd.prog 15 #[recV c r] w fun e w' => e = .returned (.bool (recB c r)) ∧ Below w.heap.size w w' := by
  unfold recV
  rcases h1 : cmdB c with _ | _
  · have H1 := Lib.hid h1
    have HF := Lib.hid (show recB c r = false by unfold recB; rw [h1]; rfl); clear h1
    go_enter Tryd.func15, Tryd.ntmps15
    go_wp2_with fail
    refine (isCommand_c _ _ hc).mono ?_
    rintro e w2 ⟨rfl, rfl⟩
    rw [H1.out]
    go_wp2
    go_ret
    exact ⟨by rw [HF.out]; rfl, by (repeat (first | exact Below.refl _ _ | exact (Below.refl _ _).drew | assumption | exact below_one _ | refine Below.chain ?_ (by assumption) | refine Below.drew ?_ | refine Below.alc ?_ _ | refine below_drewN ?_ | (refine Below.setCell ?_ ?_ _) | exact Nat.le_refl _ | (simp; done) | (simp; omega)))⟩
  · rcases h2 : decide ((r.size : Int) ≤ 250) with _ | _
    · have H1 := Lib.hid h1
      have HF := Lib.hid (show recB c r = false by unfold recB; rw [h1, h2]; rfl); clear h1
      go_enter Tryd.func15, Tryd.ntmps15
      go_wp2_with fail
      refine (isCommand_c _ _ hc).mono ?_
      rintro e w2 ⟨rfl, rfl⟩
      rw [H1.out]
      go_wp2
      go_ret
      exact ⟨by rw [HF.out]; rfl, by (repeat (first | exact Below.refl _ _ | exact (Below.refl _ _).drew | assumption | exact below_one _ | refine Below.chain ?_ (by assumption) | refine Below.drew ?_ | refine Below.alc ?_ _ | refine below_drewN ?_ | (refine Below.setCell ?_ ?_ _) | exact Nat.le_refl _ | (simp; done) | (simp; omega)))⟩
    · have H1 := Lib.hid h1
      have HF := Lib.hid (show recB c r = printB r by unfold recB; rw [h1, h2]; rfl); clear h1
      go_enter Tryd.func15, Tryd.ntmps15
      go_wp2_with fail
      refine (isCommand_c _ _ hc).mono ?_
      rintro e w2 ⟨rfl, rfl⟩
      rw [H1.out]
      go_wp2_with fail
      refine (isPrinted_c _ _ hr).mono ?_
      rintro e w2 ⟨rfl, rfl⟩
      go_wp2
      go_ret
      exact ⟨by rw [HF.out]; rfl, by (repeat (first | exact Below.refl _ _ | exact (Below.refl _ _).drew | assumption | exact below_one _ | refine Below.chain ?_ (by assumption) | refine Below.drew ?_ | refine Below.alc ?_ _ | refine below_drewN ?_ | (refine Below.setCell ?_ ?_ _) | exact Nat.le_refl _ | (simp; done) | (simp; omega)))⟩
theorem l12Record_c (c r : ByteArray) (w : World) (hc : c.size ≤ 1073741824) (hr : r.size ≤ 1073741824) : Calls Tryd.prog 36 #[recV c r] w fun e w' => e = .returned (.bool (recB c r)) ∧ Below w.heap.size w w' := by
  unfold recV
  rcases h0 : decide (c.size = 0) with _ | _
  · have he : c.toList.isEmpty = false := by rw [empty_size, h0]
    have hsz : 1 ≤ c.size := by have := of_decide_eq_false h0; omega
    have hcb : cmdB c = ((printB c && decide ((c.size : Int) ≤ 160)) && !standsB c 64) := by
      unfold cmdB inB
      rw [decide_eq_true (show (1 : Int) ≤ (c.size : Int) by omega)]
      cases decide ((c.size : Int) ≤ 160) <;> cases printB c <;> cases standsB c 64 <;> rfl
    clear h0
    rcases h1 : (printB c && decide ((c.size : Int) ≤ 160)) with _ | _
    · have H1 := Lib.hid h1
      have HF := Lib.hid (show recB c r = false by unfold recB; rw [hcb, h1]; rfl); clear h1 hcb
      go_enter Tryd.func36, Tryd.ntmps36
      go_wp2_with fail
      refine (l12Bytes_c _ _ _ hc).mono ?_
      rintro e w2 ⟨rfl, rfl⟩
      rw [H1.out]
      go_wp2
      go_ret
      exact ⟨by rw [HF.out]; rfl, by (repeat (first | exact Below.refl _ _ | exact (Below.refl _ _).drew | assumption | exact below_one _ | refine Below.chain ?_ (by assumption) | refine Below.drew ?_ | refine Below.alc ?_ _ | refine below_drewN ?_ | (refine Below.setCell ?_ ?_ _) | exact Nat.le_refl _ | (simp; done) | (simp; omega)))⟩
    · rcases h2 : standsB c 64 with _ | _
      · have H1 := Lib.hid h1; have H2 := Lib.hid h2
        have HF := Lib.hid (show recB c r = (printB r && decide ((r.size : Int) ≤ 250)) by unfold recB; rw [hcb, h1, h2]; cases decide ((r.size : Int) ≤ 250) <;> cases printB r <;> rfl); clear h1 h2 hcb
        go_enter Tryd.func36, Tryd.ntmps36
        go_wp2_with fail
        refine (l12Bytes_c _ _ _ hc).mono ?_
        rintro e w2 ⟨rfl, rfl⟩
        rw [H1.out]
        go_wp2_with fail
        refine (l1Stands_c _ 64 _ hc).mono ?_
        rintro e w2 ⟨rfl, rfl⟩
        rw [H2.out]
        go_wp2_with fail
        refine (l12Bytes_c _ _ _ hr).mono ?_
        rintro e w2 ⟨rfl, rfl⟩
        go_wp2
        go_ret
        exact ⟨by rw [HF.out]; rfl, by (repeat (first | exact Below.refl _ _ | exact (Below.refl _ _).drew | assumption | exact below_one _ | refine Below.chain ?_ (by assumption) | refine Below.drew ?_ | refine Below.alc ?_ _ | refine below_drewN ?_ | (refine Below.setCell ?_ ?_ _) | exact Nat.le_refl _ | (simp; done) | (simp; omega)))⟩
      · have H1 := Lib.hid h1; have H2 := Lib.hid h2
        have HF := Lib.hid (show recB c r = false by unfold recB; rw [hcb, h1, h2]; rfl); clear h1 h2 hcb
        go_enter Tryd.func36, Tryd.ntmps36
        go_wp2_with fail
        refine (l12Bytes_c _ _ _ hc).mono ?_
        rintro e w2 ⟨rfl, rfl⟩
        rw [H1.out]
        go_wp2_with fail
        refine (l1Stands_c _ 64 _ hc).mono ?_
        rintro e w2 ⟨rfl, rfl⟩
        rw [H2.out]
        go_wp2
        go_ret
        exact ⟨by rw [HF.out]; rfl, by (repeat (first | exact Below.refl _ _ | exact (Below.refl _ _).drew | assumption | exact below_one _ | refine Below.chain ?_ (by assumption) | refine Below.drew ?_ | refine Below.alc ?_ _ | refine below_drewN ?_ | (refine Below.setCell ?_ ?_ _) | exact Nat.le_refl _ | (simp; done) | (simp; omega)))⟩
  · have he : c.toList.isEmpty = true := by rw [empty_size, h0]
    have hsz : c.size = 0 := of_decide_eq_true h0
    have HF := Lib.hid (show recB c r = false by unfold recB cmdB inB; rw [hsz]; rfl)
    clear h0 hsz
    go_enter Tryd.func36, Tryd.ntmps36
    go_wp2
    go_ret
    exact ⟨by rw [HF.out]; rfl, by (repeat (first | exact Below.refl _ _ | exact (Below.refl _ _).drew | assumption | exact below_one _ | refine Below.chain ?_ (by assumption) | refine Below.drew ?_ | refine Below.alc ?_ _ | refine below_drewN ?_ | (refine Below.setCell ?_ ?_ _) | exact Nat.le_refl _ | (simp; done) | (simp; omega)))⟩
theorem sIsValidRecord_c (c r : ByteArray) (w : World) (hc : c.size ≤ 1073741824) (hr : r.size ≤ 1073741824) : Calls Tryd.prog 16 #[recV c r] w fun e w' => e = .returned (.bool (recB c r)) ∧ Below w.heap.size w w' := by
  have HR := Lib.hid (l12Record_c c r (w.alloc (.cells #[.string c, .string r] 25)) hc hr)
  unfold recV at *
  go_enter Tryd.func16, Tryd.ntmps16
  go_wp2_with fail
  refine HR.out.mono ?_
  rintro e w2 ⟨rfl, hb⟩
  go_wp2
  go_ret
  exact ⟨rfl, by (repeat (first | exact Below.refl _ _ | exact (Below.refl _ _).drew | assumption | exact below_one _ | refine Below.chain ?_ (by assumption) | refine Below.drew ?_ | refine Below.alc ?_ _ | refine below_drewN ?_ | (refine Below.setCell ?_ ?_ _) | exact Nat.le_refl _ | (simp; done) | (simp; omega)))⟩
/-- how much is left behind a record -/
def szR (c r : ByteArray) (k : Int) : Int := if k - c.size < 0 then -1 else if k - c.size - r.size < 0 then -1 else k - c.size - r.size
end Go.Proofs.YtbobiiodbbcodaaDoor
namespace Go.Proofs.YtbobiiodbbcodaaDoor
open Go.RowKit
set_option linter.unusedVariables false
set_option maxRecDepth 100000
/-- the table that the library's decimal text reads -/
def Tab (w : World) : Prop := Lib.TabIs Tryd.prog w "internal/strconv.uint64pow10" .u64 Lib.pow10Tab
theorem Tab.on {w w' : World} (h : Tab w) (hb : Below w.heap.size w w') : Tab w' :=
  Joins.tab_stays (g := 1) (by kernel_rfl) h hb (Nat.le_refl _)
theorem below_growN (w : World) (q : Nat) (os : Array Obj) : Below w.heap.size w (Sort.grow (w.drewN q) os) :=
  ⟨rfl, rfl, rfl, by simp [Sort.grow], fun i hi => by
    show ((w.drewN q).heap ++ os)[i]? = _
    rw [Array.getElem?_append_left (by show i < w.heap.size; omega)]
    rfl⟩
theorem bs_size (l : List UInt8) : (bs l).size = l.length := by show l.toArray.size = _; simp
theorem bs_list (l : List UInt8) : (bs l).data.toList = l := by simp [bs]
theorem bs_of (s : ByteArray) : bs s.data.toList = s := ByteArray.ext (by simp [bs])
theorem bs_inj {a b : List UInt8} (h : bs a = bs b) : a = b := by have := congrArg (fun s : ByteArray => s.data.toList) h; simpa [bs_list] using this
theorem Itoa_c (n : Int) (h0 : 0 ≤ n) (h1 : n < 1000000) (w : World) (ht : Tab w) : Calls Tryd.prog 34 #[.int .i64 n] w fun e w' => e = .returned (.string (bs (Lib.itoa n))) ∧ Below w.heap.size w w' :=
  (Tryd.strconv_Itoa n (by omega) (by omega) w ht).mono fun e w' ⟨he, k, os, hw⟩ => ⟨he, hw ▸ below_growN w k os⟩
theorem ItoaS_c (k : Nat) (h : k < 60) (w : World) : Calls Tryd.prog 34 #[.int .i64 (k : Int)] w fun e w' => e = .returned (.string (bs (Lib.itoa (k : Int)))) ∧ w = w' :=
  (Tryd.strconv_Itoa_small k (by omega) w).mono fun e w' ⟨he, hw⟩ => ⟨by rw [he, itoa_nat]; rfl, hw.symm⟩
theorem seal_bs {s : ByteArray} : s ++ ⟨#[35]⟩ ++ bs (Lib.itoa (ckS s.data.toList)) = bs (sealS s.data.toList) := ByteArray.ext (by simp [bs, sealS])
set_option maxHeartbeats 1000000 in
theorem l1Seal_c (s : ByteArray) (w : World) (hs : s.size ≤ 1073741824) : Calls Tryd.prog 55 #[.string s] w fun e w' => e = .returned (.string (bs (sealS s.data.toList))) ∧ Below w.heap.size w w' := by
  obtain ⟨m, hm⟩ : ∃ m : Nat, ckS s.data.toList = (m : Int) := ⟨(ckS s.data.toList).toNat, by have := ckS_bd s.data.toList; omega⟩
  have hb : m < 999979 := by have := ckS_bd s.data.toList; omega
  have hsz : (bs (Lib.decDigits m)).size ≤ 20 := by rw [bs_size, Lib.decDigits_length]; exact Lib.nDigits_le20 m (by omega)
  have HS := Lib.hid hm
  have HF := Lib.hid (@seal_bs s)
  have HI := Lib.hid (itoa_nat m)
  clear hm
  go_enter Tryd.func55, Tryd.ntmps55
  go_wp2_with fail
  refine (l1Sum_c s _ hs).mono ?_
  rintro e w2 ⟨rfl, rfl⟩
  rw [HS.out]
  go_wp2_with fail
  refine (l1Num_c m _ (by omega)).mono ?_
  rintro e w3 ⟨rfl, hb3⟩
  go_wp2
  go_ret
  exact ⟨by rw [← HF.out, HS.out, HI.out]; rfl, hb3⟩
theorem l1Seal_g (s : ByteArray) (w : World) (hs : s.size ≤ 1073741824) : Calls Tryd.prog 55 #[.string s] w fun e w' => ∃ S, e = .returned (.string S) ∧ ¬ (9223372036854775807 ≤ S.size) ∧ ¬ (9223372036854775807 < S.size + 1) ∧ Hid (S = bs (sealS s.data.toList)) ∧ Below w.heap.size w w' :=
  (l1Seal_c s w hs).mono fun e w' ⟨he, hb⟩ => by have := sealS_len s.data.toList; rw [ba_len] at this; exact ⟨_, he, by rw [bs_size]; omega, by rw [bs_size]; omega, rfl, hb⟩
/-- what AppendChecksum answers -/
def appR (s : List UInt8) : List UInt8 × Bool := if s.length ≤ 4000 ∧ (35 : UInt8) ∉ s ∧ (sealS s).length ≤ 4000 then (sealS s, true) else ([], false)
theorem appR_no {s : List UInt8} (h : ¬ (s.length ≤ 4000 ∧ (35 : UInt8) ∉ s ∧ (sealS s).length ≤ 4000)) : appR s = ([], false) := by unfold appR; rw [if_neg h]
theorem appR_yes {s : List UInt8} (h : s.length ≤ 4000 ∧ (35 : UInt8) ∉ s ∧ (sealS s).length ≤ 4000) : appR s = (sealS s, true) := by unfold appR; rw [if_pos h]
theorem stands_iff (s : ByteArray) (c : UInt8) : standsB s c = true ↔ c ∈ s.data.toList := by unfold standsB; rw [List.contains_iff_mem]
def AppPost (s : ByteArray) (w : World) (e : Ending) (w' : World) : Prop := e = .returned (.tuple #[.string (bs (appR s.data.toList).1), .bool (appR s.data.toList).2]) ∧ Below w.heap.size w w'
set_option maxHeartbeats 1000000 in
theorem AppendChecksum_c (s : ByteArray) (w : World) (hs : s.size ≤ 1073741824) (ht : Tab w) : Calls Tryd.prog 33 #[.string s] w (AppPost s w) := by
  by_cases h1 : s.size ≤ 4000
  · rcases h2 : standsB s 35 with _ | _
    · have hn : (35 : UInt8) ∉ s.data.toList := fun h => by rw [(stands_iff s 35).2 h] at h2; cases h2
      have hd : decide ((4000 : Int) < (s.size : Int)) = false := by simp; omega
      have H2 := Lib.hid h2
      have HT := Lib.hid ht
      have hbd := ckS_bd s.data.toList
      have HF := Lib.hid (@seal_bs s)
      have hsz : (bs (Lib.itoa (ckS s.data.toList))).size ≤ 20 := by rw [bs_size]; exact itoa_len hbd.1 (by omega)
      have hszs : (sealS s.data.toList).length = s.size + 1 + (bs (Lib.itoa (ckS s.data.toList))).size := by unfold sealS; rw [bs_size]; simp; omega
      by_cases h3 : (sealS s.data.toList).length ≤ 4000
      · have HR := Lib.hid (appR_yes ⟨by rw [ba_len]; exact h1, hn, h3⟩)
        have hd2 : decide ((4000 : Int) < (s.size : Int) + 1 + ((bs (Lib.itoa (ckS s.data.toList))).size : Int)) = false := by simp; omega
        have hle3 : s.size + 1 + (bs (Lib.itoa (ckS s.data.toList))).size ≤ 4000 := by omega
        clear h2 hn ht hszs h3
        generalize hm : ckS s.data.toList = m at *
        have HM := Lib.hid hm
        clear hm
        go_enter Tryd.func33, Tryd.ntmps33
        go_wp2_with fail
        refine (Contains_c s 35 _).mono ?_
        rintro e w2 ⟨rfl, rfl⟩
        rw [H2.out]
        go_wp2_with fail
        refine (checksum_c s _ hs).mono ?_
        rintro e w2 ⟨rfl, rfl⟩
        rw [HM.out]
        go_wp2_with fail
        refine (Itoa_c m hbd.1 (by omega) _ HT.out).mono ?_
        rintro e w2 ⟨rfl, hb2⟩
        go_wp2
        go_ret2
        exact ⟨by rw [HR.out, ← HF.out]; rfl, hb2⟩
      · have HR := Lib.hid (appR_no (s := s.data.toList) (fun h => h3 h.2.2))
        have hd2 : decide ((4000 : Int) < (s.size : Int) + 1 + ((bs (Lib.itoa (ckS s.data.toList))).size : Int)) = true := by simp; omega
        clear h2 hn ht hszs h3
        generalize hm : ckS s.data.toList = m at *
        have HM := Lib.hid hm
        clear hm
        go_enter Tryd.func33, Tryd.ntmps33
        go_wp2_with fail
        refine (Contains_c s 35 _).mono ?_
        rintro e w2 ⟨rfl, rfl⟩
        rw [H2.out]
        go_wp2_with fail
        refine (checksum_c s _ hs).mono ?_
        rintro e w2 ⟨rfl, rfl⟩
        rw [HM.out]
        go_wp2_with fail
        refine (Itoa_c m hbd.1 (by omega) _ HT.out).mono ?_
        rintro e w2 ⟨rfl, hb2⟩
        go_wp2
        go_ret2
        exact ⟨by rw [HR.out]; rfl, hb2⟩
    · have hn : (35 : UInt8) ∈ s.data.toList := (stands_iff s 35).1 h2
      have HR := Lib.hid (appR_no (s := s.data.toList) (fun h => h.2.1 hn))
      have hd : decide ((4000 : Int) < (s.size : Int)) = false := by simp; omega
      have H2 := Lib.hid h2
      clear h2 hn ht
      go_enter Tryd.func33, Tryd.ntmps33
      go_wp2_with fail
      refine (Contains_c s 35 _).mono ?_
      rintro e w2 ⟨rfl, rfl⟩
      rw [H2.out]
      go_wp2
      go_ret2
      exact ⟨by rw [HR.out]; rfl, Below.refl _ _⟩
  · have HR := Lib.hid (appR_no (s := s.data.toList) (fun h => h1 (by rw [← ba_len]; exact h.1)))
    have hd : decide ((4000 : Int) < (s.size : Int)) = true := by simp; omega
    go_enter Tryd.func33, Tryd.ntmps33
    go_wp2
    go_ret2
    exact ⟨by rw [HR.out]; rfl, Below.refl _ _⟩
theorem line_bs {k : Nat} {c r : ByteArray} : bs (sealS (bs (Lib.decDigits k) ++ ⟨#[32]⟩ ++ c ++ ⟨#[64]⟩ ++ r).data.toList) ++ ⟨#[10]⟩ = bs (lineS (k : Int) c.data.toList r.data.toList) := by
  have h : (bs (Lib.decDigits k) ++ ⟨#[32]⟩ ++ c ++ ⟨#[64]⟩ ++ r).data.toList = Lib.itoa (k : Int) ++ 32 :: c.data.toList ++ 64 :: r.data.toList := by
    rw [itoa_nat]; simp [bs]
  rw [h]
  unfold lineS
  exact ByteArray.ext (by simp [bs])
set_option maxHeartbeats 1000000 in
theorem l12Line_c (k : Nat) (hk : k < 4611686018427387904) (c r : ByteArray) (w : World) (hc : c.size ≤ 1048576) (hr : r.size ≤ 1048576) : Calls Tryd.prog 37 #[.int .i64 (k : Int), recV c r] w fun e w' => e = .returned (.string (bs (lineS (k : Int) c.data.toList r.data.toList))) ∧ Below w.heap.size w w' := by
  unfold recV
  have hsz : (bs (Lib.decDigits k)).size ≤ 20 := by rw [bs_size, Lib.decDigits_length]; exact Lib.nDigits_le20 k (by omega)
  have HD := Lib.hid (l1Num_c k)
  have HL := Lib.hid (@line_bs k c r)
  generalize bs (Lib.decDigits k) = D at *
  have hs1 : ¬ (9223372036854775807 < D.size + 1) := by omega
  have hs2 : ¬ (9223372036854775807 < D.size + 1 + c.size) := by omega
  have hs3 : ¬ (9223372036854775807 < D.size + 1 + c.size + 1) := by omega
  have hs4 : ¬ (9223372036854775807 < D.size + 1 + c.size + 1 + r.size) := by omega
  have ht1 : ¬ (9223372036854775807 ≤ D.size) := by omega
  have ht3 : ¬ (9223372036854775807 ≤ D.size + 1 + c.size) := by omega
  have hz : (D ++ ⟨#[32]⟩ ++ c ++ ⟨#[64]⟩ ++ r).size ≤ 1073741824 := by simp only [ByteArray.size_append, show (⟨#[32]⟩ : ByteArray).size = 1 from rfl, show (⟨#[64]⟩ : ByteArray).size = 1 from rfl]; omega
  have HZ := Lib.hid hz
  have HZ2 := Lib.hid (sealS_len (D ++ ⟨#[32]⟩ ++ c ++ ⟨#[64]⟩ ++ r).data.toList)
  clear hz
  go_enter Tryd.func37, Tryd.ntmps37
  go_wp2_with fail
  go_region_held3 (fun w' => w'.cell? ⟨w.heap.size, 0, none⟩ = some (.string c) ∧ w'.cell? ⟨w.heap.size, 1, none⟩ = some (.string r)) (first | go_keep | (go_split_ands; exact ⟨cell_later hb2 ‹_›, cell_later hb2 ‹_›⟩) | (go_split_ands; exact ⟨cell_later hb1 ‹_›, cell_later hb1 ‹_›⟩))
    (first | (go_at_call 56; refine (HD.out _ hk).mono ?_; rintro e wa ⟨rfl, hb1⟩; have hbd : Below w.heap.size w wa := by (repeat (first | exact Below.refl _ _ | exact (Below.refl _ _).drew | assumption | exact below_one _ | refine Below.chain ?_ (by assumption) | refine Below.drew ?_ | refine Below.alc ?_ _ | refine below_drewN ?_ | (refine Below.setCell ?_ ?_ _) | exact Nat.le_refl _ | (simp; done) | (simp; omega)))) | (go_at_call 55; refine (l1Seal_g _ _ HZ.out).mono ?_; rintro e wb ⟨S, rfl, hS1, hS3, HS2, hb2⟩))
  go_wp2
  go_ret
  exact ⟨by rw [HS2.out, HL.out]; rfl, Below.chain hbd hb2⟩
theorem new_cell (w : World) (cs : Array Value) (t i : Nat) (v : Value) (h : cs[i]? = some v) : (w.alloc (.cells cs t)).cell? ⟨w.heap.size, i, none⟩ = some v := by
  rw [World.cell?_alloc_at _ _ _ _ rfl]; exact h
theorem prB_eq (c : UInt8) : prB c = prU c := by
  unfold prB prU inB
  congr 1
  rw [Bool.eq_iff_iff]
  simp
  omega
theorem recB_okE (c r : ByteArray) : recB c r = okE (c.data.toList, r.data.toList) := by
  unfold recB cmdB okE printB standsB inB
  rw [show prB = prU from funext prB_eq]
  rw [Bool.eq_iff_iff]
  simp only [Bool.and_eq_true, decide_eq_true_eq, ba_len]
  have e1 : ((1 : Int) ≤ (c.size : Int)) ↔ 1 ≤ c.size := by omega
  have e2 : ((c.size : Int) ≤ 160) ↔ c.size ≤ 160 := by omega
  have e3 : ((r.size : Int) ≤ 250) ↔ r.size ≤ 250 := by omega
  rw [e1, e2, e3]
  simp only [and_assoc]
theorem recB_iff {c r : ByteArray} : recB c r = true ↔ OkE (c.data.toList, r.data.toList) := by rw [recB_okE, okE_iff]
def encR (k : Int) (c r : ByteArray) : List UInt8 × Bool := if 0 ≤ k ∧ k ≤ 59 ∧ recB c r = true then (lineS k c.data.toList r.data.toList, true) else ([], false)
theorem encR_k {k : Int} {c r : ByteArray} (h : inB k 0 59 = false) : encR k c r = ([], false) := by
  unfold encR; rw [if_neg]; unfold inB at h; simp at h; omega
theorem encR_r {k : Int} {c r : ByteArray} (h : recB c r = false) : encR k c r = ([], false) := by
  unfold encR; rw [if_neg]; rw [h]; simp
theorem encR_y {k : Int} {c r : ByteArray} (h0 : inB k 0 59 = true) (h : recB c r = true) : encR k c r = (lineS k c.data.toList r.data.toList, true) := by
  unfold encR; rw [if_pos]; unfold inB at h0; simp at h0; exact ⟨h0.1, h0.2, h⟩
def EncPost (k : Int) (c r : ByteArray) (w : World) (e : Ending) (w' : World) : Prop := e = .returned (.tuple #[.string (bs (encR k c r).1), .bool (encR k c r).2]) ∧ Below w.heap.size w w'
set_option maxHeartbeats 1000000 in
theorem EncodeRecordS_c (k : Int) (c r : ByteArray) (w : World) (hc : c.size ≤ 1048576) (hr : r.size ≤ 1048576) : Calls Tryd.prog 10 #[.int .i64 k, recV c r] w (EncPost k c r w) := by
  have HRV := Lib.hid (l12Record_c c r)
  have HLN := Lib.hid (fun k hk w => l12Line_c k hk c r w hc hr)
  unfold recV at *
  rcases h1 : inB k 0 59 with _ | _
  · have HR := Lib.hid (encR_k (c := c) (r := r) h1)
    have H1 := Lib.hid h1; clear h1
    go_enter Tryd.func10, Tryd.ntmps10
    go_wp2_with fail
    refine (l1In_c _ _ _ _).mono ?_
    rintro e w2 ⟨rfl, rfl⟩
    rw [H1.out]
    go_wp2
    go_ret2
    exact ⟨by rw [HR.out]; rfl, by (repeat (first | exact Below.refl _ _ | exact (Below.refl _ _).drew | assumption | exact below_one _ | refine Below.chain ?_ (by assumption) | refine Below.drew ?_ | refine Below.alc ?_ _ | refine below_drewN ?_ | (refine Below.setCell ?_ ?_ _) | exact Nat.le_refl _ | (simp; done) | (simp; omega)))⟩
  · rcases h2 : recB c r with _ | _
    · have HR := Lib.hid (encR_r (k := k) h2)
      have H1 := Lib.hid h1; have H2 := Lib.hid h2; clear h1 h2
      go_enter Tryd.func10, Tryd.ntmps10
      go_wp2_with fail
      refine (l1In_c _ _ _ _).mono ?_
      rintro e w2 ⟨rfl, rfl⟩
      rw [H1.out]
      go_wp2_with fail
      refine (HRV.out _ (by omega) (by omega)).mono ?_
      rintro e w2 ⟨rfl, hb2⟩
      rw [H2.out]
      go_wp2
      go_ret2
      exact ⟨by rw [HR.out]; rfl, by (repeat (first | exact Below.refl _ _ | exact (Below.refl _ _).drew | assumption | exact below_one _ | refine Below.chain ?_ (by assumption) | refine Below.drew ?_ | refine Below.alc ?_ _ | refine below_drewN ?_ | (refine Below.setCell ?_ ?_ _) | exact Nat.le_refl _ | (simp; done) | (simp; omega)))⟩
    · have HR := Lib.hid (encR_y h1 h2)
      obtain ⟨n, rfl⟩ : ∃ n : Nat, k = (n : Int) := ⟨k.toNat, by unfold inB at h1; simp at h1; omega⟩
      have hn : n < 4611686018427387904 := by unfold inB at h1; simp at h1; omega
      have H1 := Lib.hid h1; have H2 := Lib.hid h2; clear h1 h2
      go_enter Tryd.func10, Tryd.ntmps10
      go_wp2_with fail
      refine (l1In_c _ _ _ _).mono ?_
      rintro e w2 ⟨rfl, rfl⟩
      rw [H1.out]
      go_wp2_with fail
      refine (HRV.out _ (by omega) (by omega)).mono ?_
      rintro e w2 ⟨rfl, hb2⟩
      rw [H2.out]
      have hcell := cell_later (a := ⟨w.heap.size, 0, none⟩) (v := .string c) hb2 (new_cell w _ _ 0 _ rfl)
      have hcell2 := cell_later (a := ⟨w.heap.size, 1, none⟩) (v := .string r) hb2 (new_cell w _ _ 1 _ rfl)
      go_wp2_with fail
      refine (HLN.out _ hn _).mono ?_
      rintro e w3 ⟨rfl, hb3⟩
      go_wp2
      go_ret2
      exact ⟨by rw [HR.out]; rfl, by (repeat (first | exact Below.refl _ _ | exact (Below.refl _ _).drew | assumption | exact below_one _ | refine Below.chain ?_ (by assumption) | refine Below.drew ?_ | refine Below.alc ?_ _ | refine below_drewN ?_ | (refine Below.setCell ?_ ?_ _) | exact Nat.le_refl _ | (simp; done) | (simp; omega)))⟩
theorem body_bs {n : Nat} {c r : ByteArray} : bs (Lib.itoa (n : Int)) ++ ⟨#[32]⟩ ++ c ++ ⟨#[64]⟩ ++ r = bs (bodyS n (c.data.toList, r.data.toList)) := by
  unfold bodyS
  exact ByteArray.ext (by simp [bs])
theorem AppBody_c (n : Nat) (hn : n < 60) (c r : ByteArray) (h : recB c r = true) (w : World) (ht : Tab w) : Calls Tryd.prog 33 #[.string (bs (Lib.itoa (n : Int)) ++ ⟨#[32]⟩ ++ c ++ ⟨#[64]⟩ ++ r)] w fun e w' =>
    ∃ S, e = .returned (.tuple #[.string S, .bool true]) ∧ (S.size : Int) ≤ 8388608 ∧ Hid (S ++ ⟨#[10]⟩ = bs (lineS (n : Int) c.data.toList r.data.toList)) ∧ Below w.heap.size w w' := by
  rw [body_bs]
  have hk := recB_iff.1 h
  have hl := bodyS_len hk hn
  have hs := sealS_len (bodyS n (c.data.toList, r.data.toList))
  refine (AppendChecksum_c _ w (by rw [bs_size]; omega) ht).mono fun e w' h => ?_
  obtain ⟨he, hb⟩ := h
  rw [bs_list, appR_yes ⟨by omega, bodyS_no hk (.inl rfl), by omega⟩] at he
  refine ⟨bs (sealS (bodyS n (c.data.toList, r.data.toList))), he, by rw [bs_size]; omega, ?_, hb⟩
  show bs _ ++ _ = _
  rw [show lineS (n : Int) c.data.toList r.data.toList = lnS n (c.data.toList, r.data.toList) from (lnS_def n (c.data.toList, r.data.toList)).symm]
  unfold lnS
  exact ByteArray.ext (by simp [bs])
set_option maxHeartbeats 1000000 in
theorem EncodeRecord_c (k : Int) (c r : ByteArray) (w : World) (hc : c.size ≤ 1048576) (hr : r.size ≤ 1048576) (ht : Tab w) : Calls Tryd.prog 9 #[.int .i64 k, recV c r] w (EncPost k c r w) := by
  have HRV := Lib.hid (IsValidRecord_c c r)
  unfold recV at *
  rcases h1 : inB k 0 59 with _ | _
  · have HR := Lib.hid (encR_k (c := c) (r := r) h1)
    have H1 := Lib.hid h1; clear h1 ht
    go_enter Tryd.func9, Tryd.ntmps9
    go_wp2_with fail
    refine (within_c _ _ _ _).mono ?_
    rintro e w2 ⟨rfl, rfl⟩
    rw [H1.out]
    go_wp2
    go_ret2
    exact ⟨by rw [HR.out]; rfl, by (repeat (first | exact Below.refl _ _ | exact (Below.refl _ _).drew | assumption | exact below_one _ | refine Below.chain ?_ (by assumption) | refine Below.drew ?_ | refine Below.alc ?_ _ | refine below_drewN ?_ | (refine Below.setCell ?_ ?_ _) | exact Nat.le_refl _ | (simp; done) | (simp; omega)))⟩
  · rcases h2 : recB c r with _ | _
    · have HR := Lib.hid (encR_r (k := k) h2)
      have H1 := Lib.hid h1; have H2 := Lib.hid h2; clear h1 h2 ht
      go_enter Tryd.func9, Tryd.ntmps9
      go_wp2_with fail
      refine (within_c _ _ _ _).mono ?_
      rintro e w2 ⟨rfl, rfl⟩
      rw [H1.out]
      go_wp2_with fail
      refine (HRV.out _ (by omega) (by omega)).mono ?_
      rintro e w2 ⟨rfl, hb2⟩
      rw [H2.out]
      go_wp2
      go_ret2
      exact ⟨by rw [HR.out]; rfl, by (repeat (first | exact Below.refl _ _ | exact (Below.refl _ _).drew | assumption | exact below_one _ | refine Below.chain ?_ (by assumption) | refine Below.drew ?_ | refine Below.alc ?_ _ | refine below_drewN ?_ | (refine Below.setCell ?_ ?_ _) | exact Nat.le_refl _ | (simp; done) | (simp; omega)))⟩
    · have HR := Lib.hid (encR_y h1 h2)
      obtain ⟨n, rfl⟩ : ∃ n : Nat, k = (n : Int) := ⟨k.toNat, by unfold inB at h1; simp at h1; omega⟩
      have hn : n < 60 := by unfold inB at h1; simp at h1; omega
      have HA := Lib.hid (AppBody_c n hn c r h2)
      have HI := Lib.hid (ItoaS_c n hn)
      have hsz : (bs (Lib.itoa (n : Int))).size ≤ 20 := by rw [bs_size]; exact itoa_len (by omega) (by omega)
      have H1 := Lib.hid h1; have H2 := Lib.hid h2; clear h1 h2
      generalize bs (Lib.itoa (n : Int)) = D at *
      have HT := Lib.hid ht; clear ht
      go_enter Tryd.func9, Tryd.ntmps9
      go_wp2_with fail
      refine (within_c _ _ _ _).mono ?_
      rintro e w2 ⟨rfl, rfl⟩
      rw [H1.out]
      go_wp2_with fail
      refine (HRV.out _ (by omega) (by omega)).mono ?_
      rintro e w2 ⟨rfl, hb2⟩
      rw [H2.out]
      have hcell := cell_later (a := ⟨w.heap.size, 0, none⟩) (v := .string c) hb2 (new_cell w _ _ 0 _ rfl)
      have hcell2 := cell_later (a := ⟨w.heap.size, 1, none⟩) (v := .string r) hb2 (new_cell w _ _ 1 _ rfl)
      have HB := Lib.hid (show Below w.heap.size w w2 by (repeat (first | exact Below.refl _ _ | exact (Below.refl _ _).drew | assumption | exact below_one _ | refine Below.chain ?_ (by assumption) | refine Below.drew ?_ | refine Below.alc ?_ _ | refine below_drewN ?_ | (refine Below.setCell ?_ ?_ _) | exact Nat.le_refl _ | (simp; done) | (simp; omega))))
      have HT2 := Lib.hid ((HT.out.on HB.out).on (Below.refl _ _).drew)
      clear hb2
      go_wp2_with fail
      have hs1 : ¬ (9223372036854775807 < D.size + 1) := by omega
      have hs2 : ¬ (9223372036854775807 < D.size + 1 + c.size) := by omega
      have hs3 : ¬ (9223372036854775807 < D.size + 1 + c.size + 1) := by omega
      have hs4 : ¬ (9223372036854775807 < D.size + 1 + c.size + 1 + r.size) := by omega
      have ht1 : ¬ (9223372036854775807 ≤ D.size) := by omega
      have ht3 : ¬ (9223372036854775807 ≤ D.size + 1 + c.size) := by omega
      go_region_held3 (fun w' => w'.cell? ⟨w.heap.size, 0, none⟩ = some (.string c) ∧ w'.cell? ⟨w.heap.size, 1, none⟩ = some (.string r)) (first | go_keep | (go_split_ands; exact ⟨cell_later hb4 ‹_›, cell_later hb4 ‹_›⟩))
        (first | (go_at_call 34; refine (HI.out _).mono ?_; rintro e wa ⟨rfl, rfl⟩) | (go_at_call 33; refine (HA.out _ HT2.out).mono ?_; rintro e wb ⟨S, rfl, hS1, HS2, hb4⟩))
      go_wp2
      go_ret2
      exact ⟨by rw [HR.out, ← HS2.out]; rfl, Below.chain HB.out.drew hb4⟩
end Go.Proofs.YtbobiiodbbcodaaDoor
namespace Go.Proofs.YtbobiiodbbcodaaDoor
open Go.ChangeShapes Go.WideShapes Go.ChangeAt Go.RowKit
set_option maxRecDepth 100000
abbrev laidL : List (String × DataW Unit) := [("math/bits.deBruijn32tab", Rows.laid_math_bits_deBruijn32tab), ("math/bits.deBruijn64tab", Rows.laid_math_bits_deBruijn64tab), ("internal/strconv.uint64pow10", Rows.laid_internal_strconv_uint64pow10)]
/-- The door's own heap meets the condition: closed facts. -/
theorem door_met (os : Os) (args : Array Value) : laidMetH Tryd.prog laidL ((World.doorLaid Tryd.prog 24 os).forCall (fun _ _ => 0) ⟨#[], args, []⟩).memory :=
  laidMetH_of_parts3 (fuel := 8) (laidMet_of_run' 8 (by kernel_rfl) (by kernel_rfl)) (by kernel_rfl) (by kernel_rfl)
theorem pow_data : (Rows.laid_internal_strconv_uint64pow10 : DataW Unit) = Lib.tabData .u64 Lib.pow10Tab := by kernel_rfl
theorem tab_of_laid {W : World} (h : laidMetH Tryd.prog laidL W) : Tab W := by
  rw [MakeChecks.laidMetH_plain _ _ _ (by kernel_rfl)] at h
  have h2 := laidMet.tail (laidMet.tail h)
  rw [pow_data] at h2
  exact Lib.tabIs_of_head (g := 1) (t := 97) (e := 53) (n := 20) (by kernel_rfl) (by kernel_rfl) (by kernel_rfl) (by kernel_rfl) (by kernel_rfl) (by kernel_rfl) h2
end Go.Proofs.YtbobiiodbbcodaaDoor
namespace Go.Proofs.YtbobiiodbbcodaaDoor
set_option linter.unusedVariables false
theorem indexByte_hit {a b : Bs} {c : UInt8} (h : c ∉ a) : Lib.indexByte (a ++ c :: b) c = a.length := by
  induction a with
  | nil => simp [Lib.indexByte]
  | cons x t ih =>
    simp only [List.mem_cons, not_or] at h
    have hx : (x == c) = false := by simp; exact fun e => h.1 e.symm
    simp only [List.cons_append, Lib.indexByte, hx, ih h.2]
    have : ((t.length : Int) == -1) = false := by simp
    simp [this]
theorem indexByte_miss {s : Bs} {c : UInt8} (h : c ∉ s) : Lib.indexByte s c = -1 := by
  induction s with
  | nil => rfl
  | cons x t ih =>
    simp only [List.mem_cons, not_or] at h
    have hx : (x == c) = false := by simp; exact fun e => h.1 e.symm
    simp [Lib.indexByte, hx, ih h.2]
/-- a byte stands in a text, first behind bytes that are others; or it stands nowhere -/
theorem first_at (s : Bs) (c : UInt8) : (∃ a b, s = a ++ c :: b ∧ c ∉ a) ∨ c ∉ s := by
  induction s with
  | nil => right; simp
  | cons x t ih =>
    by_cases hx : x = c
    · subst hx; exact .inl ⟨[], t, rfl, by simp⟩
    · rcases ih with ⟨a, b, rfl, h⟩ | h
      · exact .inl ⟨x :: a, b, rfl, by simp; exact ⟨fun e => hx e.symm, h⟩⟩
      · right; simp; exact ⟨fun e => hx e.symm, h⟩
theorem occ_one (s : Bs) (c : UInt8) (i : Nat) : Lib.occAt s [c] i = true ↔ s[i]? = some c := by
  unfold Lib.occAt
  rw [← List.head?_drop]
  cases s.drop i with
  | nil => simp
  | cons x t => simp [List.isPrefixOf]; exact eq_comm
theorem lastIdx_any (s : Bs) (c : UInt8) : Lib.lastIndex s [c] = -1 ∨ ∃ i : Nat, i < s.length ∧ Lib.lastIndex s [c] = i := by
  unfold Lib.lastIndex
  split
  · rename_i h
    simp at h
    rcases Lib.lastOcc_spec s [c] (s.length - [c].length + 1) with h1 | ⟨i, h1, h2, _⟩
    · exact .inl h1.1
    · exact .inr ⟨i, by simp at h1; omega, h2⟩
  · exact .inl rfl
theorem lastIdx_hit {a b : Bs} {c : UInt8} (h : c ∉ b) : Lib.lastIndex (a ++ c :: b) [c] = a.length := by
  unfold Lib.lastIndex
  rw [if_pos (by simp; omega)]
  have hat : (a ++ c :: b)[a.length]? = some c := by simp
  rcases Lib.lastOcc_spec (a ++ c :: b) [c] ((a ++ c :: b).length - [c].length + 1) with ⟨_, h1⟩ | ⟨i, h1, h2, h3, h4⟩
  · have := h1 a.length (by simp; omega)
    rw [(occ_one _ _ _).2 hat] at this; cases this
  · rw [h2]
    rw [occ_one] at h3
    have hi : i = a.length := by
      rcases Nat.lt_trichotomy i a.length with hlt | he | hgt
      · have := h4 a.length hlt (by simp; omega)
        rw [(occ_one _ _ _).2 hat] at this; cases this
      · exact he
      · exfalso
        obtain ⟨j, rfl⟩ : ∃ j, i = a.length + 1 + j := ⟨i - (a.length + 1), by omega⟩
        rw [List.getElem?_append_right (by omega), show a.length + 1 + j - a.length = j + 1 by omega, List.getElem?_cons_succ] at h3
        exact h (List.mem_of_getElem? h3)
    rw [hi]
theorem trim_hit (a : Bs) : Lib.trimSuffix (a ++ [10]) [10] = a := by
  unfold Lib.trimSuffix Lib.hasSuffix
  rw [if_pos (by rw [List.isSuffixOf_iff_suffix]; exact List.suffix_append _ _)]
  simp
theorem trim_len (s p : Bs) : (Lib.trimSuffix s p).length ≤ s.length := by
  unfold Lib.trimSuffix; split
  · simp
  · exact Nat.le_refl _
theorem suffix_iff (s : Bs) : Lib.hasSuffix s [10] = true ↔ ∃ t, s = t ++ [10] := by
  unfold Lib.hasSuffix
  rw [List.isSuffixOf_iff_suffix]
  exact ⟨fun ⟨t, h⟩ => ⟨t, h.symm⟩, fun ⟨t, h⟩ => ⟨t, h.symm⟩⟩
/-- the last sign '#' of a sealed text -/
theorem seal_last (u : Bs) : Lib.lastIndex (sealS u) [35] = u.length := by
  unfold sealS
  exact lastIdx_hit (not_mem_of_digit (itoa_digit (ckS_bd _).1) (by decide))
theorem itoa_no32 {k : Nat} : (32 : UInt8) ∉ Lib.itoa (k : Int) := not_mem_of_digit (itoa_digit (by omega)) (by decide)
/-- the first line of bytes: as far as the first newline, it included; or all of them -/
def First (l r : Bs) : Prop := (∃ p, l = p ++ [10] ∧ (10 : UInt8) ∉ p) ∨ ((10 : UInt8) ∉ l ∧ r = [])
theorem First.begins {l r : Bs} {k : Nat} {e : Bs × Bs} (h : First l r) (hb : Begins k (l ++ r) e) : l = lnS k e := by
  obtain ⟨ok, x, hx⟩ := hb
  rcases h with ⟨p, rfl, hp⟩ | ⟨hl, rfl⟩
  · unfold lnS at hx ⊢
    rw [List.append_assoc, List.append_assoc] at hx
    rw [(part_inj hp (sealS_no10 ok) hx).1]
  · rw [List.append_nil] at hx
    exact absurd (by rw [hx]; unfold lnS; simp) hl
end Go.Proofs.YtbobiiodbbcodaaDoor
namespace Go.Proofs.YtbobiiodbbcodaaDoor
open Go.RowKit
set_option linter.unusedVariables false
set_option maxRecDepth 100000
theorem bs_eq {s : ByteArray} {l : List UInt8} (h : s.data.toList = l) : s = bs l := by rw [← h, bs_of]
theorem ext_to {s : ByteArray} {a b : List UInt8} (h : s.data.toList = a ++ b) : s.extract 0 a.length = bs a := bs_eq (by rw [Lib.extract_data, h]; simp)
theorem ext_from {s : ByteArray} {a b : List UInt8} {c : UInt8} (h : s.data.toList = a ++ c :: b) : s.extract (a.length + 1) s.size = bs b := bs_eq (by rw [Lib.extract_data, h]; rw [← ba_len, h]; simp; exact List.take_of_length_le (by omega))
theorem str_eq {a b : ByteArray} (h : a = b) : (a.toList == b.toList) = true := by rw [h]; simp
theorem str_ne {a b : ByteArray} (h : a ≠ b) : (a.toList == b.toList) = false := by
  rw [Lib.toList_data, Lib.toList_data]
  simp only [beq_eq_false_iff_ne, ne_eq]
  exact fun e => h (by rw [← bs_of a, e, bs_of])
/-- what a Cut at one byte answers -/
def CutOut (s : ByteArray) (c : UInt8) (w : World) (e : Ending) (w' : World) : Prop :=
  ∃ a b f, e = .returned (.tuple #[.string a, .string b, .bool f]) ∧ a.size ≤ s.size ∧ b.size ≤ s.size ∧ Hid (∀ x y : List UInt8, c ∉ x → s.data.toList = x ++ c :: y → a = bs x ∧ b = bs y) ∧ Below w.heap.size w w'
set_option maxHeartbeats 1000000 in
theorem CutL_c (s : ByteArray) (c : UInt8) (w : World) (hs : s.size ≤ 1073741824) : Calls Tryd.prog 80 #[.string s, .string ⟨#[c]⟩] w (CutOut s c w) := by
  rcases first_at s.data.toList c with ⟨a, b, hab, hc⟩ | hc
  · have HX := Lib.hid (indexByte_hit (b := b) hc)
    have hlen : a.length + 1 + b.length = s.size := by rw [← ba_len, hab]; simp; omega
    have H1 := Lib.hid (ext_to hab)
    have H2 := Lib.hid (ext_from hab)
    have HAB := Lib.hid hab
    have HC := Lib.hid hc
    have hla : a.length ≤ s.size := by omega
    have hlb : a.length + 1 ≤ s.size := by omega
    generalize hn : a.length = n at *
    have hp0 : (0 : Int) ≤ (n : Int) := by omega
    have hp1 : (n : Int) ≤ (s.size : Int) := by omega
    have hp2 : (n : Int) + 1 ≤ (s.size : Int) := by omega
    have hw : IntKind.i64.wrap ((n : Int) + 1) = (n : Int) + 1 := IntWalk.i64_in _ (by omega)
    have HN := Lib.hid hn
    have HL := Lib.hid hlen
    clear hab hc hn hlen
    go_enter Tryd.func80, Tryd.ntmps80
    go_wp2_with fail
    refine (Tryd.stringslite_Index_one s c _).mono ?_
    rintro e w2 ⟨rfl, rfl⟩
    rw [HAB.out, HX.out]
    go_wp2
    go_quiet (fail)
    go_wp2
    go_ret3
    refine ⟨_, _, _, rfl, ?_, ?_, ?_, by (repeat (first | exact Below.refl _ _ | exact (Below.refl _ _).drew | assumption | exact below_one _ | refine Below.chain ?_ (by assumption) | refine Below.drew ?_ | refine Below.alc ?_ _ | refine below_drewN ?_ | (refine Below.setCell ?_ ?_ _) | exact Nat.le_refl _ | (simp; done) | (simp; omega)))⟩
    · rw [H1.out, bs_size]; have := HN.out; omega
    · rw [H2.out, bs_size]; have := HL.out; omega
    · intro x y hx hxy
      obtain ⟨h1, h2⟩ := part_inj HC.out hx (HAB.out.symm.trans hxy)
      rw [H1.out, H2.out, h1, h2]; exact ⟨rfl, rfl⟩
  · have HX := Lib.hid (indexByte_miss hc)
    have HC := Lib.hid hc
    clear hc
    go_enter Tryd.func80, Tryd.ntmps80
    go_wp2_with fail
    refine (Tryd.stringslite_Index_one s c _).mono ?_
    rintro e w2 ⟨rfl, rfl⟩
    rw [HX.out]
    go_wp2
    go_ret3
    refine ⟨_, _, _, rfl, Nat.le_refl _, by show (0 : Nat) ≤ _; omega, ?_, by (repeat (first | exact Below.refl _ _ | exact (Below.refl _ _).drew | assumption | exact below_one _ | refine Below.chain ?_ (by assumption) | refine Below.drew ?_ | refine Below.alc ?_ _ | refine below_drewN ?_ | (refine Below.setCell ?_ ?_ _) | exact Nat.le_refl _ | (simp; done) | (simp; omega)))⟩
    intro x y hx hxy
    exact absurd (by rw [hxy]; simp) HC.out
theorem Cut_c (s : ByteArray) (c : UInt8) (w : World) (hs : s.size ≤ 1073741824) : Calls Tryd.prog 71 #[.string s, .string ⟨#[c]⟩] w (CutOut s c w) := by
  have HC := Lib.hid (CutL_c s c)
  go_enter Tryd.func71, Tryd.ntmps71
  go_wp2_with fail
  refine (HC.out _ hs).mono ?_
  rintro e w2 ⟨a, b, f, rfl, h1, h2, h3, h4⟩
  go_wp2
  go_ret3
  exact ⟨a, b, f, rfl, h1, h2, h3, h4⟩
/-- what VerifyChecksum answers: of a sealed text the text -/
def VerOut (s : ByteArray) (w : World) (e : Ending) (w' : World) : Prop :=
  ∃ t ok, e = .returned (.tuple #[.string t, .bool ok]) ∧ t.size ≤ s.size ∧ Hid (∀ u : List UInt8, (35 : UInt8) ∉ u → u.length ≤ 3000 → s.data.toList = sealS u → t = bs u ∧ ok = true) ∧ Below w.heap.size w w'
set_option maxHeartbeats 1000000 in
theorem VerifyChecksum_c (s : ByteArray) (w : World) (hs : s.size ≤ 1073741824) (ht : Tab w) : Calls Tryd.prog 69 #[.string s] w (VerOut s w) := by
  rcases lastIdx_any s.data.toList 35 with h | ⟨i, hi, h⟩
  · have HX := Lib.hid h
    clear h ht
    go_enter Tryd.func69, Tryd.ntmps69
    go_wp2_with fail
    refine (Tryd.strings_LastIndex s ⟨#[35]⟩ (by omega) _).mono ?_
    rintro e w2 ⟨rfl, rfl⟩
    rw [HX.out]
    go_wp2
    go_ret2
    refine ⟨_, _, rfl, by show (0 : Nat) ≤ _; omega, ?_, by (repeat (first | exact Below.refl _ _ | exact (Below.refl _ _).drew | assumption | exact below_one _ | refine Below.chain ?_ (by assumption) | refine Below.drew ?_ | refine Below.alc ?_ _ | refine below_drewN ?_ | (refine Below.setCell ?_ ?_ _) | exact Nat.le_refl _ | (simp; done) | (simp; omega)))⟩
    intro u hu hl hxy
    have := HX.out
    rw [hxy, seal_last] at this
    omega
  · rw [ba_len] at hi
    have hT := Lib.hid (show (s.extract 0 i).data.toList = s.data.toList.take i by rw [Lib.extract_data]; simp)
    have hsz : (s.extract 0 i).size = i := by rw [← ba_len, hT.out]; simp; omega
    have HSZ := Lib.hid hsz
    have HA := Lib.hid (fun w => AppendChecksum_c (s.extract 0 i) w (by omega))
    have HX := Lib.hid h
    have HT := Lib.hid ht
    clear h ht hsz
    have hp1 : (i : Int) ≤ (s.size : Int) := by omega
    go_enter Tryd.func69, Tryd.ntmps69
    go_wp2_with fail
    refine (Tryd.strings_LastIndex s ⟨#[35]⟩ (by omega) _).mono ?_
    rintro e w2 ⟨rfl, rfl⟩
    rw [HX.out]
    go_wp2_with fail
    refine (HA.out _ HT.out).mono ?_
    rintro e w2 ⟨rfl, hb2⟩
    generalize hR : appR (s.extract 0 i).data.toList = R
    have HR := Lib.hid hR
    clear hR
    obtain ⟨out, ok⟩ := R
    have HU : Hid (∀ u : List UInt8, (35 : UInt8) ∉ u → u.length ≤ 3000 → s.data.toList = sealS u → s.extract 0 i = bs u ∧ ok = true ∧ bs out = s) := by
      intro u hu hl hxy
      have h1 := HX.out
      rw [hxy, seal_last] at h1
      have h1 : i = u.length := by omega
      have h2 : (s.extract 0 i).data.toList = u := by rw [hT.out, hxy, h1]; unfold sealS; simp
      have h3 := HR.out
      rw [h2, appR_yes ⟨by omega, hu, by have := sealS_len u; omega⟩] at h3
      injection h3 with h3 h4
      exact ⟨bs_eq h2, h4.symm, by rw [← h3, ← hxy, bs_of]⟩
    cases ok with
    | false =>
      go_wp2
      go_ret2
      refine ⟨_, _, rfl, by show (0 : Nat) ≤ _; omega, ?_, hb2⟩
      intro u hu hl hxy
      cases (HU.out u hu hl hxy).2.1
    | true =>
      by_cases hq : bs out = s
      · have hne := str_eq hq
        clear hq
        go_wp2
        go_ret2
        refine ⟨_, _, rfl, by rw [HSZ.out]; omega, ?_, hb2⟩
        intro u hu hl hxy
        exact ⟨(HU.out u hu hl hxy).1, rfl⟩
      · have hne := str_ne hq
        have HQ := Lib.hid hq
        clear hq
        go_wp2
        go_ret2
        refine ⟨_, _, rfl, by show (0 : Nat) ≤ _; omega, ?_, hb2⟩
        intro u hu hl hxy
        exact absurd (HU.out u hu hl hxy).2.2 HQ.out
def DecOut (k : Nat) (line : ByteArray) (w : World) (e : Ending) (w' : World) : Prop :=
  ∃ c r ok, e = .returned (.tuple #[recV c r, .bool ok]) ∧ c.size ≤ line.size ∧ r.size ≤ line.size ∧
    Hid (ok = true → OkE (c.data.toList, r.data.toList) ∧ k < 60 ∧ line.data.toList = lnS k (c.data.toList, r.data.toList)) ∧
    Hid (ok = false → k < 60 → ∀ e, OkE e → line.data.toList ≠ lnS k e) ∧ Below w.heap.size w w'
/-- the last word of decodeRecord, plainly -/
theorem dec_true {k : Nat} {c r line : ByteArray} (h1 : (encR (k : Int) c r).2 = true) (h2 : bs (encR (k : Int) c r).1 = line) : OkE (c.data.toList, r.data.toList) ∧ k < 60 ∧ line.data.toList = lnS k (c.data.toList, r.data.toList) := by
  unfold encR at h1 h2
  split at h1
  · rename_i h
    rw [if_pos h] at h2
    refine ⟨recB_iff.1 h.2.2, by omega, ?_⟩
    rw [← h2, bs_list, lnS_def]
  · cases h1
theorem enc_of {k : Nat} {e : Bs × Bs} (h : OkE e) (hk : k < 60) : encR (k : Int) (bs e.1) (bs e.2) = (lnS k e, true) := by
  have hr : recB (bs e.1) (bs e.2) = true := recB_iff.2 (by rw [bs_list, bs_list]; exact h)
  unfold encR
  rw [if_pos ⟨by omega, by omega, hr⟩, bs_list, bs_list, lnS_def]
/-- how a line is taken apart -/
theorem dec_parts {k : Nat} {e : Bs × Bs} {line t a1 b1 c r : ByteArray} {ok1 : Bool} (he : OkE e) (hk : k < 60) (hl : line.data.toList = lnS k e)
    (HV : ∀ u : List UInt8, (35 : UInt8) ∉ u → u.length ≤ 3000 → (bs (Lib.trimSuffix line.data.toList [10])).data.toList = sealS u → t = bs u ∧ ok1 = true)
    (HC1 : ∀ x y : List UInt8, (32 : UInt8) ∉ x → t.data.toList = x ++ 32 :: y → a1 = bs x ∧ b1 = bs y)
    (HC2 : ∀ x y : List UInt8, (64 : UInt8) ∉ x → b1.data.toList = x ++ 64 :: y → c = bs x ∧ r = bs y) :
    ok1 = true ∧ (encR (k : Int) c r).2 = true ∧ bs (encR (k : Int) c r).1 = line := by
  have hb := bodyS_len he hk
  obtain ⟨rfl, h1⟩ := HV (bodyS k e) (bodyS_no he (.inl rfl)) (by omega) (by rw [bs_list, hl]; unfold lnS; exact trim_hit _)
  obtain ⟨_, rfl⟩ := HC1 (Lib.itoa (k : Int)) (e.1 ++ 64 :: e.2) itoa_no32 (by rw [bs_list]; rfl)
  obtain ⟨rfl, rfl⟩ := HC2 e.1 e.2 he.at_ (by rw [bs_list])
  rw [enc_of he hk]
  exact ⟨h1, rfl, by show bs (lnS k e) = line; rw [← hl, bs_of]⟩
theorem Trim_c (s : ByteArray) (w : World) (hs : s.size ≤ 1073741824) : Calls Tryd.prog 70 #[.string s, .string ⟨#[10]⟩] w fun e w' => e = .returned (.string (bs (Lib.trimSuffix s.data.toList [10]))) ∧ w = w' :=
  (Tryd.strings_TrimSuffix s ⟨#[10]⟩ w (by omega)).mono fun e w' h => ⟨h.1, h.2.symm⟩
set_option maxHeartbeats 2000000 in
theorem decodeRecord_c (k : Nat) (hk : k ≤ 60) (line : ByteArray) (w : World) (hs : line.size ≤ 1048576) (ht : Tab w) : Calls Tryd.prog 62 #[.int .i64 (k : Int), .string line] w (DecOut k line w) := by
  have hsz : (bs (Lib.trimSuffix line.data.toList [10])).size ≤ line.size := by rw [bs_size]; have := trim_len line.data.toList [10]; rw [ba_len] at this; exact this
  have HS := Lib.hid (Trim_c line)
  have HV := Lib.hid (VerifyChecksum_c (bs (Lib.trimSuffix line.data.toList [10])))
  have HP := Lib.hid (fun e t a1 b1 c r ok1 => @dec_parts k e line t a1 b1 c r ok1)
  generalize bs (Lib.trimSuffix line.data.toList [10]) = s1 at *
  have HT := Lib.hid ht
  clear ht
  go_enter Tryd.func62, Tryd.ntmps62
  go_wp2_with fail
  refine (HS.out _ (by omega)).mono ?_
  rintro e w2 ⟨rfl, rfl⟩
  have B0 := Lib.hid (Bk.new w 25 #[.string ⟨#[]⟩, .string ⟨#[]⟩])
  have hb0 := Lib.hid (below_one (w := w) (.cells #[.string ⟨#[]⟩, .string ⟨#[]⟩] 25))
  go_wp2_with fail
  refine (HV.out _ (by omega) (HT.out.on hb0.out)).mono ?_
  rintro e w2 ⟨t, ok1, rfl, ht, HV1, hb2⟩
  have B1 := Lib.hid (B0.out.below hb2)
  have hb1 := Lib.hid (Below.chain hb0.out hb2)
  clear B0 hb0 hb2
  go_wp2_with fail
  refine (Cut_c t 32 _ (by omega)).mono ?_
  rintro e w3 ⟨a1, b1, f1, rfl, ha1, hb1s, HC1, hb2⟩
  have B0 := Lib.hid (B1.out.below hb2)
  have hb0 := Lib.hid (Below.chain hb1.out hb2)
  clear B1 hb1 hb2
  go_wp2_with fail
  refine (Cut_c b1 64 _ (by omega)).mono ?_
  rintro e w4 ⟨c, r, f2, rfl, hcs, hrs, HC2, hb2⟩
  have HQ : Hid (∀ e : Bs × Bs, OkE e → k < 60 → line.data.toList = lnS k e → ok1 = true ∧ (encR (k : Int) c r).2 = true ∧ bs (encR (k : Int) c r).1 = line) :=
    fun e he hk2 hl => HP.out e t a1 b1 c r ok1 he hk2 hl HV1.out HC1.out HC2.out
  clear HV1 HC1 HC2 HP HV HS
  have B1 := Lib.hid (B0.out.below hb2)
  have hb1 := Lib.hid (Below.chain hb0.out hb2)
  clear B0 hb0 hb2
  have HD := Lib.hid (@dec_true k c r line)
  have HE := Lib.hid (fun w => EncodeRecord_c (k : Int) c r w (by omega) (by omega))
  unfold recV at HE
  have B0 := Lib.hid (B1.out.alloc (.cells #[.string c, .string r] 25))
  have C0 := Lib.hid (Bk.new w4 25 #[.string c, .string r])
  have hb0 := Lib.hid (Below.alc hb1.out (.cells #[.string c, .string r] 25))
  clear B1 hb1
  go_wp2_with fail
  refine (HE.out _ (HT.out.on hb0.out)).mono ?_
  rintro e w5 ⟨rfl, hb2⟩
  have B1 := B0.out.below hb2
  have C1 := C0.out.below hb2
  have q0 : w5.cell? ⟨w4.heap.size, 0, none⟩ = some (.string c) := C1.cell 0
  have q1 : w5.cell? ⟨w4.heap.size, 1, none⟩ = some (.string r) := C1.cell 1
  have z0 : w5.cell? ⟨w.heap.size, 0, none⟩ = some (.string ⟨#[]⟩) := B1.cell 0
  have z1 : w5.cell? ⟨w.heap.size, 1, none⟩ = some (.string ⟨#[]⟩) := B1.cell 1
  have f0 : w5.frozen? ⟨w.heap.size, 0, none⟩ = false := B1.frozen 0
  have f1 : w5.frozen? ⟨w.heap.size, 1, none⟩ = false := B1.frozen 1
  have hb1 := Lib.hid (Below.chain hb0.out hb2)
  clear B0 hb0 hb2 B1 C0 C1 HE
  have HDX := HD; have HQX := HQ
  generalize encR (k : Int) c r = R at *
  obtain ⟨X, fine⟩ := R
  clear HD HQ
  have fin : ∀ (ok : Bool) (w' : World), Hid (ok = true → ok1 = true ∧ fine = true ∧ bs X = line) → Hid (ok = false → ¬ (ok1 = true ∧ fine = true ∧ bs X = line)) → Below w.heap.size w w' →
      DecOut k line w (.returned (.tuple #[.agg #[.string c, .string r], .bool ok])) w' := fun ok w' h1 h2 h3 =>
    ⟨c, r, ok, rfl, by omega, by omega, fun h => HDX.out (h1.out h).2.1 (h1.out h).2.2, fun h hk2 e he hl => h2.out h (HQX.out e he hk2 hl), h3⟩
  have FIN := Lib.hid fin
  clear fin HDX HQX
  cases ok1 with
  | false =>
    go_wp2
    exact bodyPost_ret (v := .tuple #[.agg #[.string c, .string r], .bool false]) (by simp [results, Tryd.results62, go_sem, z0, z1]) rfl (FIN.out false _ (fun h => by cases h) (fun _ h => by cases h.1) (by have hb := hb1.out; exact (hb.setCell (p := ⟨w.heap.size, 0, none⟩) (Nat.le_refl _) _).setCell (p := ⟨w.heap.size, 1, none⟩) (Nat.le_refl _) _))
  | true =>
    cases fine with
    | false =>
      go_wp2
      exact bodyPost_ret (v := .tuple #[.agg #[.string c, .string r], .bool false]) (by simp [results, Tryd.results62, go_sem, z0, z1]) rfl (FIN.out false _ (fun h => by cases h) (fun _ h => by cases h.2.1) (by have hb := hb1.out; exact (hb.setCell (p := ⟨w.heap.size, 0, none⟩) (Nat.le_refl _) _).setCell (p := ⟨w.heap.size, 1, none⟩) (Nat.le_refl _) _))
    | true =>
      by_cases hq : bs X = line
      · have hqe := str_eq hq
        have HQ := Lib.hid hq
        clear hq
        go_wp2
        exact bodyPost_ret (v := .tuple #[.agg #[.string c, .string r], .bool true]) (by simp [results, Tryd.results62, go_sem, z0, z1]) rfl (FIN.out true _ (fun _ => by simp [HQ.out]) (fun h => by cases h) (by have hb := hb1.out; exact (hb.setCell (p := ⟨w.heap.size, 0, none⟩) (Nat.le_refl _) _).setCell (p := ⟨w.heap.size, 1, none⟩) (Nat.le_refl _) _))
      · have hqe := str_ne hq
        have HQ := Lib.hid hq
        clear hq
        go_wp2
        exact bodyPost_ret (v := .tuple #[.agg #[.string c, .string r], .bool false]) (by simp [results, Tryd.results62, go_sem, z0, z1]) rfl (FIN.out false _ (fun h => by cases h) (fun _ h => HQ.out h.2.2) (by have hb := hb1.out; exact (hb.setCell (p := ⟨w.heap.size, 0, none⟩) (Nat.le_refl _) _).setCell (p := ⟨w.heap.size, 1, none⟩) (Nat.le_refl _) _))
end Go.Proofs.YtbobiiodbbcodaaDoor
