/- The walks of the sealed texts: the checker's l1Seal, l12Line, EncodeRecord; the program's AppendChecksum, EncodeRecord. -/
import Derived.Test.YtlipkplomndjcaaDoorNum
import Derived.Test.YtlipkplomndjcaaDoorLogP
import Derived.Test.YtlipkplomndjcaaDoorRec
import Derived.Test.YtlipkplomndjcaaDoorShelf
import Derived.Lib.SmallJoins
namespace Go.Proofs.YtlipkplomndjcaaDoor
open Go.RowKit
set_option linter.unusedVariables false
set_option maxRecDepth 100000
/-- the table that the library's decimal text reads -/
def Tab (w : World) : Prop := Lib.TabIs Tryd.prog w "internal/strconv.uint64pow10" .u64 Lib.pow10Tab
theorem Tab.on {w w' : World} (h : Tab w) (hb : Below w.heap.size w w') : Tab w' :=
  Joins.tab_stays (g := 1) (by kernel_rfl) h hb (Nat.le_refl _)
theorem below_growN (w : World) (q : Nat) (os : Array Obj) : Below w.heap.size w (Sort.grow (w.drewN q) os) :=
  ⟨rfl, rfl, rfl, by simp [Sort.grow], fun i hi => by
    show ((w.drewN q).heap ++ os)[i]? = _
    rw [Array.getElem?_append_left (by show i < w.heap.size; omega)]
    rfl⟩
theorem bs_size (l : List UInt8) : (bs l).size = l.length := by show l.toArray.size = _; simp
theorem bs_list (l : List UInt8) : (bs l).data.toList = l := by simp [bs]
theorem bs_of (s : ByteArray) : bs s.data.toList = s := ByteArray.ext (by simp [bs])
theorem bs_inj {a b : List UInt8} (h : bs a = bs b) : a = b := by have := congrArg (fun s : ByteArray => s.data.toList) h; simpa [bs_list] using this
theorem Itoa_c (n : Int) (h0 : 0 ≤ n) (h1 : n < 1000000) (w : World) (ht : Tab w) : Calls Tryd.prog 39 #[.int .i64 n] w fun e w' => e = .returned (.string (bs (Lib.itoa n))) ∧ Below w.heap.size w w' :=
  (Tryd.strconv_Itoa n (by omega) (by omega) w ht).mono fun e w' ⟨he, k, os, hw⟩ => ⟨he, hw ▸ below_growN w k os⟩
theorem ItoaS_c (k : Nat) (h : k < 60) (w : World) : Calls Tryd.prog 39 #[.int .i64 (k : Int)] w fun e w' => e = .returned (.string (bs (Lib.itoa (k : Int)))) ∧ w = w' :=
  (Tryd.strconv_Itoa_small k (by omega) w).mono fun e w' ⟨he, hw⟩ => ⟨by rw [he, itoa_nat]; rfl, hw.symm⟩
theorem seal_bs {s : ByteArray} : s ++ ⟨#[35]⟩ ++ bs (Lib.itoa (ckS s.data.toList)) = bs (sealS s.data.toList) := ByteArray.ext (by simp [bs, sealS])
set_option maxHeartbeats 1000000 in
theorem l1Seal_c (s : ByteArray) (w : World) (hs : s.size ≤ 1073741824) : Calls Tryd.prog 58 #[.string s] w fun e w' => e = .returned (.string (bs (sealS s.data.toList))) ∧ Below w.heap.size w w' := by
  obtain ⟨m, hm⟩ : ∃ m : Nat, ckS s.data.toList = (m : Int) := ⟨(ckS s.data.toList).toNat, by have := ckS_bd s.data.toList; omega⟩
  have hb : m < 999979 := by have := ckS_bd s.data.toList; omega
  have hsz : (bs (Lib.decDigits m)).size ≤ 20 := by rw [bs_size, Lib.decDigits_length]; exact Lib.nDigits_le20 m (by omega)
  have HS := Lib.hid hm
  have HF := Lib.hid (@seal_bs s)
  have HI := Lib.hid (itoa_nat m)
  clear hm
  go_enter Tryd.func58, Tryd.ntmps58
  go_wp2_with fail
  refine (l1Sum_c s _ hs).mono ?_
  rintro e w2 ⟨rfl, rfl⟩
  rw [HS.out]
  go_wp2_with fail
  refine (l1Num_c m _ (by omega)).mono ?_
  rintro e w3 ⟨rfl, hb3⟩
  go_wp2
  go_ret
  exact ⟨by rw [← HF.out, HS.out, HI.out]; rfl, hb3⟩
theorem l1Seal_g (s : ByteArray) (w : World) (hs : s.size ≤ 1073741824) : Calls Tryd.prog 58 #[.string s] w fun e w' => ∃ S, e = .returned (.string S) ∧ ¬ (9223372036854775807 ≤ S.size) ∧ ¬ (9223372036854775807 < S.size + 1) ∧ Hid (S = bs (sealS s.data.toList)) ∧ Below w.heap.size w w' :=
  (l1Seal_c s w hs).mono fun e w' ⟨he, hb⟩ => by have := sealS_len s.data.toList; rw [ba_len] at this; exact ⟨_, he, by rw [bs_size]; omega, by rw [bs_size]; omega, rfl, hb⟩
/-- what AppendChecksum answers -/
def appR (s : List UInt8) : List UInt8 × Bool := if s.length ≤ 4000 ∧ (35 : UInt8) ∉ s ∧ (sealS s).length ≤ 4000 then (sealS s, true) else ([], false)
theorem appR_no {s : List UInt8} (h : ¬ (s.length ≤ 4000 ∧ (35 : UInt8) ∉ s ∧ (sealS s).length ≤ 4000)) : appR s = ([], false) := by unfold appR; rw [if_neg h]
theorem appR_yes {s : List UInt8} (h : s.length ≤ 4000 ∧ (35 : UInt8) ∉ s ∧ (sealS s).length ≤ 4000) : appR s = (sealS s, true) := by unfold appR; rw [if_pos h]
theorem stands_iff (s : ByteArray) (c : UInt8) : standsB s c = true ↔ c ∈ s.data.toList := by unfold standsB; rw [List.contains_iff_mem]
def AppPost (s : ByteArray) (w : World) (e : Ending) (w' : World) : Prop := e = .returned (.tuple #[.string (bs (appR s.data.toList).1), .bool (appR s.data.toList).2]) ∧ Below w.heap.size w w'
set_option maxHeartbeats 1000000 in
theorem AppendChecksum_c (s : ByteArray) (w : World) (hs : s.size ≤ 1073741824) (ht : Tab w) : Calls Tryd.prog 38 #[.string s] w (AppPost s w) := by
  by_cases h1 : s.size ≤ 4000
  · rcases h2 : standsB s 35 with _ | _
    · have hn : (35 : UInt8) ∉ s.data.toList := fun h => by rw [(stands_iff s 35).2 h] at h2; cases h2
      have hd : decide ((4000 : Int) < (s.size : Int)) = false := by simp; omega
      have H2 := Lib.hid h2
      have HT := Lib.hid ht
      have hbd := ckS_bd s.data.toList
      have HF := Lib.hid (@seal_bs s)
      have hsz : (bs (Lib.itoa (ckS s.data.toList))).size ≤ 20 := by rw [bs_size]; exact itoa_len hbd.1 (by omega)
      have hszs : (sealS s.data.toList).length = s.size + 1 + (bs (Lib.itoa (ckS s.data.toList))).size := by unfold sealS; rw [bs_size]; simp; omega
      by_cases h3 : (sealS s.data.toList).length ≤ 4000
      · have HR := Lib.hid (appR_yes ⟨by rw [ba_len]; exact h1, hn, h3⟩)
        have hd2 : decide ((4000 : Int) < (s.size : Int) + 1 + ((bs (Lib.itoa (ckS s.data.toList))).size : Int)) = false := by simp; omega
        have hle3 : s.size + 1 + (bs (Lib.itoa (ckS s.data.toList))).size ≤ 4000 := by omega
        clear h2 hn ht hszs h3
        generalize hm : ckS s.data.toList = m at *
        have HM := Lib.hid hm
        clear hm
        go_enter Tryd.func38, Tryd.ntmps38
        go_wp2_with fail
        refine (Contains_c s 35 _).mono ?_
        rintro e w2 ⟨rfl, rfl⟩
        rw [H2.out]
        go_wp2_with fail
        refine (checksum_c s _ hs).mono ?_
        rintro e w2 ⟨rfl, rfl⟩
        rw [HM.out]
        go_wp2_with fail
        refine (Itoa_c m hbd.1 (by omega) _ HT.out).mono ?_
        rintro e w2 ⟨rfl, hb2⟩
        go_wp2
        go_ret2
        exact ⟨by rw [HR.out, ← HF.out]; rfl, hb2⟩
      · have HR := Lib.hid (appR_no (s := s.data.toList) (fun h => h3 h.2.2))
        have hd2 : decide ((4000 : Int) < (s.size : Int) + 1 + ((bs (Lib.itoa (ckS s.data.toList))).size : Int)) = true := by simp; omega
        clear h2 hn ht hszs h3
        generalize hm : ckS s.data.toList = m at *
        have HM := Lib.hid hm
        clear hm
        go_enter Tryd.func38, Tryd.ntmps38
        go_wp2_with fail
        refine (Contains_c s 35 _).mono ?_
        rintro e w2 ⟨rfl, rfl⟩
        rw [H2.out]
        go_wp2_with fail
        refine (checksum_c s _ hs).mono ?_
        rintro e w2 ⟨rfl, rfl⟩
        rw [HM.out]
        go_wp2_with fail
        refine (Itoa_c m hbd.1 (by omega) _ HT.out).mono ?_
        rintro e w2 ⟨rfl, hb2⟩
        go_wp2
        go_ret2
        exact ⟨by rw [HR.out]; rfl, hb2⟩
    · have hn : (35 : UInt8) ∈ s.data.toList := (stands_iff s 35).1 h2
      have HR := Lib.hid (appR_no (s := s.data.toList) (fun h => h.2.1 hn))
      have hd : decide ((4000 : Int) < (s.size : Int)) = false := by simp; omega
      have H2 := Lib.hid h2
      clear h2 hn ht
      go_enter Tryd.func38, Tryd.ntmps38
      go_wp2_with fail
      refine (Contains_c s 35 _).mono ?_
      rintro e w2 ⟨rfl, rfl⟩
      rw [H2.out]
      go_wp2
      go_ret2
      exact ⟨by rw [HR.out]; rfl, Below.refl _ _⟩
  · have HR := Lib.hid (appR_no (s := s.data.toList) (fun h => h1 (by rw [← ba_len]; exact h.1)))
    have hd : decide ((4000 : Int) < (s.size : Int)) = true := by simp; omega
    go_enter Tryd.func38, Tryd.ntmps38
    go_wp2
    go_ret2
    exact ⟨by rw [HR.out]; rfl, Below.refl _ _⟩
theorem line_bs {k : Nat} {c r : ByteArray} : bs (sealS (bs (Lib.decDigits k) ++ ⟨#[32]⟩ ++ c ++ ⟨#[64]⟩ ++ r).data.toList) ++ ⟨#[10]⟩ = bs (lineS (k : Int) c.data.toList r.data.toList) := by
  have h : (bs (Lib.decDigits k) ++ ⟨#[32]⟩ ++ c ++ ⟨#[64]⟩ ++ r).data.toList = Lib.itoa (k : Int) ++ 32 :: c.data.toList ++ 64 :: r.data.toList := by
    rw [itoa_nat]; simp [bs]
  rw [h]
  unfold lineS
  exact ByteArray.ext (by simp [bs])
set_option maxHeartbeats 1000000 in
theorem l12Line_c (k : Nat) (hk : k < 4611686018427387904) (c r : ByteArray) (w : World) (hc : c.size ≤ 1048576) (hr : r.size ≤ 1048576) : Calls Tryd.prog 41 #[.int .i64 (k : Int), recV c r] w fun e w' => e = .returned (.string (bs (lineS (k : Int) c.data.toList r.data.toList))) ∧ Below w.heap.size w w' := by
  unfold recV
  have hsz : (bs (Lib.decDigits k)).size ≤ 20 := by rw [bs_size, Lib.decDigits_length]; exact Lib.nDigits_le20 k (by omega)
  have HD := Lib.hid (l1Num_c k)
  have HL := Lib.hid (@line_bs k c r)
  generalize bs (Lib.decDigits k) = D at *
  have hs1 : ¬ (9223372036854775807 < D.size + 1) := by omega
  have hs2 : ¬ (9223372036854775807 < D.size + 1 + c.size) := by omega
  have hs3 : ¬ (9223372036854775807 < D.size + 1 + c.size + 1) := by omega
  have hs4 : ¬ (9223372036854775807 < D.size + 1 + c.size + 1 + r.size) := by omega
  have ht1 : ¬ (9223372036854775807 ≤ D.size) := by omega
  have ht3 : ¬ (9223372036854775807 ≤ D.size + 1 + c.size) := by omega
  have hz : (D ++ ⟨#[32]⟩ ++ c ++ ⟨#[64]⟩ ++ r).size ≤ 1073741824 := by simp only [ByteArray.size_append, show (⟨#[32]⟩ : ByteArray).size = 1 from rfl, show (⟨#[64]⟩ : ByteArray).size = 1 from rfl]; omega
  have HZ := Lib.hid hz
  have HZ2 := Lib.hid (sealS_len (D ++ ⟨#[32]⟩ ++ c ++ ⟨#[64]⟩ ++ r).data.toList)
  clear hz
  go_enter Tryd.func41, Tryd.ntmps41
  go_wp2_with fail
  go_region_held3 (fun w' => w'.cell? ⟨w.heap.size, 0, none⟩ = some (.string c) ∧ w'.cell? ⟨w.heap.size, 1, none⟩ = some (.string r)) (first | go_keep | (go_split_ands; exact ⟨cell_later hb2 ‹_›, cell_later hb2 ‹_›⟩) | (go_split_ands; exact ⟨cell_later hb1 ‹_›, cell_later hb1 ‹_›⟩))
    (first | (go_at_call 59; refine (HD.out _ hk).mono ?_; rintro e wa ⟨rfl, hb1⟩; have hbd : Below w.heap.size w wa := by (repeat (first | exact Below.refl _ _ | exact (Below.refl _ _).drew | assumption | exact below_one _ | refine Below.chain ?_ (by assumption) | refine Below.drew ?_ | refine Below.alc ?_ _ | refine below_drewN ?_ | (refine Below.setCell ?_ ?_ _) | exact Nat.le_refl _ | (simp; done) | (simp; omega)))) | (go_at_call 58; refine (l1Seal_g _ _ HZ.out).mono ?_; rintro e wb ⟨S, rfl, hS1, hS3, HS2, hb2⟩))
  go_wp2
  go_ret
  exact ⟨by rw [HS2.out, HL.out]; rfl, Below.chain hbd hb2⟩
theorem new_cell (w : World) (cs : Array Value) (t i : Nat) (v : Value) (h : cs[i]? = some v) : (w.alloc (.cells cs t)).cell? ⟨w.heap.size, i, none⟩ = some v := by
  rw [World.cell?_alloc_at _ _ _ _ rfl]; exact h
theorem prB_eq (c : UInt8) : prB c = prU c := by
  unfold prB prU inB
  congr 1
  rw [Bool.eq_iff_iff]
  simp
  omega
theorem recB_okE (c r : ByteArray) : recB c r = okE (c.data.toList, r.data.toList) := by
  unfold recB cmdB okE printB standsB inB
  rw [show prB = prU from funext prB_eq]
  rw [Bool.eq_iff_iff]
  simp only [Bool.and_eq_true, decide_eq_true_eq, ba_len]
  have e1 : ((1 : Int) ≤ (c.size : Int)) ↔ 1 ≤ c.size := by omega
  have e2 : ((c.size : Int) ≤ 160) ↔ c.size ≤ 160 := by omega
  have e3 : ((r.size : Int) ≤ 250) ↔ r.size ≤ 250 := by omega
  rw [e1, e2, e3]
  simp only [and_assoc]
theorem recB_iff {c r : ByteArray} : recB c r = true ↔ OkE (c.data.toList, r.data.toList) := by rw [recB_okE, okE_iff]
def encR (k : Int) (c r : ByteArray) : List UInt8 × Bool := if 0 ≤ k ∧ k ≤ 59 ∧ recB c r = true then (lineS k c.data.toList r.data.toList, true) else ([], false)
theorem encR_k {k : Int} {c r : ByteArray} (h : inB k 0 59 = false) : encR k c r = ([], false) := by
  unfold encR; rw [if_neg]; unfold inB at h; simp at h; omega
theorem encR_r {k : Int} {c r : ByteArray} (h : recB c r = false) : encR k c r = ([], false) := by
  unfold encR; rw [if_neg]; rw [h]; simp
theorem encR_y {k : Int} {c r : ByteArray} (h0 : inB k 0 59 = true) (h : recB c r = true) : encR k c r = (lineS k c.data.toList r.data.toList, true) := by
  unfold encR; rw [if_pos]; unfold inB at h0; simp at h0; exact ⟨h0.1, h0.2, h⟩
def EncPost (k : Int) (c r : ByteArray) (w : World) (e : Ending) (w' : World) : Prop := e = .returned (.tuple #[.string (bs (encR k c r).1), .bool (encR k c r).2]) ∧ Below w.heap.size w w'
set_option maxHeartbeats 1000000 in
theorem EncodeRecordS_c (k : Int) (c r : ByteArray) (w : World) (hc : c.size ≤ 1048576) (hr : r.size ≤ 1048576) : Calls Tryd.prog 15 #[.int .i64 k, recV c r] w (EncPost k c r w) := by
  have HRV := Lib.hid (l12Record_c c r)
  have HLN := Lib.hid (fun k hk w => l12Line_c k hk c r w hc hr)
  unfold recV at *
  rcases h1 : inB k 0 59 with _ | _
  · have HR := Lib.hid (encR_k (c := c) (r := r) h1)
    have H1 := Lib.hid h1; clear h1
    go_enter Tryd.func15, Tryd.ntmps15
    go_wp2_with fail
    refine (l1In_c _ _ _ _).mono ?_
    rintro e w2 ⟨rfl, rfl⟩
    rw [H1.out]
    go_wp2
    go_ret2
    exact ⟨by rw [HR.out]; rfl, by (repeat (first | exact Below.refl _ _ | exact (Below.refl _ _).drew | assumption | exact below_one _ | refine Below.chain ?_ (by assumption) | refine Below.drew ?_ | refine Below.alc ?_ _ | refine below_drewN ?_ | (refine Below.setCell ?_ ?_ _) | exact Nat.le_refl _ | (simp; done) | (simp; omega)))⟩
  · rcases h2 : recB c r with _ | _
    · have HR := Lib.hid (encR_r (k := k) h2)
      have H1 := Lib.hid h1; have H2 := Lib.hid h2; clear h1 h2
      go_enter Tryd.func15, Tryd.ntmps15
      go_wp2_with fail
      refine (l1In_c _ _ _ _).mono ?_
      rintro e w2 ⟨rfl, rfl⟩
      rw [H1.out]
      go_wp2_with fail
      refine (HRV.out _ (by omega) (by omega)).mono ?_
      rintro e w2 ⟨rfl, hb2⟩
      rw [H2.out]
      go_wp2
      go_ret2
      exact ⟨by rw [HR.out]; rfl, by (repeat (first | exact Below.refl _ _ | exact (Below.refl _ _).drew | assumption | exact below_one _ | refine Below.chain ?_ (by assumption) | refine Below.drew ?_ | refine Below.alc ?_ _ | refine below_drewN ?_ | (refine Below.setCell ?_ ?_ _) | exact Nat.le_refl _ | (simp; done) | (simp; omega)))⟩
    · have HR := Lib.hid (encR_y h1 h2)
      obtain ⟨n, rfl⟩ : ∃ n : Nat, k = (n : Int) := ⟨k.toNat, by unfold inB at h1; simp at h1; omega⟩
      have hn : n < 4611686018427387904 := by unfold inB at h1; simp at h1; omega
      have H1 := Lib.hid h1; have H2 := Lib.hid h2; clear h1 h2
      go_enter Tryd.func15, Tryd.ntmps15
      go_wp2_with fail
      refine (l1In_c _ _ _ _).mono ?_
      rintro e w2 ⟨rfl, rfl⟩
      rw [H1.out]
      go_wp2_with fail
      refine (HRV.out _ (by omega) (by omega)).mono ?_
      rintro e w2 ⟨rfl, hb2⟩
      rw [H2.out]
      have hcell := cell_later (a := ⟨w.heap.size, 0, none⟩) (v := .string c) hb2 (new_cell w _ _ 0 _ rfl)
      have hcell2 := cell_later (a := ⟨w.heap.size, 1, none⟩) (v := .string r) hb2 (new_cell w _ _ 1 _ rfl)
      go_wp2_with fail
      refine (HLN.out _ hn _).mono ?_
      rintro e w3 ⟨rfl, hb3⟩
      go_wp2
      go_ret2
      exact ⟨by rw [HR.out]; rfl, by (repeat (first | exact Below.refl _ _ | exact (Below.refl _ _).drew | assumption | exact below_one _ | refine Below.chain ?_ (by assumption) | refine Below.drew ?_ | refine Below.alc ?_ _ | refine below_drewN ?_ | (refine Below.setCell ?_ ?_ _) | exact Nat.le_refl _ | (simp; done) | (simp; omega)))⟩
theorem body_bs {n : Nat} {c r : ByteArray} : bs (Lib.itoa (n : Int)) ++ ⟨#[32]⟩ ++ c ++ ⟨#[64]⟩ ++ r = bs (bodyS n (c.data.toList, r.data.toList)) := by
  unfold bodyS
  exact ByteArray.ext (by simp [bs])
theorem AppBody_c (n : Nat) (hn : n < 60) (c r : ByteArray) (h : recB c r = true) (w : World) (ht : Tab w) : Calls Tryd.prog 38 #[.string (bs (Lib.itoa (n : Int)) ++ ⟨#[32]⟩ ++ c ++ ⟨#[64]⟩ ++ r)] w fun e w' =>
    ∃ S, e = .returned (.tuple #[.string S, .bool true]) ∧ (S.size : Int) ≤ 8388608 ∧ Hid (S ++ ⟨#[10]⟩ = bs (lineS (n : Int) c.data.toList r.data.toList)) ∧ Below w.heap.size w w' := by
  rw [body_bs]
  have hk := recB_iff.1 h
  have hl := bodyS_len hk hn
  have hs := sealS_len (bodyS n (c.data.toList, r.data.toList))
  refine (AppendChecksum_c _ w (by rw [bs_size]; omega) ht).mono fun e w' h => ?_
  obtain ⟨he, hb⟩ := h
  rw [bs_list, appR_yes ⟨by omega, bodyS_no hk (.inl rfl), by omega⟩] at he
  refine ⟨bs (sealS (bodyS n (c.data.toList, r.data.toList))), he, by rw [bs_size]; omega, ?_, hb⟩
  show bs _ ++ _ = _
  rw [show lineS (n : Int) c.data.toList r.data.toList = lnS n (c.data.toList, r.data.toList) from (lnS_def n (c.data.toList, r.data.toList)).symm]
  unfold lnS
  exact ByteArray.ext (by simp [bs])
set_option maxHeartbeats 1000000 in
theorem EncodeRecord_c (k : Int) (c r : ByteArray) (w : World) (hc : c.size ≤ 1048576) (hr : r.size ≤ 1048576) (ht : Tab w) : Calls Tryd.prog 14 #[.int .i64 k, recV c r] w (EncPost k c r w) := by
  have HRV := Lib.hid (IsValidRecord_c c r)
  unfold recV at *
  rcases h1 : inB k 0 59 with _ | _
  · have HR := Lib.hid (encR_k (c := c) (r := r) h1)
    have H1 := Lib.hid h1; clear h1 ht
    go_enter Tryd.func14, Tryd.ntmps14
    go_wp2_with fail
    refine (within_c _ _ _ _).mono ?_
    rintro e w2 ⟨rfl, rfl⟩
    rw [H1.out]
    go_wp2
    go_ret2
    exact ⟨by rw [HR.out]; rfl, by (repeat (first | exact Below.refl _ _ | exact (Below.refl _ _).drew | assumption | exact below_one _ | refine Below.chain ?_ (by assumption) | refine Below.drew ?_ | refine Below.alc ?_ _ | refine below_drewN ?_ | (refine Below.setCell ?_ ?_ _) | exact Nat.le_refl _ | (simp; done) | (simp; omega)))⟩
  · rcases h2 : recB c r with _ | _
    · have HR := Lib.hid (encR_r (k := k) h2)
      have H1 := Lib.hid h1; have H2 := Lib.hid h2; clear h1 h2 ht
      go_enter Tryd.func14, Tryd.ntmps14
      go_wp2_with fail
      refine (within_c _ _ _ _).mono ?_
      rintro e w2 ⟨rfl, rfl⟩
      rw [H1.out]
      go_wp2_with fail
      refine (HRV.out _ (by omega) (by omega)).mono ?_
      rintro e w2 ⟨rfl, hb2⟩
      rw [H2.out]
      go_wp2
      go_ret2
      exact ⟨by rw [HR.out]; rfl, by (repeat (first | exact Below.refl _ _ | exact (Below.refl _ _).drew | assumption | exact below_one _ | refine Below.chain ?_ (by assumption) | refine Below.drew ?_ | refine Below.alc ?_ _ | refine below_drewN ?_ | (refine Below.setCell ?_ ?_ _) | exact Nat.le_refl _ | (simp; done) | (simp; omega)))⟩
    · have HR := Lib.hid (encR_y h1 h2)
      obtain ⟨n, rfl⟩ : ∃ n : Nat, k = (n : Int) := ⟨k.toNat, by unfold inB at h1; simp at h1; omega⟩
      have hn : n < 60 := by unfold inB at h1; simp at h1; omega
      have HA := Lib.hid (AppBody_c n hn c r h2)
      have HI := Lib.hid (ItoaS_c n hn)
      have hsz : (bs (Lib.itoa (n : Int))).size ≤ 20 := by rw [bs_size]; exact itoa_len (by omega) (by omega)
      have H1 := Lib.hid h1; have H2 := Lib.hid h2; clear h1 h2
      generalize bs (Lib.itoa (n : Int)) = D at *
      have HT := Lib.hid ht; clear ht
      go_enter Tryd.func14, Tryd.ntmps14
      go_wp2_with fail
      refine (within_c _ _ _ _).mono ?_
      rintro e w2 ⟨rfl, rfl⟩
      rw [H1.out]
      go_wp2_with fail
      refine (HRV.out _ (by omega) (by omega)).mono ?_
      rintro e w2 ⟨rfl, hb2⟩
      rw [H2.out]
      have hcell := cell_later (a := ⟨w.heap.size, 0, none⟩) (v := .string c) hb2 (new_cell w _ _ 0 _ rfl)
      have hcell2 := cell_later (a := ⟨w.heap.size, 1, none⟩) (v := .string r) hb2 (new_cell w _ _ 1 _ rfl)
      have HB := Lib.hid (show Below w.heap.size w w2 by (repeat (first | exact Below.refl _ _ | exact (Below.refl _ _).drew | assumption | exact below_one _ | refine Below.chain ?_ (by assumption) | refine Below.drew ?_ | refine Below.alc ?_ _ | refine below_drewN ?_ | (refine Below.setCell ?_ ?_ _) | exact Nat.le_refl _ | (simp; done) | (simp; omega))))
      have HT2 := Lib.hid ((HT.out.on HB.out).on (Below.refl _ _).drew)
      clear hb2
      go_wp2_with fail
      have hs1 : ¬ (9223372036854775807 < D.size + 1) := by omega
      have hs2 : ¬ (9223372036854775807 < D.size + 1 + c.size) := by omega
      have hs3 : ¬ (9223372036854775807 < D.size + 1 + c.size + 1) := by omega
      have hs4 : ¬ (9223372036854775807 < D.size + 1 + c.size + 1 + r.size) := by omega
      have ht1 : ¬ (9223372036854775807 ≤ D.size) := by omega
      have ht3 : ¬ (9223372036854775807 ≤ D.size + 1 + c.size) := by omega
      go_region_held3 (fun w' => w'.cell? ⟨w.heap.size, 0, none⟩ = some (.string c) ∧ w'.cell? ⟨w.heap.size, 1, none⟩ = some (.string r)) (first | go_keep | (go_split_ands; exact ⟨cell_later hb4 ‹_›, cell_later hb4 ‹_›⟩))
        (first | (go_at_call 39; refine (HI.out _).mono ?_; rintro e wa ⟨rfl, rfl⟩) | (go_at_call 38; refine (HA.out _ HT2.out).mono ?_; rintro e wb ⟨S, rfl, hS1, HS2, hb4⟩))
      go_wp2
      go_ret2
      exact ⟨by rw [HR.out, ← HS2.out]; rfl, Below.chain HB.out.drew hb4⟩
end Go.Proofs.YtlipkplomndjcaaDoor
