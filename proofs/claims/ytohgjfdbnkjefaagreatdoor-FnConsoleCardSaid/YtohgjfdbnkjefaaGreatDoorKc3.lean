import Derived.Test.YtohgjfdbnkjefaaGreatDoorKc2
import Derived.Test.YtohgjfdbnkjefaaGreatDoorSfc
import Derived.Lib.SmallJoins
import Derived.Lib.LastIndexLaws
import Derived.Lib.Strings
import Derived.Lib.Bytealg
import Derived.Lib.AtoiAllCases
import Derived.Lib.SplitLaws
import Derived.Lib.IndexBytes
import Derived.Lib.Join
open Go.Lib (hid)
namespace Go.Proofs.YtohgjfdbnkjefaaGreatDoor
open Go.RowKit
set_option linter.unusedVariables false
set_option maxRecDepth 100000
def Tab (w : World) : Prop := Lib.TabIs Tryz.prog w "internal/strconv.uint64pow10" .u64 Lib.pow10Tab
theorem Tab.on {w w' : World} (h : Tab w) (hb : Below w.heap.size w w') : Tab w' :=
 Joins.tab_stays (g := 3) (by kernel_rfl) h hb (Nat.le_refl _)
theorem below_growN (w : World) (q : Nat) (os : Array Obj) : Below w.heap.size w (Sort.grow (w.drewN q) os) :=
 ⟨rfl, rfl, rfl, by simp [Sort.grow], fun i hi => by
  show ((w.drewN q).heap ++ os)[i]? = _
  rw [Array.getElem?_append_left (by show i < w.heap.size; omega)]
  rfl⟩
theorem bs_size (l : List UInt8) : (bs l).size = l.length := by show l.toArray.size = _; simp
theorem bs_list (l : List UInt8) : (bs l).data.toList = l := by simp [bs]
theorem bs_of (s : ByteArray) : bs s.data.toList = s := ByteArray.ext (by simp [bs])
theorem Itoa_c (n : Int) (h0 : 0 ≤ n) (h1 : n < 1000000) (w : World) (ht : Tab w) : Calls Tryz.prog 116 #[.int .i64 n] w fun e w' => e = .returned (.string (bs (Lib.itoa n))) ∧ Below w.heap.size w w' :=
 (Tryz.strconv_Itoa n (by omega) (by omega) w ht).mono fun e w' ⟨he, k, os, hw⟩ => ⟨he, hw ▸ below_growN w k os⟩
theorem ItoaS_c (k : Nat) (h : k < 60) (w : World) : Calls Tryz.prog 116 #[.int .i64 (k : Int)] w fun e w' => e = .returned (.string (bs (Lib.itoa (k : Int)))) ∧ w = w' :=
 (Tryz.strconv_Itoa_small k (by omega) w).mono fun e w' ⟨he, hw⟩ => ⟨by rw [he, itoa_nat]; rfl, hw.symm⟩
theorem seal_bs {s : ByteArray} : s ++ ⟨#[35]⟩ ++ bs (Lib.itoa (ckS s.data.toList)) = bs (sealS s.data.toList) := ByteArray.ext (by simp [bs, sealS])
set_option maxHeartbeats 1000000 in
theorem l1Seal_c (s : ByteArray) (w : World) (hs : s.size ≤ 1073741824) : Calls Tryz.prog 184 #[.string s] w fun e w' => e = .returned (.string (bs (sealS s.data.toList))) ∧ Below w.heap.size w w' := by
 obtain ⟨m, hm⟩ : ∃ m : Nat, ckS s.data.toList = (m : Int) := ⟨(ckS s.data.toList).toNat, by have := ckS_bd s.data.toList; omega⟩
 have hb : m < 999979 := by have := ckS_bd s.data.toList; omega
 have hsz : (bs (Lib.decDigits m)).size ≤ 20 := by rw [bs_size, Lib.decDigits_length]; exact Lib.nDigits_le20 m (by omega)
 have HS := hid hm
 have HF := hid (@seal_bs s)
 have HI := hid (itoa_nat m)
 clear hm
 go_enter Tryz.func184, Tryz.ntmps184
 go_wp2_with fail
 refine (l1Sum_c s _ hs).mono ?_
 rintro e w2 ⟨rfl, rfl⟩
 rw [HS.out]
 go_wp2_with fail
 refine (l1Num_c m _ (by omega)).mono ?_
 rintro e w3 ⟨rfl, hb3⟩
 go_wp2
 go_ret
 exact ⟨by rw [← HF.out, HS.out, HI.out]; rfl, hb3⟩
theorem l1Seal_g (s : ByteArray) (w : World) (hs : s.size ≤ 1073741824) : Calls Tryz.prog 184 #[.string s] w fun e w' => ∃ S, e = .returned (.string S) ∧ ¬ (9223372036854775807 ≤ S.size) ∧ ¬ (9223372036854775807 < S.size + 1) ∧ Hid (S = bs (sealS s.data.toList)) ∧ Below w.heap.size w w' :=
 (l1Seal_c s w hs).mono fun e w' ⟨he, hb⟩ => by have := sealS_len s.data.toList; rw [ba_len] at this; exact ⟨_, he, by rw [bs_size]; omega, by rw [bs_size]; omega, rfl, hb⟩
def appR (s : List UInt8) : List UInt8 × Bool := if s.length ≤ 4000 ∧ (35 : UInt8) ∉ s ∧ (sealS s).length ≤ 4000 then (sealS s, true) else ([], false)
theorem appR_no {s : List UInt8} (h : ¬ (s.length ≤ 4000 ∧ (35 : UInt8) ∉ s ∧ (sealS s).length ≤ 4000)) : appR s = ([], false) := by unfold appR; rw [if_neg h]
theorem appR_yes {s : List UInt8} (h : s.length ≤ 4000 ∧ (35 : UInt8) ∉ s ∧ (sealS s).length ≤ 4000) : appR s = (sealS s, true) := by unfold appR; rw [if_pos h]
theorem stands_iff (s : ByteArray) (c : UInt8) : standsB s c = true ↔ c ∈ s.data.toList := by unfold standsB; rw [List.contains_iff_mem]
def AppPost (s : ByteArray) (w : World) (e : Ending) (w' : World) : Prop := e = .returned (.tuple #[.string (bs (appR s.data.toList).1), .bool (appR s.data.toList).2]) ∧ Below w.heap.size w w'
set_option maxHeartbeats 1000000 in
theorem AppendChecksum_c (s : ByteArray) (w : World) (hs : s.size ≤ 1073741824) (ht : Tab w) : Calls Tryz.prog 157 #[.string s] w (AppPost s w) := by
 by_cases h1 : s.size ≤ 4000
 · rcases h2 : standsB s 35 with _ | _
   · have hn : (35 : UInt8) ∉ s.data.toList := fun h => by rw [(stands_iff s 35).2 h] at h2; cases h2
     have hd : decide ((4000 : Int) < (s.size : Int)) = false := by simp; omega
     have H2 := hid h2
     have HT := hid ht
     have hbd := ckS_bd s.data.toList
     have HF := hid (@seal_bs s)
     have hsz : (bs (Lib.itoa (ckS s.data.toList))).size ≤ 20 := by rw [bs_size]; exact itoa_len hbd.1 (by omega)
     have hszs : (sealS s.data.toList).length = s.size + 1 + (bs (Lib.itoa (ckS s.data.toList))).size := by unfold sealS; rw [bs_size]; simp; omega
     by_cases h3 : (sealS s.data.toList).length ≤ 4000
     · have HR := hid (appR_yes ⟨by rw [ba_len]; exact h1, hn, h3⟩)
       have hd2 : decide ((4000 : Int) < (s.size : Int) + 1 + ((bs (Lib.itoa (ckS s.data.toList))).size : Int)) = false := by simp; omega
       have hle3 : s.size + 1 + (bs (Lib.itoa (ckS s.data.toList))).size ≤ 4000 := by omega
       clear h2 hn ht hszs h3
       generalize hm : ckS s.data.toList = m at *
       have HM := hid hm
       clear hm
       go_enter Tryz.func157, Tryz.ntmps157
       go_wp2_with fail
       refine (Contains_c s 35 _).mono ?_
       rintro e w2 ⟨rfl, rfl⟩
       rw [H2.out]
       go_wp2_with fail
       refine (checksum_c s _ hs).mono ?_
       rintro e w2 ⟨rfl, rfl⟩
       rw [HM.out]
       go_wp2_with fail
       refine (Itoa_c m hbd.1 (by omega) _ HT.out).mono ?_
       rintro e w2 ⟨rfl, hb2⟩
       go_wp2
       go_ret2
       exact ⟨by rw [HR.out, ← HF.out]; rfl, hb2⟩
     · have HR := hid (appR_no (s := s.data.toList) (fun h => h3 h.2.2))
       have hd2 : decide ((4000 : Int) < (s.size : Int) + 1 + ((bs (Lib.itoa (ckS s.data.toList))).size : Int)) = true := by simp; omega
       clear h2 hn ht hszs h3
       generalize hm : ckS s.data.toList = m at *
       have HM := hid hm
       clear hm
       go_enter Tryz.func157, Tryz.ntmps157
       go_wp2_with fail
       refine (Contains_c s 35 _).mono ?_
       rintro e w2 ⟨rfl, rfl⟩
       rw [H2.out]
       go_wp2_with fail
       refine (checksum_c s _ hs).mono ?_
       rintro e w2 ⟨rfl, rfl⟩
       rw [HM.out]
       go_wp2_with fail
       refine (Itoa_c m hbd.1 (by omega) _ HT.out).mono ?_
       rintro e w2 ⟨rfl, hb2⟩
       go_wp2
       go_ret2
       exact ⟨by rw [HR.out]; rfl, hb2⟩
   · have hn : (35 : UInt8) ∈ s.data.toList := (stands_iff s 35).1 h2
     have HR := hid (appR_no (s := s.data.toList) (fun h => h.2.1 hn))
     have hd : decide ((4000 : Int) < (s.size : Int)) = false := by simp; omega
     have H2 := hid h2
     clear h2 hn ht
     go_enter Tryz.func157, Tryz.ntmps157
     go_wp2_with fail
     refine (Contains_c s 35 _).mono ?_
     rintro e w2 ⟨rfl, rfl⟩
     rw [H2.out]
     go_wp2
     go_ret2
     exact ⟨by rw [HR.out]; rfl, Below.refl _ _⟩
 · have HR := hid (appR_no (s := s.data.toList) (fun h => h1 (by rw [← ba_len]; exact h.1)))
   have hd : decide ((4000 : Int) < (s.size : Int)) = true := by simp; omega
   go_enter Tryz.func157, Tryz.ntmps157
   go_wp2
   go_ret2
   exact ⟨by rw [HR.out]; rfl, Below.refl _ _⟩
theorem line_bs {k : Nat} {c r : ByteArray} : bs (sealS (bs (Lib.decDigits k) ++ ⟨#[32]⟩ ++ c ++ ⟨#[64]⟩ ++ r).data.toList) ++ ⟨#[10]⟩ = bs (lineS (k : Int) c.data.toList r.data.toList) := by
 have h : (bs (Lib.decDigits k) ++ ⟨#[32]⟩ ++ c ++ ⟨#[64]⟩ ++ r).data.toList = Lib.itoa (k : Int) ++ 32 :: c.data.toList ++ 64 :: r.data.toList := by
  rw [itoa_nat]; simp [bs]
 rw [h]
 unfold lineS
 exact ByteArray.ext (by simp [bs])
set_option maxHeartbeats 1000000 in
theorem l12Line_c (k : Nat) (hk : k < 4611686018427387904) (c r : ByteArray) (w : World) (hc : c.size ≤ 1048576) (hr : r.size ≤ 1048576) : Calls Tryz.prog 131 #[.int .i64 (k : Int), recV c r] w fun e w' => e = .returned (.string (bs (lineS (k : Int) c.data.toList r.data.toList))) ∧ Below w.heap.size w w' := by
 unfold recV
 have hsz : (bs (Lib.decDigits k)).size ≤ 20 := by rw [bs_size, Lib.decDigits_length]; exact Lib.nDigits_le20 k (by omega)
 have HD := hid (l1Num_c k)
 have HL := hid (@line_bs k c r)
 generalize bs (Lib.decDigits k) = D at *
 have hs1 : ¬ (9223372036854775807 < D.size + 1) := by omega
 have hs2 : ¬ (9223372036854775807 < D.size + 1 + c.size) := by omega
 have hs3 : ¬ (9223372036854775807 < D.size + 1 + c.size + 1) := by omega
 have hs4 : ¬ (9223372036854775807 < D.size + 1 + c.size + 1 + r.size) := by omega
 have ht1 : ¬ (9223372036854775807 ≤ D.size) := by omega
 have ht3 : ¬ (9223372036854775807 ≤ D.size + 1 + c.size) := by omega
 have hz : (D ++ ⟨#[32]⟩ ++ c ++ ⟨#[64]⟩ ++ r).size ≤ 1073741824 := by simp only [ByteArray.size_append, show (⟨#[32]⟩ : ByteArray).size = 1 from rfl, show (⟨#[64]⟩ : ByteArray).size = 1 from rfl]; omega
 have HZ := hid hz
 have HZ2 := hid (sealS_len (D ++ ⟨#[32]⟩ ++ c ++ ⟨#[64]⟩ ++ r).data.toList)
 clear hz
 go_enter Tryz.func131, Tryz.ntmps131
 go_wp2_with fail
 go_region_held3 (fun w' => w'.cell? ⟨w.heap.size, 0, none⟩ = some (.string c) ∧ w'.cell? ⟨w.heap.size, 1, none⟩ = some (.string r)) (first | go_keep | (go_split_ands; exact ⟨cell_later hb2 ‹_›, cell_later hb2 ‹_›⟩) | (go_split_ands; exact ⟨cell_later hb1 ‹_›, cell_later hb1 ‹_›⟩))
  (first | (go_at_call 134; refine (HD.out _ hk).mono ?_; rintro e wa ⟨rfl, hb1⟩; have hbd : Below w.heap.size w wa := qBl) | (go_at_call 184; refine (l1Seal_g _ _ HZ.out).mono ?_; rintro e wb ⟨S, rfl, hS1, hS3, HS2, hb2⟩))
 go_wp2
 go_ret
 exact ⟨by rw [HS2.out, HL.out]; rfl, Below.chain hbd hb2⟩
theorem new_cell (w : World) (cs : Array Value) (t i : Nat) (v : Value) (h : cs[i]? = some v) : (w.alloc (.cells cs t)).cell? ⟨w.heap.size, i, none⟩ = some v := by
 rw [World.cell?_alloc_at _ _ _ _ rfl]; exact h
theorem prB_eq (c : UInt8) : prB c = prU c := by
 unfold prB prU inB
 congr 1
 rw [Bool.eq_iff_iff]
 simp
 omega
theorem recB_okE (c r : ByteArray) : recB c r = okE (c.data.toList, r.data.toList) := by
 unfold recB cmdB okE printB standsB inB
 rw [show prB = prU from funext prB_eq]
 rw [Bool.eq_iff_iff]
 simp only [Bool.and_eq_true, decide_eq_true_eq, ba_len]
 have e1 : ((1 : Int) ≤ (c.size : Int)) ↔ 1 ≤ c.size := by omega
 have e2 : ((c.size : Int) ≤ 160) ↔ c.size ≤ 160 := by omega
 have e3 : ((r.size : Int) ≤ 250) ↔ r.size ≤ 250 := by omega
 rw [e1, e2, e3]
 simp only [and_assoc]
theorem recB_iff {c r : ByteArray} : recB c r = true ↔ OkE (c.data.toList, r.data.toList) := by rw [recB_okE, okE_iff]
def encR (k : Int) (c r : ByteArray) : List UInt8 × Bool := if 0 ≤ k ∧ k ≤ 59 ∧ recB c r = true then (lineS k c.data.toList r.data.toList, true) else ([], false)
theorem encR_k {k : Int} {c r : ByteArray} (h : inB k 0 59 = false) : encR k c r = ([], false) := by
 unfold encR; rw [if_neg]; unfold inB at h; simp at h; omega
theorem encR_r {k : Int} {c r : ByteArray} (h : recB c r = false) : encR k c r = ([], false) := by
 unfold encR; rw [if_neg]; rw [h]; simp
theorem encR_y {k : Int} {c r : ByteArray} (h0 : inB k 0 59 = true) (h : recB c r = true) : encR k c r = (lineS k c.data.toList r.data.toList, true) := by
 unfold encR; rw [if_pos]; unfold inB at h0; simp at h0; exact ⟨h0.1, h0.2, h⟩
def EncPost (k : Int) (c r : ByteArray) (w : World) (e : Ending) (w' : World) : Prop := e = .returned (.tuple #[.string (bs (encR k c r).1), .bool (encR k c r).2]) ∧ Below w.heap.size w w'
theorem body_bs {n : Nat} {c r : ByteArray} : bs (Lib.itoa (n : Int)) ++ ⟨#[32]⟩ ++ c ++ ⟨#[64]⟩ ++ r = bs (bodyS n (c.data.toList, r.data.toList)) := by
 unfold bodyS
 exact ByteArray.ext (by simp [bs])
theorem AppBody_c (n : Nat) (hn : n < 60) (c r : ByteArray) (h : recB c r = true) (w : World) (ht : Tab w) : Calls Tryz.prog 157 #[.string (bs (Lib.itoa (n : Int)) ++ ⟨#[32]⟩ ++ c ++ ⟨#[64]⟩ ++ r)] w fun e w' =>
 ∃ S, e = .returned (.tuple #[.string S, .bool true]) ∧ (S.size : Int) ≤ 8388608 ∧ Hid (S ++ ⟨#[10]⟩ = bs (lineS (n : Int) c.data.toList r.data.toList)) ∧ Below w.heap.size w w' := by
 rw [body_bs]
 have hk := recB_iff.1 h
 have hl := bodyS_len hk hn
 have hs := sealS_len (bodyS n (c.data.toList, r.data.toList))
 refine (AppendChecksum_c _ w (by rw [bs_size]; omega) ht).mono fun e w' h => ?_
 obtain ⟨he, hb⟩ := h
 rw [bs_list, appR_yes ⟨by omega, bodyS_no hk (.inl rfl), by omega⟩] at he
 refine ⟨bs (sealS (bodyS n (c.data.toList, r.data.toList))), he, by rw [bs_size]; omega, ?_, hb⟩
 show bs _ ++ _ = _
 rw [show lineS (n : Int) c.data.toList r.data.toList = lnS n (c.data.toList, r.data.toList) from (lnS_def n (c.data.toList, r.data.toList)).symm]
 unfold lnS
 exact ByteArray.ext (by simp [bs])
set_option maxHeartbeats 1000000 in
theorem EncodeRecord_c (k : Int) (c r : ByteArray) (w : World) (hc : c.size ≤ 1048576) (hr : r.size ≤ 1048576) (ht : Tab w) : Calls Tryz.prog 106 #[.int .i64 k, recV c r] w (EncPost k c r w) := by
 have HRV := hid (IsValidRecord_c c r)
 unfold recV at *
 rcases h1 : inB k 0 59 with _ | _
 · have HR := hid (encR_k (c := c) (r := r) h1)
   have H1 := hid h1; clear h1 ht
   go_enter Tryz.func106, Tryz.ntmps106
   go_wp2_with fail
   refine (within_c _ _ _ _).mono ?_
   rintro e w2 ⟨rfl, rfl⟩
   rw [H1.out]
   go_wp2
   go_ret2
   exact ⟨by rw [HR.out]; rfl, by exact qBl⟩
 · rcases h2 : recB c r with _ | _
   · have HR := hid (encR_r (k := k) h2)
     have H1 := hid h1; have H2 := hid h2; clear h1 h2 ht
     go_enter Tryz.func106, Tryz.ntmps106
     go_wp2_with fail
     refine (within_c _ _ _ _).mono ?_
     rintro e w2 ⟨rfl, rfl⟩
     rw [H1.out]
     go_wp2_with fail
     refine (HRV.out _ (by omega) (by omega)).mono ?_
     rintro e w2 ⟨rfl, hb2⟩
     rw [H2.out]
     go_wp2
     go_ret2
     exact ⟨by rw [HR.out]; rfl, by exact qBl⟩
   · have HR := hid (encR_y h1 h2)
     obtain ⟨n, rfl⟩ : ∃ n : Nat, k = (n : Int) := ⟨k.toNat, by unfold inB at h1; simp at h1; omega⟩
     have hn : n < 60 := by unfold inB at h1; simp at h1; omega
     have HA := hid (AppBody_c n hn c r h2)
     have HI := hid (ItoaS_c n hn)
     have hsz : (bs (Lib.itoa (n : Int))).size ≤ 20 := by rw [bs_size]; exact itoa_len (by omega) (by omega)
     have H1 := hid h1; have H2 := hid h2; clear h1 h2
     generalize bs (Lib.itoa (n : Int)) = D at *
     have HT := hid ht; clear ht
     go_enter Tryz.func106, Tryz.ntmps106
     go_wp2_with fail
     refine (within_c _ _ _ _).mono ?_
     rintro e w2 ⟨rfl, rfl⟩
     rw [H1.out]
     go_wp2_with fail
     refine (HRV.out _ (by omega) (by omega)).mono ?_
     rintro e w2 ⟨rfl, hb2⟩
     rw [H2.out]
     have hcell := cell_later (a := ⟨w.heap.size, 0, none⟩) (v := .string c) hb2 (new_cell w _ _ 0 _ rfl)
     have hcell2 := cell_later (a := ⟨w.heap.size, 1, none⟩) (v := .string r) hb2 (new_cell w _ _ 1 _ rfl)
     have HB := hid (show Below w.heap.size w w2 by exact qBl)
     have HT2 := hid ((HT.out.on HB.out).on (Below.refl _ _).drew)
     clear hb2
     go_wp2_with fail
     have hs1 : ¬ (9223372036854775807 < D.size + 1) := by omega
     have hs2 : ¬ (9223372036854775807 < D.size + 1 + c.size) := by omega
     have hs3 : ¬ (9223372036854775807 < D.size + 1 + c.size + 1) := by omega
     have hs4 : ¬ (9223372036854775807 < D.size + 1 + c.size + 1 + r.size) := by omega
     have ht1 : ¬ (9223372036854775807 ≤ D.size) := by omega
     have ht3 : ¬ (9223372036854775807 ≤ D.size + 1 + c.size) := by omega
     go_region_held3 (fun w' => w'.cell? ⟨w.heap.size, 0, none⟩ = some (.string c) ∧ w'.cell? ⟨w.heap.size, 1, none⟩ = some (.string r)) (first | go_keep | (go_split_ands; exact ⟨cell_later hb4 ‹_›, cell_later hb4 ‹_›⟩))
      (first | (go_at_call 116; refine (HI.out _).mono ?_; rintro e wa ⟨rfl, rfl⟩) | (go_at_call 157; refine (HA.out _ HT2.out).mono ?_; rintro e wb ⟨S, rfl, hS1, HS2, hb4⟩))
     go_wp2
     go_ret2
     exact ⟨by rw [HR.out, ← HS2.out]; rfl, Below.chain HB.out.drew hb4⟩
theorem indexByte_hit {a b : Bs} {c : UInt8} (h : c ∉ a) : Lib.indexByte (a ++ c :: b) c = a.length := by
 induction a with
 | nil => simp [Lib.indexByte]
 | cons x t ih =>
  simp only [List.mem_cons, not_or] at h
  have hx : (x == c) = false := by simp; exact fun e => h.1 e.symm
  simp only [List.cons_append, Lib.indexByte, hx, ih h.2]
  have : ((t.length : Int) == -1) = false := by simp
  simp [this]
theorem indexByte_miss {s : Bs} {c : UInt8} (h : c ∉ s) : Lib.indexByte s c = -1 := by
 induction s with
 | nil => rfl
 | cons x t ih =>
  simp only [List.mem_cons, not_or] at h
  have hx : (x == c) = false := by simp; exact fun e => h.1 e.symm
  simp [Lib.indexByte, hx, ih h.2]
theorem first_at (s : Bs) (c : UInt8) : (∃ a b, s = a ++ c :: b ∧ c ∉ a) ∨ c ∉ s := by
 induction s with
 | nil => right; simp
 | cons x t ih =>
  by_cases hx : x = c
  · subst hx; exact .inl ⟨[], t, rfl, by simp⟩
  · rcases ih with ⟨a, b, rfl, h⟩ | h
    · exact .inl ⟨x :: a, b, rfl, by simp; exact ⟨fun e => hx e.symm, h⟩⟩
    · right; simp; exact ⟨fun e => hx e.symm, h⟩
theorem occ_one (s : Bs) (c : UInt8) (i : Nat) : Lib.occAt s [c] i = true ↔ s[i]? = some c := by
 unfold Lib.occAt
 rw [← List.head?_drop]
 cases s.drop i with
 | nil => simp
 | cons x t => simp [List.isPrefixOf]; exact eq_comm
theorem lastIdx_any (s : Bs) (c : UInt8) : Lib.lastIndex s [c] = -1 ∨ ∃ i : Nat, i < s.length ∧ Lib.lastIndex s [c] = i := by
 unfold Lib.lastIndex
 split
 · rename_i h
   simp at h
   rcases Lib.lastOcc_spec s [c] (s.length - [c].length + 1) with h1 | ⟨i, h1, h2, _⟩
   · exact .inl h1.1
   · exact .inr ⟨i, by simp at h1; omega, h2⟩
 · exact .inl rfl
theorem lastIdx_hit {a b : Bs} {c : UInt8} (h : c ∉ b) : Lib.lastIndex (a ++ c :: b) [c] = a.length := by
 unfold Lib.lastIndex
 rw [if_pos (by simp; omega)]
 have hat : (a ++ c :: b)[a.length]? = some c := by simp
 rcases Lib.lastOcc_spec (a ++ c :: b) [c] ((a ++ c :: b).length - [c].length + 1) with ⟨_, h1⟩ | ⟨i, h1, h2, h3, h4⟩
 · have := h1 a.length (by simp; omega)
   rw [(occ_one _ _ _).2 hat] at this; cases this
 · rw [h2]
   rw [occ_one] at h3
   have hi : i = a.length := by
    rcases Nat.lt_trichotomy i a.length with hlt | he | hgt
    · have := h4 a.length hlt (by simp; omega)
      rw [(occ_one _ _ _).2 hat] at this; cases this
    · exact he
    · exfalso
      obtain ⟨j, rfl⟩ : ∃ j, i = a.length + 1 + j := ⟨i - (a.length + 1), by omega⟩
      rw [List.getElem?_append_right (by omega), show a.length + 1 + j - a.length = j + 1 by omega, List.getElem?_cons_succ] at h3
      exact h (List.mem_of_getElem? h3)
   rw [hi]
theorem trim_hit (a : Bs) : Lib.trimSuffix (a ++ [10]) [10] = a := by
 unfold Lib.trimSuffix Lib.hasSuffix
 rw [if_pos (by rw [List.isSuffixOf_iff_suffix]; exact List.suffix_append _ _)]
 simp
theorem trim_len (s p : Bs) : (Lib.trimSuffix s p).length ≤ s.length := by
 unfold Lib.trimSuffix; split
 · simp
 · exact Nat.le_refl _
theorem suffix_iff (s : Bs) : Lib.hasSuffix s [10] = true ↔ ∃ t, s = t ++ [10] := by
 unfold Lib.hasSuffix
 rw [List.isSuffixOf_iff_suffix]
 exact ⟨fun ⟨t, h⟩ => ⟨t, h.symm⟩, fun ⟨t, h⟩ => ⟨t, h.symm⟩⟩
theorem seal_last (u : Bs) : Lib.lastIndex (sealS u) [35] = u.length := by
 unfold sealS
 exact lastIdx_hit (not_mem_of_digit (itoa_digit (ckS_bd _).1) (by decide))
theorem itoa_no32 {k : Nat} : (32 : UInt8) ∉ Lib.itoa (k : Int) := not_mem_of_digit (itoa_digit (by omega)) (by decide)
def First (l r : Bs) : Prop := (∃ p, l = p ++ [10] ∧ (10 : UInt8) ∉ p) ∨ ((10 : UInt8) ∉ l ∧ r = [])
theorem First.begins {l r : Bs} {k : Nat} {e : Bs × Bs} (h : First l r) (hb : Begins k (l ++ r) e) : l = lnS k e := by
 obtain ⟨ok, x, hx⟩ := hb
 rcases h with ⟨p, rfl, hp⟩ | ⟨hl, rfl⟩
 · unfold lnS at hx ⊢
   rw [List.append_assoc, List.append_assoc] at hx
   rw [(part_inj hp (sealS_no10 ok) hx).1]
 · rw [List.append_nil] at hx
   exact absurd (by rw [hx]; unfold lnS; simp) hl
theorem bs_eq {s : ByteArray} {l : List UInt8} (h : s.data.toList = l) : s = bs l := by rw [← h, bs_of]
theorem ext_to {s : ByteArray} {a b : List UInt8} (h : s.data.toList = a ++ b) : s.extract 0 a.length = bs a := bs_eq (by rw [Lib.extract_data, h]; simp)
theorem ext_from {s : ByteArray} {a b : List UInt8} {c : UInt8} (h : s.data.toList = a ++ c :: b) : s.extract (a.length + 1) s.size = bs b := bs_eq (by rw [Lib.extract_data, h]; rw [← ba_len, h]; simp; exact List.take_of_length_le (by omega))
theorem str_eq {a b : ByteArray} (h : a = b) : (a.toList == b.toList) = true := by rw [h]; simp
theorem str_ne {a b : ByteArray} (h : a ≠ b) : (a.toList == b.toList) = false := by
 rw [Lib.toList_data, Lib.toList_data]
 simp only [beq_eq_false_iff_ne, ne_eq]
 exact fun e => h (by rw [← bs_of a, e, bs_of])
def CutOut (s : ByteArray) (c : UInt8) (w : World) (e : Ending) (w' : World) : Prop :=
 ∃ a b f, e = .returned (.tuple #[.string a, .string b, .bool f]) ∧ a.size ≤ s.size ∧ b.size ≤ s.size ∧ Hid (∀ x y : List UInt8, c ∉ x → s.data.toList = x ++ c :: y → a = bs x ∧ b = bs y) ∧ Below w.heap.size w w'
set_option maxHeartbeats 1000000 in
theorem CutL_c (s : ByteArray) (c : UInt8) (w : World) (hs : s.size ≤ 1073741824) : Calls Tryz.prog 265 #[.string s, .string ⟨#[c]⟩] w (CutOut s c w) := by
 rcases first_at s.data.toList c with ⟨a, b, hab, hc⟩ | hc
 · have HX := hid (indexByte_hit (b := b) hc)
   have hlen : a.length + 1 + b.length = s.size := by rw [← ba_len, hab]; simp; omega
   have H1 := hid (ext_to hab)
   have H2 := hid (ext_from hab)
   have HAB := hid hab
   have HC := hid hc
   have hla : a.length ≤ s.size := by omega
   have hlb : a.length + 1 ≤ s.size := by omega
   generalize hn : a.length = n at *
   have hp0 : (0 : Int) ≤ (n : Int) := by omega
   have hp1 : (n : Int) ≤ (s.size : Int) := by omega
   have hp2 : (n : Int) + 1 ≤ (s.size : Int) := by omega
   have hw : IntKind.i64.wrap ((n : Int) + 1) = (n : Int) + 1 := IntWalk.i64_in _ (by omega)
   have HN := hid hn
   have HL := hid hlen
   clear hab hc hn hlen
   go_enter Tryz.func265, Tryz.ntmps265
   go_wp2_with fail
   refine (Tryz.stringslite_Index_one s c _).mono ?_
   rintro e w2 ⟨rfl, rfl⟩
   rw [HAB.out, HX.out]
   go_wp2
   go_quiet (fail)
   go_wp2
   go_ret3
   refine ⟨_, _, _, rfl, ?_, ?_, ?_, by exact qBl⟩
   · rw [H1.out, bs_size]; have := HN.out; omega
   · rw [H2.out, bs_size]; have := HL.out; omega
   · intro x y hx hxy
     obtain ⟨h1, h2⟩ := part_inj HC.out hx (HAB.out.symm.trans hxy)
     rw [H1.out, H2.out, h1, h2]; exact ⟨rfl, rfl⟩
 · have HX := hid (indexByte_miss hc)
   have HC := hid hc
   clear hc
   go_enter Tryz.func265, Tryz.ntmps265
   go_wp2_with fail
   refine (Tryz.stringslite_Index_one s c _).mono ?_
   rintro e w2 ⟨rfl, rfl⟩
   rw [HX.out]
   go_wp2
   go_ret3
   refine ⟨_, _, _, rfl, Nat.le_refl _, by show (0 : Nat) ≤ _; omega, ?_, by exact qBl⟩
   intro x y hx hxy
   exact absurd (by rw [hxy]; simp) HC.out
theorem Cut_c (s : ByteArray) (c : UInt8) (w : World) (hs : s.size ≤ 1073741824) : Calls Tryz.prog 217 #[.string s, .string ⟨#[c]⟩] w (CutOut s c w) := by
 have HC := hid (CutL_c s c)
 go_enter Tryz.func217, Tryz.ntmps217
 go_wp2_with fail
 refine (HC.out _ hs).mono ?_
 rintro e w2 ⟨a, b, f, rfl, h1, h2, h3, h4⟩
 go_wp2
 go_ret3
 exact ⟨a, b, f, rfl, h1, h2, h3, h4⟩
def VerOut (s : ByteArray) (w : World) (e : Ending) (w' : World) : Prop :=
 ∃ t ok, e = .returned (.tuple #[.string t, .bool ok]) ∧ t.size ≤ s.size ∧ Hid (∀ u : List UInt8, (35 : UInt8) ∉ u → u.length ≤ 3000 → s.data.toList = sealS u → t = bs u ∧ ok = true) ∧ Below w.heap.size w w'
set_option maxHeartbeats 1000000 in
theorem VerifyChecksum_c (s : ByteArray) (w : World) (hs : s.size ≤ 1073741824) (ht : Tab w) : Calls Tryz.prog 215 #[.string s] w (VerOut s w) := by
 rcases lastIdx_any s.data.toList 35 with h | ⟨i, hi, h⟩
 · have HX := hid h
   clear h ht
   go_enter Tryz.func215, Tryz.ntmps215
   go_wp2_with fail
   refine (Tryz.strings_LastIndex s ⟨#[35]⟩ (by omega) _).mono ?_
   rintro e w2 ⟨rfl, rfl⟩
   rw [HX.out]
   go_wp2
   go_ret2
   refine ⟨_, _, rfl, by show (0 : Nat) ≤ _; omega, ?_, by exact qBl⟩
   intro u hu hl hxy
   have := HX.out
   rw [hxy, seal_last] at this
   omega
 · rw [ba_len] at hi
   have hT := hid (show (s.extract 0 i).data.toList = s.data.toList.take i by rw [Lib.extract_data]; simp)
   have hsz : (s.extract 0 i).size = i := by rw [← ba_len, hT.out]; simp; omega
   have HSZ := hid hsz
   have HA := hid (fun w => AppendChecksum_c (s.extract 0 i) w (by omega))
   have HX := hid h
   have HT := hid ht
   clear h ht hsz
   have hp1 : (i : Int) ≤ (s.size : Int) := by omega
   go_enter Tryz.func215, Tryz.ntmps215
   go_wp2_with fail
   refine (Tryz.strings_LastIndex s ⟨#[35]⟩ (by omega) _).mono ?_
   rintro e w2 ⟨rfl, rfl⟩
   rw [HX.out]
   go_wp2_with fail
   refine (HA.out _ HT.out).mono ?_
   rintro e w2 ⟨rfl, hb2⟩
   generalize hR : appR (s.extract 0 i).data.toList = R
   have HR := hid hR
   clear hR
   obtain ⟨out, ok⟩ := R
   have HU : Hid (∀ u : List UInt8, (35 : UInt8) ∉ u → u.length ≤ 3000 → s.data.toList = sealS u → s.extract 0 i = bs u ∧ ok = true ∧ bs out = s) := by
    intro u hu hl hxy
    have h1 := HX.out
    rw [hxy, seal_last] at h1
    have h1 : i = u.length := by omega
    have h2 : (s.extract 0 i).data.toList = u := by rw [hT.out, hxy, h1]; unfold sealS; simp
    have h3 := HR.out
    rw [h2, appR_yes ⟨by omega, hu, by have := sealS_len u; omega⟩] at h3
    injection h3 with h3 h4
    exact ⟨bs_eq h2, h4.symm, by rw [← h3, ← hxy, bs_of]⟩
   cases ok with
   | false =>
    go_wp2
    go_ret2
    refine ⟨_, _, rfl, by show (0 : Nat) ≤ _; omega, ?_, hb2⟩
    intro u hu hl hxy
    cases (HU.out u hu hl hxy).2.1
   | true =>
    by_cases hq : bs out = s
    · have hne := str_eq hq
      clear hq
      go_wp2
      go_ret2
      refine ⟨_, _, rfl, by rw [HSZ.out]; omega, ?_, hb2⟩
      intro u hu hl hxy
      exact ⟨(HU.out u hu hl hxy).1, rfl⟩
    · have hne := str_ne hq
      have HQ := hid hq
      clear hq
      go_wp2
      go_ret2
      refine ⟨_, _, rfl, by show (0 : Nat) ≤ _; omega, ?_, hb2⟩
      intro u hu hl hxy
      exact absurd (HU.out u hu hl hxy).2.2 HQ.out
def DecOut (k : Nat) (line : ByteArray) (w : World) (e : Ending) (w' : World) : Prop :=
 ∃ c r ok, e = .returned (.tuple #[recV c r, .bool ok]) ∧ c.size ≤ line.size ∧ r.size ≤ line.size ∧
  Hid (ok = true → OkE (c.data.toList, r.data.toList) ∧ k < 60 ∧ line.data.toList = lnS k (c.data.toList, r.data.toList)) ∧
  Hid (ok = false → k < 60 → ∀ e, OkE e → line.data.toList ≠ lnS k e) ∧ Below w.heap.size w w'
theorem dec_true {k : Nat} {c r line : ByteArray} (h1 : (encR (k : Int) c r).2 = true) (h2 : bs (encR (k : Int) c r).1 = line) : OkE (c.data.toList, r.data.toList) ∧ k < 60 ∧ line.data.toList = lnS k (c.data.toList, r.data.toList) := by
 unfold encR at h1 h2
 split at h1
 · rename_i h
   rw [if_pos h] at h2
   refine ⟨recB_iff.1 h.2.2, by omega, ?_⟩
   rw [← h2, bs_list, lnS_def]
 · cases h1
theorem enc_of {k : Nat} {e : Bs × Bs} (h : OkE e) (hk : k < 60) : encR (k : Int) (bs e.1) (bs e.2) = (lnS k e, true) := by
 have hr : recB (bs e.1) (bs e.2) = true := recB_iff.2 (by rw [bs_list, bs_list]; exact h)
 unfold encR
 rw [if_pos ⟨by omega, by omega, hr⟩, bs_list, bs_list, lnS_def]
theorem dec_parts {k : Nat} {e : Bs × Bs} {line t a1 b1 c r : ByteArray} {ok1 : Bool} (he : OkE e) (hk : k < 60) (hl : line.data.toList = lnS k e)
 (HV : ∀ u : List UInt8, (35 : UInt8) ∉ u → u.length ≤ 3000 → (bs (Lib.trimSuffix line.data.toList [10])).data.toList = sealS u → t = bs u ∧ ok1 = true)
 (HC1 : ∀ x y : List UInt8, (32 : UInt8) ∉ x → t.data.toList = x ++ 32 :: y → a1 = bs x ∧ b1 = bs y)
 (HC2 : ∀ x y : List UInt8, (64 : UInt8) ∉ x → b1.data.toList = x ++ 64 :: y → c = bs x ∧ r = bs y) :
 ok1 = true ∧ (encR (k : Int) c r).2 = true ∧ bs (encR (k : Int) c r).1 = line := by
 have hb := bodyS_len he hk
 obtain ⟨rfl, h1⟩ := HV (bodyS k e) (bodyS_no he (.inl rfl)) (by omega) (by rw [bs_list, hl]; unfold lnS; exact trim_hit _)
 obtain ⟨_, rfl⟩ := HC1 (Lib.itoa (k : Int)) (e.1 ++ 64 :: e.2) itoa_no32 (by rw [bs_list]; rfl)
 obtain ⟨rfl, rfl⟩ := HC2 e.1 e.2 he.at_ (by rw [bs_list])
 rw [enc_of he hk]
 exact ⟨h1, rfl, by show bs (lnS k e) = line; rw [← hl, bs_of]⟩
theorem Trim_c (s : ByteArray) (w : World) (hs : s.size ≤ 1073741824) : Calls Tryz.prog 216 #[.string s, .string ⟨#[10]⟩] w fun e w' => e = .returned (.string (bs (Lib.trimSuffix s.data.toList [10]))) ∧ w = w' :=
 (Tryz.strings_TrimSuffix s ⟨#[10]⟩ w (by omega)).mono fun e w' h => ⟨h.1, h.2.symm⟩
set_option maxHeartbeats 2000000 in
theorem decodeRecord_c (k : Nat) (hk : k ≤ 60) (line : ByteArray) (w : World) (hs : line.size ≤ 1048576) (ht : Tab w) : Calls Tryz.prog 167 #[.int .i64 (k : Int), .string line] w (DecOut k line w) := by
 have hsz : (bs (Lib.trimSuffix line.data.toList [10])).size ≤ line.size := by rw [bs_size]; have := trim_len line.data.toList [10]; rw [ba_len] at this; exact this
 have HS := hid (Trim_c line)
 have HV := hid (VerifyChecksum_c (bs (Lib.trimSuffix line.data.toList [10])))
 have HP := hid (fun e t a1 b1 c r ok1 => @dec_parts k e line t a1 b1 c r ok1)
 generalize bs (Lib.trimSuffix line.data.toList [10]) = s1 at *
 have HT := hid ht
 clear ht
 go_enter Tryz.func167, Tryz.ntmps167
 go_wp2_with fail
 refine (HS.out _ (by omega)).mono ?_
 rintro e w2 ⟨rfl, rfl⟩
 have B0 := hid (Bk.new w 76 #[.string ⟨#[]⟩, .string ⟨#[]⟩])
 have hb0 := hid (below_one (w := w) (.cells #[.string ⟨#[]⟩, .string ⟨#[]⟩] 76))
 go_wp2_with fail
 refine (HV.out _ (by omega) (HT.out.on hb0.out)).mono ?_
 rintro e w2 ⟨t, ok1, rfl, ht, HV1, hb2⟩
 have B1 := hid (B0.out.below hb2)
 have hb1 := hid (Below.chain hb0.out hb2)
 clear B0 hb0 hb2
 go_wp2_with fail
 refine (Cut_c t 32 _ (by omega)).mono ?_
 rintro e w3 ⟨a1, b1, f1, rfl, ha1, hb1s, HC1, hb2⟩
 have B0 := hid (B1.out.below hb2)
 have hb0 := hid (Below.chain hb1.out hb2)
 clear B1 hb1 hb2
 go_wp2_with fail
 refine (Cut_c b1 64 _ (by omega)).mono ?_
 rintro e w4 ⟨c, r, f2, rfl, hcs, hrs, HC2, hb2⟩
 have HQ : Hid (∀ e : Bs × Bs, OkE e → k < 60 → line.data.toList = lnS k e → ok1 = true ∧ (encR (k : Int) c r).2 = true ∧ bs (encR (k : Int) c r).1 = line) :=
  fun e he hk2 hl => HP.out e t a1 b1 c r ok1 he hk2 hl HV1.out HC1.out HC2.out
 clear HV1 HC1 HC2 HP HV HS
 have B1 := hid (B0.out.below hb2)
 have hb1 := hid (Below.chain hb0.out hb2)
 clear B0 hb0 hb2
 have HD := hid (@dec_true k c r line)
 have HE := hid (fun w => EncodeRecord_c (k : Int) c r w (by omega) (by omega))
 unfold recV at HE
 have B0 := hid (B1.out.alloc (.cells #[.string c, .string r] 76))
 have C0 := hid (Bk.new w4 76 #[.string c, .string r])
 have hb0 := hid (Below.alc hb1.out (.cells #[.string c, .string r] 76))
 clear B1 hb1
 go_wp2_with fail
 refine (HE.out _ (HT.out.on hb0.out)).mono ?_
 rintro e w5 ⟨rfl, hb2⟩
 have B1 := B0.out.below hb2
 have C1 := C0.out.below hb2
 have q0 : w5.cell? ⟨w4.heap.size, 0, none⟩ = some (.string c) := C1.cell 0
 have q1 : w5.cell? ⟨w4.heap.size, 1, none⟩ = some (.string r) := C1.cell 1
 have z0 : w5.cell? ⟨w.heap.size, 0, none⟩ = some (.string ⟨#[]⟩) := B1.cell 0
 have z1 : w5.cell? ⟨w.heap.size, 1, none⟩ = some (.string ⟨#[]⟩) := B1.cell 1
 have f0 : w5.frozen? ⟨w.heap.size, 0, none⟩ = false := B1.frozen 0
 have f1 : w5.frozen? ⟨w.heap.size, 1, none⟩ = false := B1.frozen 1
 have hb1 := hid (Below.chain hb0.out hb2)
 clear B0 hb0 hb2 B1 C0 C1 HE
 have HDX := HD; have HQX := HQ
 generalize encR (k : Int) c r = R at *
 obtain ⟨X, fine⟩ := R
 clear HD HQ
 have fin : ∀ (ok : Bool) (w' : World), Hid (ok = true → ok1 = true ∧ fine = true ∧ bs X = line) → Hid (ok = false → ¬ (ok1 = true ∧ fine = true ∧ bs X = line)) → Below w.heap.size w w' →
  DecOut k line w (.returned (.tuple #[.agg #[.string c, .string r], .bool ok])) w' := fun ok w' h1 h2 h3 =>
  ⟨c, r, ok, rfl, by omega, by omega, fun h => HDX.out (h1.out h).2.1 (h1.out h).2.2, fun h hk2 e he hl => h2.out h (HQX.out e he hk2 hl), h3⟩
 have FIN := hid fin
 clear fin HDX HQX
 cases ok1 with
 | false =>
  go_wp2
  exact bodyPost_ret (v := .tuple #[.agg #[.string c, .string r], .bool false]) (by simp [results, Tryz.results167, go_sem, z0, z1]) rfl (FIN.out false _ (fun h => by cases h) (fun _ h => by cases h.1) (by have hb := hb1.out; exact (hb.setCell (p := ⟨w.heap.size, 0, none⟩) (Nat.le_refl _) _).setCell (p := ⟨w.heap.size, 1, none⟩) (Nat.le_refl _) _))
 | true =>
  cases fine with
  | false =>
   go_wp2
   exact bodyPost_ret (v := .tuple #[.agg #[.string c, .string r], .bool false]) (by simp [results, Tryz.results167, go_sem, z0, z1]) rfl (FIN.out false _ (fun h => by cases h) (fun _ h => by cases h.2.1) (by have hb := hb1.out; exact (hb.setCell (p := ⟨w.heap.size, 0, none⟩) (Nat.le_refl _) _).setCell (p := ⟨w.heap.size, 1, none⟩) (Nat.le_refl _) _))
  | true =>
   by_cases hq : bs X = line
   · have hqe := str_eq hq
     have HQ := hid hq
     clear hq
     go_wp2
     exact bodyPost_ret (v := .tuple #[.agg #[.string c, .string r], .bool true]) (by simp [results, Tryz.results167, go_sem, z0, z1]) rfl (FIN.out true _ (fun _ => by simp [HQ.out]) (fun h => by cases h) (by have hb := hb1.out; exact (hb.setCell (p := ⟨w.heap.size, 0, none⟩) (Nat.le_refl _) _).setCell (p := ⟨w.heap.size, 1, none⟩) (Nat.le_refl _) _))
   · have hqe := str_ne hq
     have HQ := hid hq
     clear hq
     go_wp2
     exact bodyPost_ret (v := .tuple #[.agg #[.string c, .string r], .bool false]) (by simp [results, Tryz.results167, go_sem, z0, z1]) rfl (FIN.out false _ (fun h => by cases h) (fun _ h => HQ.out h.2.2) (by have hb := hb1.out; exact (hb.setCell (p := ⟨w.heap.size, 0, none⟩) (Nat.le_refl _) _).setCell (p := ⟨w.heap.size, 1, none⟩) (Nat.le_refl _) _))
def splStep (c : UInt8) (st : List Bs × Bs) (x : UInt8) : List Bs × Bs := if x = c then (st.1 ++ [st.2], []) else (st.1, st.2 ++ [x])
def splSt (c : UInt8) (s : Bs) : List Bs × Bs := s.foldl (splStep c) ([], [])
def splitS (c : UInt8) (s : Bs) : List Bs := (splSt c s).1 ++ [(splSt c s).2]
theorem splSt_snoc (c : UInt8) (s : Bs) (x : UInt8) : splSt c (s ++ [x]) = splStep c (splSt c s) x := by unfold splSt; rw [List.foldl_append]; rfl
theorem splSt_cur (c : UInt8) (s : Bs) : ∃ p, s = p ++ (splSt c s).2 ∧ (splSt c s).1.length ≤ p.length := by
 refine snocB (M := fun s => ∃ p, s = p ++ (splSt c s).2 ∧ (splSt c s).1.length ≤ p.length) ⟨[], rfl, Nat.le_refl _⟩ (fun l x ih => ?_) s
 obtain ⟨p, h1, h2⟩ := ih
 rw [splSt_snoc]; unfold splStep
 split
 · exact ⟨l ++ [x], by simp, by simp; have := congrArg List.length h1; simp at this; omega⟩
 · refine ⟨p, ?_, h2⟩
   show l ++ [x] = p ++ ((splSt c l).2 ++ [x])
   rw [← List.append_assoc, ← h1]
theorem splSt_none {c : UInt8} {s : Bs} (h : c ∉ s) : splSt c s = ([], s) := by
 refine snocB (M := fun s => c ∉ s → splSt c s = ([], s)) (fun _ => rfl) (fun l x ih h => ?_) s h
 simp only [List.mem_append, List.mem_singleton, not_or] at h
 rw [splSt_snoc, ih h.1]
 unfold splStep
 rw [if_neg (fun e => h.2 e.symm)]
theorem splSt_grow (c : UInt8) (st : List Bs × Bs) (s : Bs) : ∃ l, (s.foldl (splStep c) st).1 = st.1 ++ l := by
 induction s generalizing st with
 | nil => exact ⟨[], by simp⟩
 | cons x t ih =>
  simp only [List.foldl_cons]
  obtain ⟨l, hl⟩ := ih (splStep c st x)
  rw [hl]; unfold splStep; split
  · exact ⟨[st.2] ++ l, by simp⟩
  · exact ⟨l, rfl⟩
theorem split_hit {c : UInt8} {a b : Bs} (h : c ∉ a) : ∃ q l, splitS c (a ++ c :: b) = a :: q :: l := by
 have h1 : splSt c (a ++ c :: b) = b.foldl (splStep c) ([a], []) := by
  have : splSt c (a ++ c :: b) = (c :: b).foldl (splStep c) (splSt c a) := by unfold splSt; rw [List.foldl_append]
  rw [this, splSt_none h]
  simp [splStep]
 obtain ⟨l, hl⟩ := splSt_grow c ([a], []) b
 unfold splitS
 rw [h1, hl]
 cases l with
 | nil => exact ⟨_, [], rfl⟩
 | cons q l => exact ⟨q, _, rfl⟩
theorem split_miss {c : UInt8} {s : Bs} (h : c ∉ s) : splitS c s = [s] := by unfold splitS; rw [splSt_none h]; rfl
theorem split_take {c : UInt8} {s : ByteArray} {k : Nat} (hk : k < s.size) : splSt c (s.data.toList.take (k + 1)) = splStep c (splSt c (s.data.toList.take k)) s[k] := by
 rw [List.take_succ_eq_append_getElem (by rw [ba_len]; exact hk), splSt_snoc, ba_at hk]
theorem split_ext {c : UInt8} {s : ByteArray} {k : Nat} (hk : k ≤ s.size) : (splSt c (s.data.toList.take k)).2.length ≤ k ∧ (splSt c (s.data.toList.take k)).1.length ≤ k ∧ s.extract (k - (splSt c (s.data.toList.take k)).2.length) k = bs (splSt c (s.data.toList.take k)).2 := by
 obtain ⟨p, h1, h2⟩ := splSt_cur c (s.data.toList.take k)
 have hl : (s.data.toList.take k).length = k := by rw [List.length_take, ba_len]; omega
 have h3 := congrArg List.length h1
 rw [hl, List.length_append] at h3
 refine ⟨by omega, by omega, bs_eq ?_⟩
 rw [Lib.extract_data, List.take_drop]
 generalize (splSt c (s.data.toList.take k)).2 = cur at *
 rw [show k - cur.length + (k - (k - cur.length)) = k by omega, h1, show k - cur.length = p.length by omega, List.drop_left]
theorem info_string : (Tryz.prog.info? 9).map (fun i => (i.zero, i.size, i.bytes)) = some (some (.string ⟨#[]⟩), 1, 16) := by kernel_rfl
def strV (b : Bs) : Value := .string (bs b)
def SplOut (c : UInt8) (l : Bs) (w : World) (e : Ending) (w' : World) : Prop := ∃ v, e = .returned v ∧ w'.ownsRow w.heap.size 9 1 v (splitS c l).length ((splitS c l).map strV) ∧ Below w.heap.size w w'
set_option maxHeartbeats 4000000 in
theorem l1Split_c (s : ByteArray) (c : UInt8) (w : World) (hs : s.size ≤ 1073741824) : Calls Tryz.prog 76 #[.string s, .int .u8 (c.toNat : Int)] w (SplOut c s.data.toList w) := by
 obtain ⟨i0, hi, hz0, hz1, hz2⟩ := info_parts info_string
 have ho0 := World.ownsRow_lit (e := 9) (size := 1) (base := w.heap.size) w #[] 0 (by simp) (by decide) rfl
 go_enter Tryz.func76, Tryz.ntmps76
 go_wp2
 go_loopw [5, 6, 7] (fun out fr i wr => ∃ k : Nat, k ≤ s.size ∧ i = .int .i64 (k : Int) ∧ fr = .int .i64 (((k - (splSt c (s.data.toList.take k)).2.length : Nat)) : Int) ∧ wr.ownsRow w.heap.size 9 1 out (splSt c (s.data.toList.take k)).1.length ((splSt c (s.data.toList.take k)).1.map strV) ∧ Below w.heap.size w wr) (fun _ _ i _ => s.size - (intOf i).toNat)
 case atStart => exact ⟨0, by omega, rfl, rfl, by simpa [splSt] using ho0, below_one _⟩
 case round =>
  obtain ⟨k, hk, rfl, rfl, ho, hB⟩ := hrel
  clear ho0
  obtain ⟨e1, e2, e3⟩ := split_ext (c := c) hk
  by_cases hlt : k < s.size
  · have hd : decide ((k : Int) < (s.size : Int)) = true := by simp; omega
    have HT := hid (split_take (c := c) hlt)
    generalize splSt c (s.data.toList.take k) = st at *
    obtain ⟨ps, cur⟩ := st
    dsimp only at e1 e2 e3 ho
    have HE := hid e3
    clear e3
    by_cases hc : s[k] = c
    · have hq : decide (((s[k].toNat : Nat) : Int) = ((c.toNat : Nat) : Int)) = true := by rw [hc]; simp
      have hq2 : (((s[k].toNat : Nat) : Int) == ((c.toNat : Nat) : Int)) = true := by rw [hc]; simp
      have HS : Hid (splSt c (s.data.toList.take (k + 1)) = (ps ++ [cur], [])) := by rw [HT.out]; unfold splStep; rw [if_pos hc]; exact rfl
      have hf0 : (0 : Int) ≤ ((k - cur.length : Nat) : Int) := by omega
      have hf1 : ((k - cur.length : Nat) : Int) ≤ (k : Int) := by omega
      have hf2 : (k : Int) ≤ (s.size : Int) := by omega
      have hf3 : k - cur.length ≤ k := by omega
      clear hc HT
      generalize hfr : k - cur.length = fr at *
      have HFR := hid hfr
      clear hfr
      go_wp2_with (at_builtin; refine wpList_append_own_at _ rfl _ _ 48 rfl w.heap.size 9 i0 (.string ⟨#[]⟩) 1 16 Tryz.underlying48 hi hz0 hz1 hz2 rfl (by decide) _ ps.length (ps.map strV) rfl (ho.alloc _) ⟨wr.heap.size, 0, none⟩ 1 1 [.string (s.extract fr k)] rfl rfl (news_new _ [.string (s.extract fr k)] _) (by simp [Value.oneCell']) (by unfold maxLen; omega) (by omega) (by have := hB.size; simp; omega) ?_; intro v' w5 ho5 hg5 _ hat)
      have hb7 : Below w.heap.size w w5 := (Below.alc hB _).grown hg5 (by have := hB.size; simp; omega) (fun g hg => (ho.lt g hg).1)
      go_roundw
      case rel =>
       refine ⟨k + 1, by omega, by go_num, ?_, ?_, hb7⟩
       · rw [HS.out]; show Value.int .i64 _ = Value.int .i64 (((k + 1 - 0 : Nat)) : Int); go_num
       · rw [HS.out]
         have h5 := ho5
         rw [HE.out] at h5
         simpa [strV] using h5
      case measure => simp [intOf]; omega
    · have hne : s[k].toNat ≠ c.toNat := fun h => hc (UInt8.toNat_inj.1 h)
      have hq : decide (((s[k].toNat : Nat) : Int) = ((c.toNat : Nat) : Int)) = false := by simp; omega
      have hq2 : (((s[k].toNat : Nat) : Int) == ((c.toNat : Nat) : Int)) = false := by simp; omega
      have HS : Hid (splSt c (s.data.toList.take (k + 1)) = (ps, cur ++ [s[k]])) := by rw [HT.out]; unfold splStep; rw [if_neg hc]; exact rfl
      clear hc hne HT
      go_wp2
      go_roundw
      case rel =>
       refine ⟨k + 1, by omega, by go_num, ?_, ?_, hB⟩
       · rw [HS.out]; show Value.int .i64 _ = Value.int .i64 (((k + 1 - (cur ++ [s[k]]).length : Nat)) : Int); rw [List.length_append, List.length_singleton, show k + 1 - (cur.length + 1) = k - cur.length by omega]
       · rw [HS.out]; exact ho
      case measure => simp [intOf]; omega
  · obtain rfl : k = s.size := by omega
    have hall : s.data.toList.take s.size = s.data.toList := List.take_of_length_le (by rw [ba_len]; omega)
    have HS : Hid (splitS c s.data.toList = (splSt c (s.data.toList.take s.size)).1 ++ [(splSt c (s.data.toList.take s.size)).2]) := by rw [hall]; rfl
    clear hall
    generalize splSt c (s.data.toList.take s.size) = st at *
    obtain ⟨ps, cur⟩ := st
    dsimp only at e1 e2 e3 ho
    have HE := hid e3
    clear e3
    have hf0 : (0 : Int) ≤ ((s.size - cur.length : Nat) : Int) := by omega
    have hf1 : ((s.size - cur.length : Nat) : Int) ≤ (s.size : Int) := by omega
    have hf3 : s.size - cur.length ≤ s.size := by omega
    generalize hfr : s.size - cur.length = fr at *
    have HFR := hid hfr
    clear hfr
    go_wp2_with (at_builtin; refine wpList_append_own_at _ rfl _ _ 48 rfl w.heap.size 9 i0 (.string ⟨#[]⟩) 1 16 Tryz.underlying48 hi hz0 hz1 hz2 rfl (by decide) _ ps.length (ps.map strV) rfl (ho.alloc _) ⟨wr.heap.size, 0, none⟩ 1 1 [.string (s.extract fr s.size)] rfl rfl (news_new _ [.string (s.extract fr s.size)] _) (by simp [Value.oneCell']) (by unfold maxLen; omega) (by omega) (by have := hB.size; simp; omega) ?_; intro v' w5 ho5 hg5 _ hat)
    have hb7 : Below w.heap.size w w5 := (Below.alc hB _).grown hg5 (by have := hB.size; simp; omega) (fun g hg => (ho.lt g hg).1)
    go_ret
    refine ⟨v', rfl, ?_, hb7⟩
    rw [HS.out]
    have h5 := ho5
    rw [HE.out] at h5
    simpa [strV] using h5
set_option linter.unusedSimpArgs false
def stepD (n : Nat) (c : UInt8) : Nat := 10 * n + (c.toNat - 48)
def valD (l : Bs) : Nat := l.foldl stepD 0
theorem valD_snoc (l : Bs) (c : UInt8) : valD (l ++ [c]) = stepD (valD l) c := by unfold valD; rw [List.foldl_append]; rfl
theorem valD_dec : ∀ u : Nat, valD (Lib.decDigits u) = u := by
 intro u
 induction u using Nat.strongRecOn with
 | ind u ih =>
  rw [Lib.decDigits]
  split
  · rename_i h
    have : (UInt8.ofNat (48 + u)).toNat = 48 + u := by simp; omega
    show stepD 0 (UInt8.ofNat (48 + u)) = u
    unfold stepD; omega
  · rename_i h
    have : (UInt8.ofNat (48 + u % 10)).toNat = 48 + u % 10 := by simp; omega
    rw [valD_snoc, ih (u / 10) (by omega)]
    unfold stepD; omega
theorem valD_lt (l : Bs) (h : ∀ c ∈ l, 48 ≤ c.toNat ∧ c.toNat ≤ 57) : valD l < 10 ^ l.length := by
 refine snocB (M := fun l => (∀ c ∈ l, 48 ≤ c.toNat ∧ c.toNat ≤ 57) → valD l < 10 ^ l.length) (fun _ => by decide) (fun l x ih h => ?_) l h
 have h1 := ih (fun c hc => h c (by simp [hc]))
 have h2 := h x (by simp)
 rw [valD_snoc, List.length_append, List.length_cons, List.length_nil, Nat.pow_succ]
 unfold stepD; omega
theorem dec_len : ∀ (k u : Nat), u < 10 ^ (k + 1) → (Lib.decDigits u).length ≤ k + 1 := by
 intro k
 induction k with
 | zero => intro u h; rw [Lib.decDigits, dif_pos (by omega)]; simp
 | succ k ih =>
  intro u h
  rw [Lib.decDigits]
  split
  · simp
  · have := ih (u / 10) (by rw [Nat.pow_succ] at h; omega)
    rw [List.length_append]; simp; omega
theorem dec_ne (u : Nat) : Lib.decDigits u ≠ [] := by
 rw [Lib.decDigits]; split <;> simp
theorem parse_digits (l : Bs) (acc : Nat) (h : ∀ c ∈ l, 48 ≤ c.toNat ∧ c.toNat ≤ 57) (hb : acc * 10 ^ l.length + 10 ^ l.length ≤ 1000000000000) : Lib.parseUint10 acc l = .ok (l.foldl stepD acc) := by
 induction l generalizing acc with
 | nil => rfl
 | cons c t ih =>
  have hc := h c (by simp)
  simp only [List.length_cons, Nat.pow_succ] at hb
  have hp : 1 ≤ 10 ^ t.length := Nat.one_le_pow _ _ (by decide)
  have ha : acc * (10 ^ t.length * 10) = acc * 10 * 10 ^ t.length := by rw [Nat.mul_comm (10 ^ t.length) 10, Nat.mul_assoc]
  have hd : (acc * 10 + (c.toNat - 48)) * 10 ^ t.length ≤ acc * 10 * 10 ^ t.length + 9 * 10 ^ t.length := by
   rw [Nat.add_mul]
   exact Nat.add_le_add_left (Nat.mul_le_mul_right _ (by omega)) _
  have hacc : acc * 10 ≤ acc * 10 * 10 ^ t.length := Nat.le_mul_of_pos_right _ (by omega)
  rw [Lib.parseUint10, if_pos hc, if_neg (by omega), if_neg (by omega), ih _ (fun x hx => h x (by simp [hx])) (by omega)]
  simp only [List.foldl_cons]
  rw [show acc * 10 + (c.toNat - 48) = stepD acc c by unfold stepD; omega]
theorem mag_dec {u : Nat} (h : u ≤ 999999) : Lib.parseMag (Lib.decDigits u) = .ok u := by
 unfold Lib.parseMag
 rw [if_neg (dec_ne u)]
 have hl := dec_len 5 u (by omega)
 have hp : 10 ^ (Lib.decDigits u).length ≤ 10 ^ 6 := Nat.pow_le_pow_right (by decide) hl
 rw [parse_digits _ 0 (decDigits_digit u) (by omega)]
 exact congrArg Lib.NumEnd.ok (valD_dec u)
theorem atoi_itoa {v : Int} (h0 : -999999 ≤ v) (h1 : v ≤ 999999) : Lib.atoiAll (Lib.itoa v) = .ok v := by
 by_cases hn : v < 0
 · unfold Lib.itoa
   rw [if_pos hn, Lib.atoiAll_minus, mag_dec (by omega)]
   unfold Lib.signed
   simp only
   rw [if_neg (by omega)]
   congr 1; omega
 · unfold Lib.itoa
   rw [if_neg hn]
   have hm := mag_dec (u := v.toNat) (by omega)
   have hd := decDigits_digit v.toNat
   cases hl : Lib.decDigits v.toNat with
   | nil => exact absurd hl (dec_ne _)
   | cons c r =>
    rw [hl] at hm hd
    have hc := hd c (by simp)
    rw [Lib.atoiAll_plain c r (by omega) (by omega), hm]
    unfold Lib.signless
    simp only
    rw [if_neg (by omega)]
    congr 1; omega
def rdO (s : Bs) : Option Int := match Lib.atoiAll s with
 | .ok v => if -999999 ≤ v ∧ v ≤ 999999 ∧ Lib.itoa v = s then some v else none
 | _ => none
theorem rdO_iff (s : Bs) (v : Int) : rdO s = some v ↔ (-999999 ≤ v ∧ v ≤ 999999 ∧ Lib.itoa v = s) := by
 constructor
 · intro h
   unfold rdO at h
   split at h
   · split at h
     · rename_i h2
       obtain rfl := Option.some.inj h
       exact h2
     · cases h
   · cases h
 · rintro ⟨h0, h1, rfl⟩
   unfold rdO
   rw [atoi_itoa h0 h1]
   simp only
   rw [if_pos ⟨h0, h1, trivial⟩]
def rdT (s : Bs) : Bs := if 1 < s.length ∧ s.head? = some 45 then s.tail else s
def rdN (s : Bs) : Int := if (rdT s).length < s.length then -(valD (rdT s) : Int) else (valD (rdT s) : Int)
theorem rd_shape {s : Bs} {v : Int} (h : rdO s = some v) : 1 ≤ (rdT s).length ∧ (rdT s).length ≤ 6 ∧ (∀ c ∈ rdT s, 48 ≤ c.toNat ∧ c.toNat ≤ 57) ∧ rdN s = v := by
 obtain ⟨h0, h1, rfl⟩ := (rdO_iff s v).1 h
 by_cases hn : v < 0
 · have hs : Lib.itoa v = 45 :: Lib.decDigits v.natAbs := by unfold Lib.itoa; rw [if_pos hn]
   have hne := dec_ne v.natAbs
   have hl := dec_len 5 v.natAbs (by omega)
   have h1l : 1 ≤ (Lib.decDigits v.natAbs).length := List.length_pos_iff.2 hne
   have hT : rdT (Lib.itoa v) = Lib.decDigits v.natAbs := by
    unfold rdT
    rw [hs, if_pos ⟨by simp; omega, rfl⟩]; rfl
   refine ⟨by rw [hT]; exact h1l, by rw [hT]; exact hl, by rw [hT]; exact decDigits_digit _, ?_⟩
   unfold rdN
   rw [hT, hs, if_pos (by simp), valD_dec]; omega
 · have hs : Lib.itoa v = Lib.decDigits v.toNat := by unfold Lib.itoa; rw [if_neg hn]
   have hne := dec_ne v.toNat
   have hl := dec_len 5 v.toNat (by omega)
   have h1l : 1 ≤ (Lib.decDigits v.toNat).length := List.length_pos_iff.2 hne
   have hd := decDigits_digit v.toNat
   have hT : rdT (Lib.itoa v) = Lib.decDigits v.toNat := by
    unfold rdT
    rw [hs, if_neg]
    rintro ⟨_, h45⟩
    have := hd 45 (List.mem_of_mem_head? h45)
    exact absurd this.1 (by decide)
   refine ⟨by rw [hT]; exact h1l, by rw [hT]; exact hl, by rw [hT]; exact hd, ?_⟩
   unfold rdN
   rw [hT, hs, if_neg (by omega), valD_dec]; omega
theorem rd_bd {s : Bs} (h : (rdT s).length ≤ 6) (hd : ∀ c ∈ rdT s, 48 ≤ c.toNat ∧ c.toNat ≤ 57) : -999999 ≤ rdN s ∧ rdN s ≤ 999999 := by
 have h1 := valD_lt _ hd
 have h2 : 10 ^ (rdT s).length ≤ 10 ^ 6 := Nat.pow_le_pow_right (by decide) h
 unfold rdN; split <;> omega
theorem rd_yes {s : Bs} (h : (rdT s).length ≤ 6) (hd : ∀ c ∈ rdT s, 48 ≤ c.toNat ∧ c.toNat ≤ 57) (hi : Lib.itoa (rdN s) = s) : rdO s = some (rdN s) := by
 have := rd_bd h hd
 exact (rdO_iff s _).2 ⟨this.1, this.2, hi⟩
theorem rd_no {s : Bs} (h : ¬ (1 ≤ (rdT s).length ∧ (rdT s).length ≤ 6 ∧ (∀ c ∈ rdT s, 48 ≤ c.toNat ∧ c.toNat ≤ 57) ∧ Lib.itoa (rdN s) = s)) : rdO s = none := by
 cases hr : rdO s with
 | none => rfl
 | some v =>
  obtain ⟨h1, h2, h3, h4⟩ := rd_shape hr
  exact absurd ⟨h1, h2, h3, by rw [h4]; exact ((rdO_iff s v).1 hr).2.2⟩ h
theorem splSt_shift (c : UInt8) (s : Bs) (l : List Bs) (cur : Bs) : s.foldl (splStep c) (l, cur) = (l ++ (s.foldl (splStep c) ([], cur)).1, (s.foldl (splStep c) ([], cur)).2) := by
 induction s generalizing l cur with
 | nil => simp
 | cons x t ih =>
  simp only [List.foldl_cons]
  by_cases hx : x = c
  · have e : ∀ l : List Bs, splStep c (l, cur) x = (l ++ [cur], []) := fun l => by unfold splStep; rw [if_pos hx]
    rw [e, e, ih (l ++ [cur]) [], ih ([] ++ [cur]) []]; simp
  · have e : ∀ l : List Bs, splStep c (l, cur) x = (l, cur ++ [x]) := fun l => by unfold splStep; rw [if_neg hx]
    rw [e, e, ih l (cur ++ [x])]
theorem split_cons {c : UInt8} {a b : Bs} (h : c ∉ a) : splitS c (a ++ c :: b) = a :: splitS c b := by
 have h1 : splSt c (a ++ c :: b) = b.foldl (splStep c) ([a], []) := by
  have : splSt c (a ++ c :: b) = (c :: b).foldl (splStep c) (splSt c a) := by unfold splSt; rw [List.foldl_append]
  rw [this, splSt_none h]
  simp [splStep]
 unfold splitS
 rw [h1, splSt_shift]
 rfl
theorem lib_split (c : UInt8) : ∀ (n : Nat) (s : Bs), s.length ≤ n → Lib.splitK [c] 0 (Lib.count s [c]) s = splitS c s := by
 intro n
 induction n with
 | zero =>
  intro s h
  have : s = [] := List.eq_nil_of_length_eq_zero (by omega)
  subst this
  rfl
 | succ n ih =>
  intro s h
  rcases first_at s c with ⟨a, b, rfl, ha⟩ | hno
  · have hc : Lib.count (a ++ c :: b) [c] = Lib.count b [c] + 1 := by
     rw [Lib.count_one, Lib.count_one, List.count_append, List.count_eq_zero.2 ha, List.count_cons_self]; omega
    have hi : Lib.index (a ++ c :: b) [c] = a.length := by rw [Lib.index_one, indexByte_hit ha]
    rw [hc, Lib.splitK, if_neg (by rw [hi]; first | (simp; done) | (simp; omega)), hi]
    rw [List.length_append, List.length_cons] at h
    rw [Int.toNat_natCast, Nat.add_zero, List.take_left' rfl, split_cons ha]
    congr 1
    rw [show a ++ c :: b = (a ++ [c]) ++ b by simp, List.drop_left' (by simp)]
    exact ih b (by omega)
  · rw [Lib.count_one, List.count_eq_zero.2 hno, split_miss hno]; rfl
theorem join_cons2 (y z : Bs) (t : List Bs) (sep : Bs) : Lib.join (y :: z :: t) sep = y ++ sep ++ Lib.join (z :: t) sep := by simp [Lib.join, List.intercalate]
theorem join_nil (sep : Bs) : Lib.join [] sep = [] := rfl
theorem join_one' (x sep : Bs) : Lib.join [x] sep = x := by simp [Lib.join, List.intercalate]
theorem join_snoc (xs : List Bs) (x sep : Bs) (h : xs ≠ []) : Lib.join (xs ++ [x]) sep = Lib.join xs sep ++ sep ++ x := by
 induction xs with
 | nil => exact absurd rfl h
 | cons y t ih =>
  cases t with
  | nil => rw [List.cons_append, List.nil_append, join_cons2, join_one', join_one']
  | cons z u =>
   rw [List.cons_append, List.cons_append, join_cons2, join_cons2, ← List.cons_append, ih (by simp)]
   simp
def joinS (xs : List Bs) : Bs := Lib.join xs [32]
def listT (l : List Int) : Bs := if l = [] then [110, 111, 110, 101] else joinS (l.map Lib.itoa)
def barsTo (c : Int) (k : Nat) : Bs := (List.range k).filterMap fun i => if c.toNat / 2 ^ i % 2 = 1 then some (UInt8.ofNat (97 + i)) else none
theorem barsTo_succ (c : Int) (k : Nat) : barsTo c (k + 1) = barsTo c k ++ (if c.toNat / 2 ^ k % 2 = 1 then [UInt8.ofNat (97 + k)] else []) := by
 unfold barsTo
 rw [List.range_succ, List.filterMap_append]
 congr 1
 by_cases h : c.toNat / 2 ^ k % 2 = 1 <;> simp [h]
theorem barsTo_len (c : Int) (k : Nat) : (barsTo c k).length ≤ k := by
 unfold barsTo
 exact Nat.le_trans (List.length_filterMap_le _ _) (by simp)
def rowW (c : Int) : Bs := if c = 0 then [45] else barsTo c 7
def rowTx (r : List Int) : Bs := joinS (r.map rowW)
theorem rowW_len (c : Int) : (rowW c).length ≤ 7 := by
 unfold rowW; split
 · simp
 · exact barsTo_len c 7
end Go.Proofs.YtohgjfdbnkjefaaGreatDoor
