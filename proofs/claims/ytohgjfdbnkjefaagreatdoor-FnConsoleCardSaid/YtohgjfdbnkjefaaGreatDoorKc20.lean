import Derived.Test.YtohgjfdbnkjefaaGreatDoorKc19
import Derived.Deep.RegionHeld3
open Go.Lib (hid)
namespace Go.Proofs.YtohgjfdbnkjefaaGreatDoor
open Go.RowKit
set_option linter.unusedVariables false
set_option linter.unusedSimpArgs false
set_option maxRecDepth 100000
theorem rdT_short {s : ByteArray} (h : ¬ 1 < s.size) : rdT s.data.toList = s.data.toList := by
 unfold rdT; rw [if_neg]; rintro ⟨h1, _⟩; rw [ba_len] at h1; exact h h1
theorem head_byte {s : ByteArray} (h : 0 < s.size) : s.data.toList.head? = some s[0] := by
 rw [List.head?_eq_getElem?, List.getElem?_eq_getElem (by rw [ba_len]; exact h), ba_at h]
theorem rdT_plain {s : ByteArray} (h : 1 < s.size) (h45 : s[0] ≠ 45) : rdT s.data.toList = s.data.toList := by
 unfold rdT; rw [if_neg]; rintro ⟨_, h2⟩; rw [head_byte (by omega)] at h2; exact h45 (Option.some.inj h2)
theorem rdT_minus {s : ByteArray} (h : 1 < s.size) (h45 : s[0] = 45) : rdT s.data.toList = (s.extract 1 s.size).data.toList := by
 unfold rdT; rw [if_pos ⟨by rw [ba_len]; exact h, by rw [head_byte (by omega), h45]⟩, Lib.extract_to_end, List.drop_one]
set_option maxHeartbeats 2000000 in
theorem l1Read_a (s : ByteArray) (w : World) (hs : s.size ≤ 1048576) (h1 : 1 < s.size) (h45 : s[0] = 45) : Calls Tryz.prog 169 #[.string s] w fun e w' => e = .returned (rdV s.data.toList) ∧ Below w.heap.size w w' := by
 have t1 : (1 : Int) < (s.size : Int) := by omega
 have hbl : s[0].toNat < 256 := s[0].toNat_lt
 have t45 : s[0].toNat = 45 := by rw [h45]; rfl
 have HT1 := hid (rdT_minus h1 h45)
 have HLX : Hid ((s.extract 1 s.size).data.toList.length < s.data.toList.length) := by show _ < _; rw [ba_len, ba_len, ByteArray.size_extract]; omega
 have hTz : (s.extract 1 s.size).size = s.size - 1 := by rw [ByteArray.size_extract]; omega
 clear h45
 go_enter Tryz.func169, Tryz.ntmps169
 go_wp2_with fail
 generalize s.extract 1 s.size = T at *
 rw [← hTz]
 have hTs : T.size ≤ 1048576 := by omega
 clear t45 hbl t1 h1
 clear hTz hs
 by_cases hl : 1 ≤ T.size ∧ T.size ≤ 6
 · have hb : inB (T.size : Int) 1 6 = true := inB_mk (by omega) (by omega)
   go_wp2_with fail
   refine (l1In_c _ _ _ _).mono ?_
   rintro e w2 ⟨rfl, rfl⟩
   rw [hb]
   go_wp2
   go_loopw [5, 6] (fun n i wr => ∃ k : Nat, k ≤ T.size ∧ i = .int .i64 (k : Int) ∧ n = .int .i64 ((valD (T.data.toList.take k) : Nat) : Int) ∧ Hid (∀ c ∈ T.data.toList.take k, 48 ≤ c.toNat ∧ c.toNat ≤ 57) ∧ w = wr) (fun _ i _ => 7 - (intOf i).toNat)
   case atStart => exact ⟨0, by omega, rfl, rfl, (fun c hc => by simp at hc), by trivial⟩
   case round =>
    obtain ⟨k, hk, rfl, rfl, HDG, rfl⟩ := hrel
    have hvb : valD (T.data.toList.take k) < 10 ^ 6 := by
     have h1 := valD_lt _ HDG.out
     have h2 : 10 ^ (T.data.toList.take k).length ≤ 10 ^ 6 := Nat.pow_le_pow_right (by decide) (by rw [List.length_take, ba_len]; omega)
     omega
    by_cases hlt : k < T.size
    · have hd : decide ((k : Int) < (T.size : Int)) = true := by simp; omega
      have hbl : T[k].toNat < 256 := T[k].toNat_lt
      have hS : T.data.toList.take (k + 1) = T.data.toList.take k ++ [T[k]] := by
       rw [List.take_succ_eq_append_getElem (by rw [ba_len]; exact hlt), ba_at hlt]
      have hMem : T[k] ∈ T.data.toList := by rw [← ba_at hlt]; exact List.getElem_mem _
      by_cases hdg : 48 ≤ T[k].toNat ∧ T[k].toNat ≤ 57
      · as_aux_lemma =>
         have HS := hid (show valD (T.data.toList.take (k + 1)) = 10 * valD (T.data.toList.take k) + (T[k].toNat - 48) by rw [hS, valD_snoc]; rfl)
         have HDG2 : Hid (∀ c ∈ T.data.toList.take (k + 1), 48 ≤ c.toNat ∧ c.toNat ≤ 57) := fun c hc => by
          rw [hS, List.mem_append, List.mem_singleton] at hc
          rcases hc with hc | rfl
          · exact HDG.out c hc
          · exact hdg
         obtain ⟨dg0, dg1⟩ := hdg
         have HE : Hid (10 * ((valD (T.data.toList.take k) : Nat) : Int) + ((T[k].toNat - 48 : Nat) : Int) = ((valD (T.data.toList.take (k + 1)) : Nat) : Int)) := by show _ = _; rw [HS.out]; push_cast; rfl
         clear hS hMem HDG
         generalize valD (T.data.toList.take k) = n at *
         generalize hc : T[k] = c at *
         generalize hm : c.toNat = m at *
         have t0 : ¬ (m : Int) < 48 := by omega
         have t1 : ¬ (57 : Int) < (m : Int) := by omega
         have hw0 : IntKind.u8.wrap ((m : Int) - 48) = ((m - 48 : Nat) : Int) := by simp only [IntKind.wrap, IntKind.bits, IntKind.signed]; simp; omega
         have hw1 : IntKind.i64.wrap (10 * (n : Int)) = 10 * (n : Int) := IntWalk.i64_in _ (by omega)
         have hw2 : IntKind.i64.wrap (10 * (n : Int) + ((m - 48 : Nat) : Int)) = 10 * (n : Int) + ((m - 48 : Nat) : Int) := IntWalk.i64_in _ (by omega)
         have hw3 : wrap64 ((m - 48 : Nat) : Int) = ((m - 48 : Nat) : Int) := by simp only [wrap64]; omega
         go_upto_region 12 with fail
         as_aux_lemma =>
          go_upto_region 9 with fail
          as_aux_lemma =>
           go_wp2
           go_roundw
           case rel => exact ⟨k + 1, by omega, by go_num, congrArg (Value.int .i64) HE.out, fun c hc => HDG2.out c hc, by trivial⟩
           case measure => first | (simp [intOf]; done) | (simp [intOf]; omega)
      · as_aux_lemma =>
         have HV := hid (rdV_no (s := s.data.toList) (rd_no (fun h => hdg (h.2.2.1 _ (by rw [HT1.out]; exact hMem)))))
         clear hS hMem
         generalize hc : T[k] = c at *
         generalize hm : c.toNat = m at *
         by_cases h48 : m < 48
         · have t0 : (m : Int) < 48 := by omega
           go_wp2
           exact bodyPost_ret (v := .tuple #[.int .i64 0, .bool false]) (by simp [results, Tryz.results169, go_sem]) rfl ⟨by rw [HV.out], Below.refl _ _⟩
         · have t0 : ¬ (m : Int) < 48 := by omega
           have t1 : (57 : Int) < (m : Int) := by omega
           go_wp2
           exact bodyPost_ret (v := .tuple #[.int .i64 0, .bool false]) (by simp [results, Tryz.results169, go_sem]) rfl ⟨by rw [HV.out], Below.refl _ _⟩
    · obtain rfl : k = T.size := by omega
      have hd : decide ((T.size : Int) < (T.size : Int)) = false := by simp
      have hE : T.data.toList.take T.size = T.data.toList := List.take_of_length_le (by rw [ba_len]; omega)
      rw [hE] at hvb HDG ⊢
      have hwn : IntKind.i64.wrap (-(valD T.data.toList : Int)) = -(valD T.data.toList : Int) := IntWalk.i64_in _ (by omega)
      have hN : rdN s.data.toList = (-(valD T.data.toList : Int)) := by
       unfold rdN
       rw [HT1.out, if_pos HLX.out]
      have HL := hid (fun W => l1NumI_c (-(valD T.data.toList : Int)) W (by omega) (by omega))
      have hll : ((T.size : Int) < (s.size : Int)) := by have := HLX.out; simp only [ba_len] at this; omega
      by_cases he : Lib.itoa (-(valD T.data.toList : Int)) = s.data.toList
      · as_aux_lemma =>
         have HV := hid (rdV_yes (rd_yes (s := s.data.toList) (by rw [HT1.out, ba_len]; omega) (by rw [HT1.out]; exact HDG.out) (by rw [hN]; exact he)))
         have hst := str_eq (show bs (Lib.itoa (-(valD T.data.toList : Int))) = s by rw [he, bs_of])
         have HN := hid hN
         clear hN hE he
         generalize bs (Lib.itoa (-(valD T.data.toList : Int))) = X at *
         generalize valD T.data.toList = n at *
         go_wp2_with fail
         refine (HL.out _).mono ?_
         rintro e w3 ⟨rfl, hb3⟩
         have HB3 := hid hb3
         clear hb3
         go_wp2
         exact bodyPost_ret (v := .tuple #[.int .i64 (-(n : Int)), .bool true]) (by simp [results, Tryz.results169, go_sem]) rfl ⟨by rw [HV.out, HN.out], HB3.out⟩
      · as_aux_lemma =>
         have HV := hid (rdV_no (s := s.data.toList) (rd_no (fun h => he (by rw [← hN]; exact h.2.2.2))))
         have hst := str_ne (show bs (Lib.itoa (-(valD T.data.toList : Int))) ≠ s from fun e => he ((bs_list _).symm.trans (congrArg (fun x : ByteArray => x.data.toList) e)))
         clear hN hE he
         generalize bs (Lib.itoa (-(valD T.data.toList : Int))) = X at *
         generalize valD T.data.toList = n at *
         go_wp2_with fail
         refine (HL.out _).mono ?_
         rintro e w3 ⟨rfl, hb3⟩
         have HB3 := hid hb3
         clear hb3
         go_wp2
         exact bodyPost_ret (v := .tuple #[.int .i64 0, .bool false]) (by simp [results, Tryz.results169, go_sem]) rfl ⟨by rw [HV.out], HB3.out⟩
 · have hb : inB (T.size : Int) 1 6 = false := by
    cases hq : inB (T.size : Int) 1 6 with
    | false => rfl
    | true => have := inB_true hq; omega
   have HV := hid (rdV_no (s := s.data.toList) (rd_no (fun h => hl ⟨by have := h.1; rw [HT1.out, ba_len] at this; exact this, by have := h.2.1; rw [HT1.out, ba_len] at this; exact this⟩)))
   clear hl
   go_wp2_with fail
   refine (l1In_c _ _ _ _).mono ?_
   rintro e w2 ⟨rfl, rfl⟩
   rw [hb]
   go_wp2
   exact bodyPost_ret (v := .tuple #[.int .i64 0, .bool false]) (by simp [results, Tryz.results169, go_sem]) rfl ⟨by rw [HV.out], Below.refl _ _⟩
set_option maxHeartbeats 2000000 in
theorem l1Read_b (s : ByteArray) (w : World) (hs : s.size ≤ 1048576) (h1 : 1 < s.size) (h45 : s[0] ≠ 45) : Calls Tryz.prog 169 #[.string s] w fun e w' => e = .returned (rdV s.data.toList) ∧ Below w.heap.size w w' := by
 have t1 : (1 : Int) < (s.size : Int) := by omega
 have hbl : s[0].toNat < 256 := s[0].toNat_lt
 have t45 : ¬ s[0].toNat = 45 := fun h => h45 (UInt8.toNat_inj.1 (by rw [h]; rfl))
 have HT1 := hid (rdT_plain h1 h45)
 have HLX : Hid (¬ s.data.toList.length < s.data.toList.length) := by show ¬ _; omega
 clear h45
 go_enter Tryz.func169, Tryz.ntmps169
 go_wp2_with fail
 clear t45 hbl t1 h1
 by_cases hl : 1 ≤ s.size ∧ s.size ≤ 6
 · have hb : inB (s.size : Int) 1 6 = true := inB_mk (by omega) (by omega)
   go_wp2_with fail
   refine (l1In_c _ _ _ _).mono ?_
   rintro e w2 ⟨rfl, rfl⟩
   rw [hb]
   go_wp2
   go_loopw [5, 6] (fun n i wr => ∃ k : Nat, k ≤ s.size ∧ i = .int .i64 (k : Int) ∧ n = .int .i64 ((valD (s.data.toList.take k) : Nat) : Int) ∧ Hid (∀ c ∈ s.data.toList.take k, 48 ≤ c.toNat ∧ c.toNat ≤ 57) ∧ w = wr) (fun _ i _ => 7 - (intOf i).toNat)
   case atStart => exact ⟨0, by omega, rfl, rfl, (fun c hc => by simp at hc), by trivial⟩
   case round =>
    obtain ⟨k, hk, rfl, rfl, HDG, rfl⟩ := hrel
    have hvb : valD (s.data.toList.take k) < 10 ^ 6 := by
     have h1 := valD_lt _ HDG.out
     have h2 : 10 ^ (s.data.toList.take k).length ≤ 10 ^ 6 := Nat.pow_le_pow_right (by decide) (by rw [List.length_take, ba_len]; omega)
     omega
    by_cases hlt : k < s.size
    · have hd : decide ((k : Int) < (s.size : Int)) = true := by simp; omega
      have hbl : s[k].toNat < 256 := s[k].toNat_lt
      have hS : s.data.toList.take (k + 1) = s.data.toList.take k ++ [s[k]] := by
       rw [List.take_succ_eq_append_getElem (by rw [ba_len]; exact hlt), ba_at hlt]
      have hMem : s[k] ∈ s.data.toList := by rw [← ba_at hlt]; exact List.getElem_mem _
      by_cases hdg : 48 ≤ s[k].toNat ∧ s[k].toNat ≤ 57
      · as_aux_lemma =>
         have HS := hid (show valD (s.data.toList.take (k + 1)) = 10 * valD (s.data.toList.take k) + (s[k].toNat - 48) by rw [hS, valD_snoc]; rfl)
         have HDG2 : Hid (∀ c ∈ s.data.toList.take (k + 1), 48 ≤ c.toNat ∧ c.toNat ≤ 57) := fun c hc => by
          rw [hS, List.mem_append, List.mem_singleton] at hc
          rcases hc with hc | rfl
          · exact HDG.out c hc
          · exact hdg
         obtain ⟨dg0, dg1⟩ := hdg
         have HE : Hid (10 * ((valD (s.data.toList.take k) : Nat) : Int) + ((s[k].toNat - 48 : Nat) : Int) = ((valD (s.data.toList.take (k + 1)) : Nat) : Int)) := by show _ = _; rw [HS.out]; push_cast; rfl
         clear hS hMem HDG
         generalize valD (s.data.toList.take k) = n at *
         generalize hc : s[k] = c at *
         generalize hm : c.toNat = m at *
         have t0 : ¬ (m : Int) < 48 := by omega
         have t1 : ¬ (57 : Int) < (m : Int) := by omega
         have hw0 : IntKind.u8.wrap ((m : Int) - 48) = ((m - 48 : Nat) : Int) := by simp only [IntKind.wrap, IntKind.bits, IntKind.signed]; simp; omega
         have hw1 : IntKind.i64.wrap (10 * (n : Int)) = 10 * (n : Int) := IntWalk.i64_in _ (by omega)
         have hw2 : IntKind.i64.wrap (10 * (n : Int) + ((m - 48 : Nat) : Int)) = 10 * (n : Int) + ((m - 48 : Nat) : Int) := IntWalk.i64_in _ (by omega)
         have hw3 : wrap64 ((m - 48 : Nat) : Int) = ((m - 48 : Nat) : Int) := by simp only [wrap64]; omega
         go_upto_region 12 with fail
         as_aux_lemma =>
          go_upto_region 9 with fail
          as_aux_lemma =>
           go_wp2
           go_roundw
           case rel => exact ⟨k + 1, by omega, by go_num, congrArg (Value.int .i64) HE.out, fun c hc => HDG2.out c hc, by trivial⟩
           case measure => first | (simp [intOf]; done) | (simp [intOf]; omega)
      · as_aux_lemma =>
         have HV := hid (rdV_no (s := s.data.toList) (rd_no (fun h => hdg (h.2.2.1 _ (by rw [HT1.out]; exact hMem)))))
         clear hS hMem
         generalize hc : s[k] = c at *
         generalize hm : c.toNat = m at *
         by_cases h48 : m < 48
         · have t0 : (m : Int) < 48 := by omega
           go_wp2
           exact bodyPost_ret (v := .tuple #[.int .i64 0, .bool false]) (by simp [results, Tryz.results169, go_sem]) rfl ⟨by rw [HV.out], Below.refl _ _⟩
         · have t0 : ¬ (m : Int) < 48 := by omega
           have t1 : (57 : Int) < (m : Int) := by omega
           go_wp2
           exact bodyPost_ret (v := .tuple #[.int .i64 0, .bool false]) (by simp [results, Tryz.results169, go_sem]) rfl ⟨by rw [HV.out], Below.refl _ _⟩
    · obtain rfl : k = s.size := by omega
      have hd : decide ((s.size : Int) < (s.size : Int)) = false := by simp
      have hE : s.data.toList.take s.size = s.data.toList := List.take_of_length_le (by rw [ba_len]; omega)
      rw [hE] at hvb HDG ⊢
      have hN : rdN s.data.toList = (valD s.data.toList : Int) := by
       unfold rdN
       rw [HT1.out, if_neg HLX.out]
      have HL := hid (fun W => l1NumI_c (valD s.data.toList : Int) W (by omega) (by omega))
      have hll : (¬ (s.size : Int) < (s.size : Int)) := by have := HLX.out; simp only [ba_len] at this; omega
      by_cases he : Lib.itoa (valD s.data.toList : Int) = s.data.toList
      · as_aux_lemma =>
         have HV := hid (rdV_yes (rd_yes (s := s.data.toList) (by rw [HT1.out, ba_len]; omega) (by rw [HT1.out]; exact HDG.out) (by rw [hN]; exact he)))
         have hst := str_eq (show bs (Lib.itoa (valD s.data.toList : Int)) = s by rw [he, bs_of])
         have HN := hid hN
         clear hN hE he
         generalize bs (Lib.itoa (valD s.data.toList : Int)) = X at *
         generalize valD s.data.toList = n at *
         go_wp2_with fail
         refine (HL.out _).mono ?_
         rintro e w3 ⟨rfl, hb3⟩
         have HB3 := hid hb3
         clear hb3
         go_wp2
         exact bodyPost_ret (v := .tuple #[.int .i64 (n : Int), .bool true]) (by simp [results, Tryz.results169, go_sem]) rfl ⟨by rw [HV.out, HN.out], HB3.out⟩
      · as_aux_lemma =>
         have HV := hid (rdV_no (s := s.data.toList) (rd_no (fun h => he (by rw [← hN]; exact h.2.2.2))))
         have hst := str_ne (show bs (Lib.itoa (valD s.data.toList : Int)) ≠ s from fun e => he ((bs_list _).symm.trans (congrArg (fun x : ByteArray => x.data.toList) e)))
         clear hN hE he
         generalize bs (Lib.itoa (valD s.data.toList : Int)) = X at *
         generalize valD s.data.toList = n at *
         go_wp2_with fail
         refine (HL.out _).mono ?_
         rintro e w3 ⟨rfl, hb3⟩
         have HB3 := hid hb3
         clear hb3
         go_wp2
         exact bodyPost_ret (v := .tuple #[.int .i64 0, .bool false]) (by simp [results, Tryz.results169, go_sem]) rfl ⟨by rw [HV.out], HB3.out⟩
 · have hb : inB (s.size : Int) 1 6 = false := by
    cases hq : inB (s.size : Int) 1 6 with
    | false => rfl
    | true => have := inB_true hq; omega
   have HV := hid (rdV_no (s := s.data.toList) (rd_no (fun h => hl ⟨by have := h.1; rw [HT1.out, ba_len] at this; exact this, by have := h.2.1; rw [HT1.out, ba_len] at this; exact this⟩)))
   clear hl
   go_wp2_with fail
   refine (l1In_c _ _ _ _).mono ?_
   rintro e w2 ⟨rfl, rfl⟩
   rw [hb]
   go_wp2
   exact bodyPost_ret (v := .tuple #[.int .i64 0, .bool false]) (by simp [results, Tryz.results169, go_sem]) rfl ⟨by rw [HV.out], Below.refl _ _⟩
set_option maxHeartbeats 2000000 in
theorem l1Read_c' (s : ByteArray) (w : World) (hs : s.size ≤ 1048576) (h1 : ¬ 1 < s.size) : Calls Tryz.prog 169 #[.string s] w fun e w' => e = .returned (rdV s.data.toList) ∧ Below w.heap.size w w' := by
 have t1 : ¬ (1 : Int) < (s.size : Int) := by omega
 have HT1 := hid (rdT_short h1)
 have HLX : Hid (¬ s.data.toList.length < s.data.toList.length) := by show ¬ _; omega
 clear h1
 go_enter Tryz.func169, Tryz.ntmps169
 go_wp2_with fail
 by_cases hl : 1 ≤ s.size ∧ s.size ≤ 6
 · have hb : inB (s.size : Int) 1 6 = true := inB_mk (by omega) (by omega)
   go_wp2_with fail
   refine (l1In_c _ _ _ _).mono ?_
   rintro e w2 ⟨rfl, rfl⟩
   rw [hb]
   go_wp2
   go_loopw [5, 6] (fun n i wr => ∃ k : Nat, k ≤ s.size ∧ i = .int .i64 (k : Int) ∧ n = .int .i64 ((valD (s.data.toList.take k) : Nat) : Int) ∧ Hid (∀ c ∈ s.data.toList.take k, 48 ≤ c.toNat ∧ c.toNat ≤ 57) ∧ w = wr) (fun _ i _ => 7 - (intOf i).toNat)
   case atStart => exact ⟨0, by omega, rfl, rfl, (fun c hc => by simp at hc), by trivial⟩
   case round =>
    obtain ⟨k, hk, rfl, rfl, HDG, rfl⟩ := hrel
    have hvb : valD (s.data.toList.take k) < 10 ^ 6 := by
     have h1 := valD_lt _ HDG.out
     have h2 : 10 ^ (s.data.toList.take k).length ≤ 10 ^ 6 := Nat.pow_le_pow_right (by decide) (by rw [List.length_take, ba_len]; omega)
     omega
    by_cases hlt : k < s.size
    · have hd : decide ((k : Int) < (s.size : Int)) = true := by simp; omega
      have hbl : s[k].toNat < 256 := s[k].toNat_lt
      have hS : s.data.toList.take (k + 1) = s.data.toList.take k ++ [s[k]] := by
       rw [List.take_succ_eq_append_getElem (by rw [ba_len]; exact hlt), ba_at hlt]
      have hMem : s[k] ∈ s.data.toList := by rw [← ba_at hlt]; exact List.getElem_mem _
      by_cases hdg : 48 ≤ s[k].toNat ∧ s[k].toNat ≤ 57
      · as_aux_lemma =>
         have HS := hid (show valD (s.data.toList.take (k + 1)) = 10 * valD (s.data.toList.take k) + (s[k].toNat - 48) by rw [hS, valD_snoc]; rfl)
         have HDG2 : Hid (∀ c ∈ s.data.toList.take (k + 1), 48 ≤ c.toNat ∧ c.toNat ≤ 57) := fun c hc => by
          rw [hS, List.mem_append, List.mem_singleton] at hc
          rcases hc with hc | rfl
          · exact HDG.out c hc
          · exact hdg
         obtain ⟨dg0, dg1⟩ := hdg
         have HE : Hid (10 * ((valD (s.data.toList.take k) : Nat) : Int) + ((s[k].toNat - 48 : Nat) : Int) = ((valD (s.data.toList.take (k + 1)) : Nat) : Int)) := by show _ = _; rw [HS.out]; push_cast; rfl
         clear hS hMem HDG
         generalize valD (s.data.toList.take k) = n at *
         generalize hc : s[k] = c at *
         generalize hm : c.toNat = m at *
         have t0 : ¬ (m : Int) < 48 := by omega
         have t1 : ¬ (57 : Int) < (m : Int) := by omega
         have hw0 : IntKind.u8.wrap ((m : Int) - 48) = ((m - 48 : Nat) : Int) := by simp only [IntKind.wrap, IntKind.bits, IntKind.signed]; simp; omega
         have hw1 : IntKind.i64.wrap (10 * (n : Int)) = 10 * (n : Int) := IntWalk.i64_in _ (by omega)
         have hw2 : IntKind.i64.wrap (10 * (n : Int) + ((m - 48 : Nat) : Int)) = 10 * (n : Int) + ((m - 48 : Nat) : Int) := IntWalk.i64_in _ (by omega)
         have hw3 : wrap64 ((m - 48 : Nat) : Int) = ((m - 48 : Nat) : Int) := by simp only [wrap64]; omega
         go_upto_region 12 with fail
         as_aux_lemma =>
          go_upto_region 9 with fail
          as_aux_lemma =>
           go_wp2
           go_roundw
           case rel => exact ⟨k + 1, by omega, by go_num, congrArg (Value.int .i64) HE.out, fun c hc => HDG2.out c hc, by trivial⟩
           case measure => first | (simp [intOf]; done) | (simp [intOf]; omega)
      · as_aux_lemma =>
         have HV := hid (rdV_no (s := s.data.toList) (rd_no (fun h => hdg (h.2.2.1 _ (by rw [HT1.out]; exact hMem)))))
         clear hS hMem
         generalize hc : s[k] = c at *
         generalize hm : c.toNat = m at *
         by_cases h48 : m < 48
         · have t0 : (m : Int) < 48 := by omega
           go_wp2
           exact bodyPost_ret (v := .tuple #[.int .i64 0, .bool false]) (by simp [results, Tryz.results169, go_sem]) rfl ⟨by rw [HV.out], Below.refl _ _⟩
         · have t0 : ¬ (m : Int) < 48 := by omega
           have t1 : (57 : Int) < (m : Int) := by omega
           go_wp2
           exact bodyPost_ret (v := .tuple #[.int .i64 0, .bool false]) (by simp [results, Tryz.results169, go_sem]) rfl ⟨by rw [HV.out], Below.refl _ _⟩
    · obtain rfl : k = s.size := by omega
      have hd : decide ((s.size : Int) < (s.size : Int)) = false := by simp
      have hE : s.data.toList.take s.size = s.data.toList := List.take_of_length_le (by rw [ba_len]; omega)
      rw [hE] at hvb HDG ⊢
      have hN : rdN s.data.toList = (valD s.data.toList : Int) := by
       unfold rdN
       rw [HT1.out, if_neg HLX.out]
      have HL := hid (fun W => l1NumI_c (valD s.data.toList : Int) W (by omega) (by omega))
      have hll : (¬ (s.size : Int) < (s.size : Int)) := by have := HLX.out; simp only [ba_len] at this; omega
      by_cases he : Lib.itoa (valD s.data.toList : Int) = s.data.toList
      · as_aux_lemma =>
         have HV := hid (rdV_yes (rd_yes (s := s.data.toList) (by rw [HT1.out, ba_len]; omega) (by rw [HT1.out]; exact HDG.out) (by rw [hN]; exact he)))
         have hst := str_eq (show bs (Lib.itoa (valD s.data.toList : Int)) = s by rw [he, bs_of])
         have HN := hid hN
         clear hN hE he
         generalize bs (Lib.itoa (valD s.data.toList : Int)) = X at *
         generalize valD s.data.toList = n at *
         go_wp2_with fail
         refine (HL.out _).mono ?_
         rintro e w3 ⟨rfl, hb3⟩
         have HB3 := hid hb3
         clear hb3
         go_wp2
         exact bodyPost_ret (v := .tuple #[.int .i64 (n : Int), .bool true]) (by simp [results, Tryz.results169, go_sem]) rfl ⟨by rw [HV.out, HN.out], HB3.out⟩
      · as_aux_lemma =>
         have HV := hid (rdV_no (s := s.data.toList) (rd_no (fun h => he (by rw [← hN]; exact h.2.2.2))))
         have hst := str_ne (show bs (Lib.itoa (valD s.data.toList : Int)) ≠ s from fun e => he ((bs_list _).symm.trans (congrArg (fun x : ByteArray => x.data.toList) e)))
         clear hN hE he
         generalize bs (Lib.itoa (valD s.data.toList : Int)) = X at *
         generalize valD s.data.toList = n at *
         go_wp2_with fail
         refine (HL.out _).mono ?_
         rintro e w3 ⟨rfl, hb3⟩
         have HB3 := hid hb3
         clear hb3
         go_wp2
         exact bodyPost_ret (v := .tuple #[.int .i64 0, .bool false]) (by simp [results, Tryz.results169, go_sem]) rfl ⟨by rw [HV.out], HB3.out⟩
 · have hb : inB (s.size : Int) 1 6 = false := by
    cases hq : inB (s.size : Int) 1 6 with
    | false => rfl
    | true => have := inB_true hq; omega
   have HV := hid (rdV_no (s := s.data.toList) (rd_no (fun h => hl ⟨by have := h.1; rw [HT1.out, ba_len] at this; exact this, by have := h.2.1; rw [HT1.out, ba_len] at this; exact this⟩)))
   clear hl
   go_wp2_with fail
   refine (l1In_c _ _ _ _).mono ?_
   rintro e w2 ⟨rfl, rfl⟩
   rw [hb]
   go_wp2
   exact bodyPost_ret (v := .tuple #[.int .i64 0, .bool false]) (by simp [results, Tryz.results169, go_sem]) rfl ⟨by rw [HV.out], Below.refl _ _⟩
theorem l1Read_c (s : ByteArray) (w : World) (hs : s.size ≤ 1048576) : Calls Tryz.prog 169 #[.string s] w fun e w' => e = .returned (rdV s.data.toList) ∧ Below w.heap.size w w' := by
 by_cases h1 : 1 < s.size
 · by_cases h45 : s[0] = 45
   · exact l1Read_a s w hs h1 h45
   · exact l1Read_b s w hs h1 h45
 · exact l1Read_c' s w hs h1
theorem sLitOf_c (v : Value) (xs : List Int) (w : World) (hv : Ints w v xs) (hr : rowB xs = true) :
 Calls Tryz.prog 175 #[v] w fun e w' => e = .returned (.tuple #[.int .i64 (litL xs : Nat), .bool true]) ∧ Below w.heap.size w w' := by
 have HV := hid hv
 have HR := hid (l2Row_c v xs w hv)
 rw [hr] at HR
 obtain ⟨a, c, rfl, _, _, _⟩ := hv.parts
 have hcl : ∀ x ∈ xs, 0 ≤ x ∧ x ≤ 127 := fun x hx => by
  obtain ⟨k, hk⟩ := List.mem_iff_getElem?.1 hx
  exact rowB_cell hr hk
 have hn : xs.length ≤ 6 := rowB_le hr
 have HCL := hid hcl
 have HBD := hid (litL_bd hcl)
 have HALL : Hid (litL (xs.take xs.length) = litL xs) := by show _ = _; rw [List.take_length]
 clear hv hcl hr
 go_enter Tryz.func175, Tryz.ntmps175
 go_wp2_with fail
 refine HR.out.mono ?_
 rintro e w1 ⟨rfl, hb1⟩
 have HB1 := hid hb1
 go_wp2
 go_loopw [4, 5] (fun s j wr => ∃ k : Nat, k ≤ xs.length ∧ j = .int .i64 (k : Int) ∧ s = .int .i64 ((litL (xs.take k) : Nat) : Int) ∧ w1 = wr) (fun _ j _ => xs.length + 1 - (intOf j).toNat)
 case atStart => exact ⟨0, by omega, rfl, rfl, rfl⟩
 case round =>
  obtain ⟨k, hk, rfl, rfl, rfl⟩ := hrel
  by_cases hlt : k < xs.length
  · have hdd : decide ((k : Int) < (xs.length : Int)) = true := by simp; omega
    obtain ⟨x, hx⟩ := elem_at hlt
    obtain ⟨_, _, he, _, _, HC⟩ := (HV.out.below hb1).parts
    cases he
    obtain ⟨b, off, rfl, f0⟩ := HC.out k x hx.out
    obtain ⟨x0, x1⟩ := HCL.out x (List.mem_of_getElem? hx.out)
    obtain ⟨e1, e2⟩ := cnt_cN x0 x1
    have hb := HBD.out k hk
    have HX := hid (litL_take hx.out)
    have HC2 := hid (fun w => l2Count_c x x0 x1 w)
    rw [e1] at HC2
    generalize litL (xs.take k) = s at *
    generalize cN x = c9 at *
    clear e1 HC
    go_wp2_with fail
    refine (HC2.out _).mono ?_
    rintro e _ ⟨rfl, rfl⟩
    go_wp2
    go_roundw
    case rel => exact ⟨k + 1, by omega, by go_num, by rw [HX.out]; go_num, by trivial⟩
    case measure => first | (simp [intOf]; done) | (simp [intOf]; omega)
  · obtain rfl : k = xs.length := by omega
    have hd : decide ((xs.length : Int) < (xs.length : Int)) = false := by simp
    rw [HALL.out]
    go_wp2
    exact bodyPost_ret (v := .tuple #[.int .i64 ((litL xs : Nat) : Int), .bool true]) (by simp [results, Tryz.results175, go_sem]) rfl ⟨rfl, HB1.out⟩
def SayOut (o : Option Bs) (w : World) (e : Ending) (w' : World) : Prop := e = .returned (.string (bs (sayO o))) ∧ Below w.heap.size w w'
theorem SayOut.mk' {o : Option Bs} {t : Bs} {w w' : World} (h : sayO o = t) (hb : Below w.heap.size w w') : SayOut o w (.returned (.string (bs t))) w' := ⟨by rw [h], hb⟩
set_option maxHeartbeats 40000000 in
theorem l12Tell_c (b : List Int) (s : ByteArray) (w : World) (hb : b.length = 19) (hg : goodB b = true) :
 Calls Tryz.prog 129 #[aggI b, .string s] w (SayOut (tellM b s.data.toList) w) := by
 have r0 := range_new w (ints b) 26
 have hb0 := below_one (w := w) (.cells (ints b).toArray 26)
 unfold aggI
 by_cases e0 : s.data.toList = wRow
 · as_aux_lemma =>
    have f0 : (s.toList == [114, 111, 119]) = true := by rw [Lib.toList_data, e0]; rfl
    have HM := hid (show tellM b s.data.toList = some (rowTx (showR b)) by unfold tellM; rw [if_pos e0])
    clear e0
    go_enter Tryz.func129, Tryz.ntmps129
    go_wp2_with (refine wpList_loadB rfl _ rfl _ rfl b r0 hb ?_)
    refine (l12Row_c b true _ hb hg).mono ?_
    rintro e w1 ⟨u, rfl, ho, hb1⟩
    have HR := hid (show Ints w1 u (showR b) from Ints.of_own ho)
    have HB := hid (Below.chain hb0 hb1)
    have r1 := range_below r0 hb1
    obtain ⟨ua, uc, rfl, _⟩ := (Sl.of_own ho).slice
    have HSL : Hid ((rowOf b true 6).length = 6) := shTo_len b 6
    rw [HSL.out] at HR ⊢
    have hrl : (showR b).length ≤ 1000 := by rw [show (showR b).length = 6 from shTo_len b 6]; decide
    have hrr := showR_row hg
    have hrd := showR_bd hg
    clear ho hb1
    go_wp2_with fail
    with_reducible refine (l2Text_c _ (showR b) _ HR.out hrl hrd).mono ?_
    rintro e _ ⟨rfl, rfl⟩
    go_wp2
    go_ret
    exact SayOut.mk' (by rw [HM.out]; rfl) HB.out
 · skip
   by_cases e1 : s.data.toList = wSent
   · as_aux_lemma =>
      have f0 : (s.toList == [114, 111, 119]) = false := by rw [Lib.toList_data]; exact beq_false_of_ne e0
      have f1 : (s.toList == [115, 101, 110, 116]) = true := by rw [Lib.toList_data, e1]; rfl
      have HM := hid (show tellM b s.data.toList = some (rowTx (b.take 6)) by unfold tellM; rw [if_neg e0]; rw [if_pos e1])
      clear e0 e1
      go_enter Tryz.func129, Tryz.ntmps129
      go_wp2_with (refine wpList_loadB rfl _ rfl _ rfl b r0 hb ?_)
      refine (l12Row_c b true _ hb hg).mono ?_
      rintro e w1 ⟨u, rfl, ho, hb1⟩
      have HR := hid (show Ints w1 u (showR b) from Ints.of_own ho)
      have HB := hid (Below.chain hb0 hb1)
      have r1 := range_below r0 hb1
      obtain ⟨ua, uc, rfl, _⟩ := (Sl.of_own ho).slice
      have HSL : Hid ((rowOf b true 6).length = 6) := shTo_len b 6
      rw [HSL.out] at HR ⊢
      have hrl : (showR b).length ≤ 1000 := by rw [show (showR b).length = 6 from shTo_len b 6]; decide
      have hrr := showR_row hg
      have hrd := showR_bd hg
      clear ho hb1
      go_wp2_with (refine wpList_loadB rfl _ rfl _ rfl b r1 hb ?_)
      refine (l12Row_c b false _ hb hg).mono ?_
      rintro e w2 ⟨u2, rfl, ho2, hb2⟩
      have HR2 := hid (show Ints w2 u2 (b.take 6) from Ints.of_own ho2)
      have HB2 := hid (Below.chain HB.out hb2)
      obtain ⟨ub, ud, rfl, _⟩ := (Sl.of_own ho2).slice
      have hcl := cells_bd hb hg
      have htl : (b.take 6).length ≤ 1000 := by rw [List.length_take]; omega
      have HSL2 : Hid ((rowOf b false 6).length = 6) := rowOf_len hb false (Nat.le_refl _)
      rw [HSL2.out] at HR2 ⊢
      clear ho2 hb2
      go_wp2_with fail
      with_reducible refine (l2Text_c _ (b.take 6) _ HR2.out htl hcl).mono ?_
      rintro e _ ⟨rfl, rfl⟩
      go_wp2
      go_ret
      exact SayOut.mk' (by rw [HM.out]; rfl) HB2.out
   · skip
     by_cases e2 : s.data.toList = wNumber
     · as_aux_lemma =>
        have f0 : (s.toList == [114, 111, 119]) = false := by rw [Lib.toList_data]; exact beq_false_of_ne e0
        have f1 : (s.toList == [115, 101, 110, 116]) = false := by rw [Lib.toList_data]; exact beq_false_of_ne e1
        have f2 : (s.toList == [110, 117, 109, 98, 101, 114]) = true := by rw [Lib.toList_data, e2]; rfl
        have HM := hid (show tellM b s.data.toList = (numO (showR b)).map Lib.decDigits by unfold tellM; rw [if_neg e0]; rw [if_neg e1]; rw [if_pos e2])
        clear e0 e1 e2
        go_enter Tryz.func129, Tryz.ntmps129
        go_wp2_with (refine wpList_loadB rfl _ rfl _ rfl b r0 hb ?_)
        refine (l12Row_c b true _ hb hg).mono ?_
        rintro e w1 ⟨u, rfl, ho, hb1⟩
        have HR := hid (show Ints w1 u (showR b) from Ints.of_own ho)
        have HB := hid (Below.chain hb0 hb1)
        have r1 := range_below r0 hb1
        obtain ⟨ua, uc, rfl, _⟩ := (Sl.of_own ho).slice
        have HSL : Hid ((rowOf b true 6).length = 6) := shTo_len b 6
        rw [HSL.out] at HR ⊢
        have hrl : (showR b).length ≤ 1000 := by rw [show (showR b).length = 6 from shTo_len b 6]; decide
        have hrr := showR_row hg
        have hrd := showR_bd hg
        clear ho hb1
        go_wp2_with fail
        with_reducible refine (sNumberOf_c _ (showR b) _ HR.out hrr).mono ?_
        rintro e w2 ⟨rfl, hb2⟩
        have HB2 := hid (Below.chain HB.out hb2)
        have HSAY : Hid (sayO (tellM b s.data.toList) = (if (numO (showR b)).isSome then Lib.decDigits ((numO (showR b)).getD 0) else [63])) := by
         show _ = _
         rw [HM.out]
         cases numO (showR b) <;> rfl
        have hn6 : (numO (showR b)).getD 0 < 4611686018427387904 := by
         cases hn : numO (showR b) with
         | none => show (0 : Nat) < _; omega
         | some n =>
          have h1 := numO_le hn (by rw [show (showR b).length = 6 from shTo_len b 6]; omega)
          show n < _; omega
        unfold numV
        clear hb2
        generalize (numO (showR b)).isSome = ok at *
        generalize (numO (showR b)).getD 0 = n at *
        cases ok with
        | false =>
         go_wp2_with fail
         with_reducible refine (l12Say_c n false _ hn6).mono ?_
         rintro e w3 ⟨rfl, hb3⟩
         have HB3 := hid (Below.chain HB2.out hb3)
         clear hb3
         go_wp2
         go_ret
         exact SayOut.mk' HSAY.out HB3.out
        | true =>
         go_wp2_with fail
         with_reducible refine (l12Say_c n true _ hn6).mono ?_
         rintro e w3 ⟨rfl, hb3⟩
         have HB3 := hid (Below.chain HB2.out hb3)
         clear hb3
         go_wp2
         go_ret
         exact SayOut.mk' HSAY.out HB3.out
     · skip
       by_cases e3 : s.data.toList = wBars
       · as_aux_lemma =>
          have f0 : (s.toList == [114, 111, 119]) = false := by rw [Lib.toList_data]; exact beq_false_of_ne e0
          have f1 : (s.toList == [115, 101, 110, 116]) = false := by rw [Lib.toList_data]; exact beq_false_of_ne e1
          have f2 : (s.toList == [110, 117, 109, 98, 101, 114]) = false := by rw [Lib.toList_data]; exact beq_false_of_ne e2
          have f3 : (s.toList == [98, 97, 114, 115]) = true := by rw [Lib.toList_data, e3]; rfl
          have HM := hid (show tellM b s.data.toList = some (Lib.decDigits (litL (showR b))) by unfold tellM; rw [if_neg e0]; rw [if_neg e1]; rw [if_neg e2]; rw [if_pos e3])
          clear e0 e1 e2 e3
          go_enter Tryz.func129, Tryz.ntmps129
          go_wp2_with (refine wpList_loadB rfl _ rfl _ rfl b r0 hb ?_)
          refine (l12Row_c b true _ hb hg).mono ?_
          rintro e w1 ⟨u, rfl, ho, hb1⟩
          have HR := hid (show Ints w1 u (showR b) from Ints.of_own ho)
          have HB := hid (Below.chain hb0 hb1)
          have r1 := range_below r0 hb1
          obtain ⟨ua, uc, rfl, _⟩ := (Sl.of_own ho).slice
          have HSL : Hid ((rowOf b true 6).length = 6) := shTo_len b 6
          rw [HSL.out] at HR ⊢
          have hrl : (showR b).length ≤ 1000 := by rw [show (showR b).length = 6 from shTo_len b 6]; decide
          have hrr := showR_row hg
          have hrd := showR_bd hg
          clear ho hb1
          go_wp2_with fail
          with_reducible refine (sLitOf_c _ (showR b) _ HR.out hrr).mono ?_
          rintro e w2 ⟨rfl, hb2⟩
          have HB2 := hid (Below.chain HB.out hb2)
          clear hb2
          have hn6 := lit_le hg
          generalize litL (showR b) = n at *
          have hn7 : n < 4611686018427387904 := by omega
          go_wp2_with fail
          with_reducible refine (l12Say_c n true _ hn7).mono ?_
          rintro e w3 ⟨rfl, hb3⟩
          have HB3 := hid (Below.chain HB2.out hb3)
          clear hb3
          go_wp2
          go_ret
          exact SayOut.mk' (by rw [HM.out]; rfl) HB3.out
       · skip
         by_cases e4 : s.data.toList = wFirst
         · as_aux_lemma =>
            have f0 : (s.toList == [114, 111, 119]) = false := by rw [Lib.toList_data]; exact beq_false_of_ne e0
            have f1 : (s.toList == [115, 101, 110, 116]) = false := by rw [Lib.toList_data]; exact beq_false_of_ne e1
            have f2 : (s.toList == [110, 117, 109, 98, 101, 114]) = false := by rw [Lib.toList_data]; exact beq_false_of_ne e2
            have f3 : (s.toList == [98, 97, 114, 115]) = false := by rw [Lib.toList_data]; exact beq_false_of_ne e3
            have f4 : (s.toList == [102, 105, 114, 115, 116]) = true := by rw [Lib.toList_data, e4]; rfl
            have HM := hid (show tellM b s.data.toList = (if fnOk (fsB b) (showR b) then some (listT (fnL (fsB b) (showR b))) else none) by unfold tellM; rw [if_neg e0]; rw [if_neg e1]; rw [if_neg e2]; rw [if_neg e3]; rw [if_pos e4])
            clear e0 e1 e2 e3 e4
            go_enter Tryz.func129, Tryz.ntmps129
            go_wp2_with (refine wpList_loadB rfl _ rfl _ rfl b r0 hb ?_)
            refine (l12Row_c b true _ hb hg).mono ?_
            rintro e w1 ⟨u, rfl, ho, hb1⟩
            have HR := hid (show Ints w1 u (showR b) from Ints.of_own ho)
            have HB := hid (Below.chain hb0 hb1)
            have r1 := range_below r0 hb1
            obtain ⟨ua, uc, rfl, _⟩ := (Sl.of_own ho).slice
            have HSL : Hid ((rowOf b true 6).length = 6) := shTo_len b 6
            rw [HSL.out] at HR ⊢
            have hrl : (showR b).length ≤ 1000 := by rw [show (showR b).length = 6 from shTo_len b 6]; decide
            have hrr := showR_row hg
            have hrd := showR_bd hg
            clear ho hb1
            have HF0 := hid (World.ownsRow_lit (e := 46) (size := 2) (base := w1.heap.size) w1 #[] 0 (Nat.le_refl _) (by decide) rfl)
            have HBF := hid (below_one (w := w1) (.cells #[] 46))
            obtain ⟨i, hi, hz0, hz1, hz2⟩ := info_parts info_Fault
            go_wp2
            go_loopw [6, 7] (fun o j wr => ∃ k : Nat, k ≤ 6 ∧ j = .int .i64 (k : Int) ∧ wr.ownsRow w1.heap.size 46 2 o k (flat2 (fsTo b k)) ∧ Below w1.heap.size w1 wr) (fun _ j _ => 7 - (intOf j).toNat)
            case atStart => exact ⟨0, by omega, rfl, ownsRow_cast HF0.out rfl rfl, HBF.out⟩
            case round =>
             obtain ⟨k, hk, rfl, hfo, hbk⟩ := hrel
             have HFO := hid hfo
             have HBK := hid hbk
             clear hfo hbk HF0 HBF
             by_cases hlt : k < 6
             · have hd : decide ((k : Int) < 6) = true := by simp; omega
               obtain ⟨f1, f2, hf⟩ : ∃ f1 f2, bF b k = (f1, f2) := ⟨_, _, rfl⟩
               have hs := fsTo_succ b k
               rw [hf] at hs
               have HS := hid hs
               have HF := hid hf
               have hrk := range_below r1 HBK.out
               clear hs hf
               go_wp2_with (refine wpList_loadB rfl _ rfl _ rfl b hrk hb ?_)
               refine (l12Fault_c b k _ hb hlt).mono ?_
               rintro e w3 ⟨he, hb3⟩
               rw [HF.out] at he
               subst he
               have HB4 := hid (Below.chain HBK.out hb3)
               have HO4 := hid (own_keep HFO.out hb3)
               clear hb3 HBK HFO hrk HF
               go_wp2_with (at_builtin; refine wpList_append_own_at _ rfl _ _ 127 rfl w1.heap.size 46 i (.agg #[.int .i64 0, .int .i64 0]) 2 16 Tryz.underlying127 hi hz0 hz1 hz2 rfl (by decide) _ k (flat2 (fsTo b k)) rfl (HO4.out.alloc _) ⟨w3.heap.size, 0, none⟩ 1 1 [.int .i64 f1, .int .i64 f2] rfl rfl (news_new _ [.int .i64 f1, .int .i64 f2] _) (by simp [Value.oneCell']) (by unfold maxLen; omega) (by omega) (by have := HB4.out.size; simp only [World.size_alloc]; omega) ?_)
               intro v' w4 ho5 hg5 _ _
               have HB7 := hid ((Below.alc HB4.out _).grown hg5 (by have := HB4.out.size; simp only [World.size_alloc]; omega) (fun g hg => (HO4.out.lt g hg).1))
               have HO5 := hid ho5
               clear ho5 hg5 HO4 HB4
               go_wp2
               go_roundw
               case rel => exact ⟨k + 1, by omega, by go_num, by rw [HS.out]; exact ownsRow_cast HO5.out rfl (flat2_snoc _ _ _).symm, HB7.out⟩
               case measure => first | (simp [intOf]; done) | (simp [intOf]; omega)
             · obtain rfl : k = 6 := by omega
               have HFP := hid (show Pairs wr _ (fsB b) from Pairs.of_own (ps := fsB b) HFO.out)
               have HRk := hid (HR.out.below HBK.out)
               have HBW := hid (Below.chain HB.out HBK.out)
               obtain ⟨fa, fc, rfl, _⟩ := (Sl.of_own HFO.out).slice
               have hfl := fnL_le (fsB b) (showR b)
               have hfl2 : (fnL (fsB b) (showR b)).length ≤ 1000 := by omega
               have hfb : fnOk (fsB b) (showR b) = true → ∀ x ∈ fnL (fsB b) (showR b), 0 ≤ x ∧ x ≤ 999999 := fun _ => fnL_bd _ _
               have HSAY : Hid (sayO (tellM b s.data.toList) = (if fnOk (fsB b) (showR b) then listT (fnL (fsB b) (showR b)) else [63])) := by
                show _ = _
                rw [HM.out]
                cases fnOk (fsB b) (showR b) <;> rfl
               go_wp2_with fail
               with_reducible refine (sFirstNumber_c _ _ (fsB b) (showR b) _ HFP.out HRk.out).mono ?_
               rintro e w3 ⟨lu, rfl, hlo, hb3⟩
               have HB3 := hid (Below.chain HBW.out hb3)
               have HL3 := hid (show Ints w3 lu (fnL (fsB b) (showR b)) from Ints.of_own hlo)
               obtain ⟨la, lc, rfl, _⟩ := (Sl.of_own hlo).slice
               clear hb3 hlo
               generalize fnL (fsB b) (showR b) = fl at *
               generalize fnOk (fsB b) (showR b) = ok at *
               have HFB := hid hfb
               clear hfb
               go_wp2_with fail
               with_reducible refine (l12List_c _ fl ok _ HL3.out hfl2 HFB.out).mono ?_
               rintro e w4 ⟨rfl, hb4⟩
               have HB4 := hid (Below.chain HB3.out hb4)
               rw [← HSAY.out]
               clear hb4
               go_wp2
               go_ret
               exact SayOut.mk' rfl HB4.out
         · skip
           by_cases e5 : s.data.toList = wLeast
           · as_aux_lemma =>
              have f0 : (s.toList == [114, 111, 119]) = false := by rw [Lib.toList_data]; exact beq_false_of_ne e0
              have f1 : (s.toList == [115, 101, 110, 116]) = false := by rw [Lib.toList_data]; exact beq_false_of_ne e1
              have f2 : (s.toList == [110, 117, 109, 98, 101, 114]) = false := by rw [Lib.toList_data]; exact beq_false_of_ne e2
              have f3 : (s.toList == [98, 97, 114, 115]) = false := by rw [Lib.toList_data]; exact beq_false_of_ne e3
              have f4 : (s.toList == [102, 105, 114, 115, 116]) = false := by rw [Lib.toList_data]; exact beq_false_of_ne e4
              have f5 : (s.toList == [108, 101, 97, 115, 116]) = true := by rw [Lib.toList_data, e5]; rfl
              have HM := hid (show tellM b s.data.toList = some (Lib.decDigits ltA.length) by unfold tellM; rw [if_neg e0]; rw [if_neg e1]; rw [if_neg e2]; rw [if_neg e3]; rw [if_neg e4]; rw [if_pos e5])
              clear e0 e1 e2 e3 e4 e5
              go_enter Tryz.func129, Tryz.ntmps129
              go_wp2_with (refine wpList_loadB rfl _ rfl _ rfl b r0 hb ?_)
              refine (l12Row_c b true _ hb hg).mono ?_
              rintro e w1 ⟨u, rfl, ho, hb1⟩
              have HR := hid (show Ints w1 u (showR b) from Ints.of_own ho)
              have HB := hid (Below.chain hb0 hb1)
              have r1 := range_below r0 hb1
              obtain ⟨ua, uc, rfl, _⟩ := (Sl.of_own ho).slice
              have HSL : Hid ((rowOf b true 6).length = 6) := shTo_len b 6
              rw [HSL.out] at HR ⊢
              have hrl : (showR b).length ≤ 1000 := by rw [show (showR b).length = 6 from shTo_len b 6]; decide
              have hrr := showR_row hg
              have hrd := showR_bd hg
              clear ho hb1
              go_wp2_with fail
              with_reducible refine (sLeastTests_c _).mono ?_
              rintro e w2 ⟨lv, rfl, hls, hb2⟩
              have HB2 := hid (Below.chain HB.out hb2)
              obtain ⟨vs, hvs, _⟩ := hls
              obtain ⟨la, lc, rfl, _⟩ := (Sl.of_own hvs).slice
              clear hb2 hvs
              have hl9 := ltA_le
              have hl8 : ltA.length < 4611686018427387904 := by omega
              go_wp2_with fail
              with_reducible refine (l1Num_c ltA.length _ hl8).mono ?_
              rintro e w3 ⟨rfl, hb3⟩
              have HB3 := hid (Below.chain HB2.out hb3)
              clear hb3
              go_wp2
              go_ret
              exact SayOut.mk' (by rw [HM.out]; rfl) HB3.out
           · skip
             as_aux_lemma =>
              have f0 : (s.toList == [114, 111, 119]) = false := by rw [Lib.toList_data]; exact beq_false_of_ne e0
              have f1 : (s.toList == [115, 101, 110, 116]) = false := by rw [Lib.toList_data]; exact beq_false_of_ne e1
              have f2 : (s.toList == [110, 117, 109, 98, 101, 114]) = false := by rw [Lib.toList_data]; exact beq_false_of_ne e2
              have f3 : (s.toList == [98, 97, 114, 115]) = false := by rw [Lib.toList_data]; exact beq_false_of_ne e3
              have f4 : (s.toList == [102, 105, 114, 115, 116]) = false := by rw [Lib.toList_data]; exact beq_false_of_ne e4
              have f5 : (s.toList == [108, 101, 97, 115, 116]) = false := by rw [Lib.toList_data]; exact beq_false_of_ne e5
              have HM := hid (show tellM b s.data.toList = none by unfold tellM; rw [if_neg e0]; rw [if_neg e1]; rw [if_neg e2]; rw [if_neg e3]; rw [if_neg e4]; rw [if_neg e5])
              clear e0 e1 e2 e3 e4 e5
              go_enter Tryz.func129, Tryz.ntmps129
              go_wp2_with (refine wpList_loadB rfl _ rfl _ rfl b r0 hb ?_)
              refine (l12Row_c b true _ hb hg).mono ?_
              rintro e w1 ⟨u, rfl, ho, hb1⟩
              have HR := hid (show Ints w1 u (showR b) from Ints.of_own ho)
              have HB := hid (Below.chain hb0 hb1)
              have r1 := range_below r0 hb1
              obtain ⟨ua, uc, rfl, _⟩ := (Sl.of_own ho).slice
              have HSL : Hid ((rowOf b true 6).length = 6) := shTo_len b 6
              rw [HSL.out] at HR ⊢
              have hrl : (showR b).length ≤ 1000 := by rw [show (showR b).length = 6 from shTo_len b 6]; decide
              have hrr := showR_row hg
              have hrd := showR_bd hg
              clear ho hb1
              go_wp2
              go_ret
              exact SayOut.mk' (by rw [HM.out]; rfl) HB.out
def doneB (b : List Int) (k a v : Int) : List Int := if possB b k a v then doB b k a v else b
def doneT (b : List Int) (k a v : Int) : Bs := if possB b k a v then rowTx (showR (doB b k a v)) else [63]
set_option maxHeartbeats 8000000 in
theorem l12Done_c (b : List Int) (k a v : Int) (w : World) (hb : b.length = 19) (hg : goodB b = true) :
 Calls Tryz.prog 128 #[aggI b, jobV k a v] w fun e w' => e = .returned (.tuple #[aggI (doneB b k a v), .string (bs (doneT b k a v))]) ∧ Below w.heap.size w w' := by
 have r0 := World.rangeAt_alloc (World.rangeAt_alloc (range_new w (ints b) 26) (.cells #[.int .i64 k, .int .i64 a, .int .i64 v] 123)) zB
 have t1 := there_new ((w.alloc (.cells (ints b).toArray 26)).alloc (.cells #[.int .i64 k, .int .i64 a, .int .i64 v] 123)) _ 26 (n := 19) (show 19 ≤ (zBA : Array Value).size by decide)
 have hb0 : Below w.heap.size w (((w.alloc (.cells (ints b).toArray 26)).alloc (.cells #[.int .i64 k, .int .i64 a, .int .i64 v] 123)).alloc zB) := qBl
 simp only [World.size_alloc] at t1
 have hsz : w.heap.size + 1 + 1 < (((w.alloc (.cells (ints b).toArray 26)).alloc (.cells #[.int .i64 k, .int .i64 a, .int .i64 v] 123)).alloc zB).heap.size := by simp
 have HM := hid (fun w => l12Do_c b k a v w hb hg)
 have hX := jobB_len hb hg k a v
 obtain ⟨X, hXe⟩ : ∃ X, jobB b k a v = X := ⟨_, rfl⟩
 rw [hXe] at hX
 have hX19 : (ints X).length = 19 := by simp [ints, hX]
 unfold jobsV mkV at HM
 rw [hXe] at HM
 unfold aggI jobV at *
 unfold zBA zB at *
 rcases hp : possB b k a v with _ | _
 · as_aux_lemma =>
    have HP := hid hp
    have HD1 := hid (show doneB b k a v = b by unfold doneB; rw [hp]; rfl)
    have HD2 := hid (show doneT b k a v = [63] by unfold doneT; rw [hp]; rfl)
    rw [hp] at HM
    clear hp hXe
    go_enter Tryz.func128, Tryz.ntmps128
    go_wp2_with (refine wpList_loadB rfl _ rfl _ rfl b r0 hb ?_)
    refine (HM.out _).mono ?_
    rintro e w1 ⟨rfl, hb1⟩
    have r1 := range_below r0 hb1
    have u1 := there_below t1 hb1
    have b1 := Below.chain hb0 hb1
    have z1 := Nat.lt_of_lt_of_le hsz hb1.size
    have r2 := World.rangeAt_alloc r1 zB
    have u2 := World.there_alloc u1 zB
    have b2 := Below.alc b1 zB
    have t2 := there_new w1 zBA 26 (n := 19) (by decide)
    have r3 := World.rangeAt_setCells_apart r2 w1.heap.size 0 (ints X) (.inl (by omega))
    have u3 := World.there_setCells u2 w1.heap.size 0 (ints X)
    have b3 := below_cells (ints X) (w1.alloc zB) w1.heap.size 0 b2 (by omega)
    have K5 := loadVarB (World.rangeAt_setCells_same _ (w.heap.size + 1 + 1) 0 (ints b) (by simpa [ints, hb] using u3)) hb
    have K6 := below_cells (ints b) _ (w.heap.size + 1 + 1) 0 b3 (by omega)
    clear r0 t1 hb0 hb1 r1 u1 b1 hsz r2 u2 b2
    unfold zB zBA at *
    go_wp2_with (first | (refine wpList_storeB rfl _ _ rfl _ X rfl rfl t2 hX ?_) | (refine wpList_loadB rfl _ rfl _ rfl b r3 hb ?_) | (refine wpList_storeB rfl _ _ rfl _ b rfl rfl u3 hb ?_))
    exact bodyPost_ret (v := .tuple #[aggI b, .string (bs [63])]) (res_cell2 Tryz.results128 rfl K5) rfl ⟨by rw [HD1.out, HD2.out]; rfl, K6⟩
 · as_aux_lemma =>
    have hXd : X = doB b k a v := by rw [← hXe]; unfold jobB; rw [hp]; rfl
    have HD1 := hid (show doneB b k a v = X by unfold doneB; rw [hp, hXd]; rfl)
    have HD2 := hid (show doneT b k a v = rowTx (showR X) by unfold doneT; rw [hp, hXd]; rfl)
    have hgX : goodB X = true := by rw [hXd]; exact (poss_good hb hg hp).1
    have hL := hX
    have hrl : (showR X).length ≤ 1000 := by rw [show (showR X).length = 6 from shTo_len X 6]; decide
    have hrd := showR_bd hgX
    have HROW := hid (fun W => l12Row_c X true W hL hgX)
    unfold aggI at HROW
    rw [hp] at HM
    clear hp hXe hXd
    go_enter Tryz.func128, Tryz.ntmps128
    go_wp2_with (refine wpList_loadB rfl _ rfl _ rfl b r0 hb ?_)
    refine (HM.out _).mono ?_
    rintro e w1 ⟨rfl, hb1⟩
    have u1 := there_below t1 hb1
    have b1 := Below.chain hb0 hb1
    have z1 := Nat.lt_of_lt_of_le hsz hb1.size
    have u2 := World.there_alloc u1 zB
    have b2 := Below.alc b1 zB
    have t2 := there_new w1 zBA 26 (n := 19) (by decide)
    have u3 := World.there_setCells u2 w1.heap.size 0 (ints X)
    have c3 := World.rangeAt_setCells_same (w1.alloc zB) w1.heap.size 0 (ints X) (by rw [hX19]; exact t2)
    have HBC := hid (below_cells (ints X) (w1.alloc zB) w1.heap.size 0 b2 (by omega))
    clear r0 t1 hb0 hb1 u1 b1 hsz u2 b2 HM
    unfold zB zBA at *
    go_upto_region 4 with (refine wpList_storeB rfl _ _ rfl _ X rfl rfl t2 hX ?_)
    clear t2
    generalize w1.heap.size = g6 at *
    generalize World.setCells _ _ _ _ = wa at *
    refine wp_region_noPanic ?_
    have S_wd : Below wa.heap.size wa wa.drew := (Below.refl _ _).drew
    have R_wd := (show World.rangeAt (wa.drew) g6 0 (ints X) from c3)
    have U_wd := (show World.there (wa.drew) (w.heap.size + 1 + 1) 0 19 from u3)
    clear c3 u3
    refine wp_region_held_drew (S := fun w' : World => w'.rangeAt g6 0 (ints X)) (by kernel_rfl) R_wd (fun hHeld => ?_)
    generalize wa.drew = wd at *
    refine' tkX 0 hHeld ?y_t1 ?r_t1
    case y_t1 =>
     refine' yieldsIf_load_mid ?hw_t1 _ _ rfl _ _ rfl (ints X) _ ?hS_t1 ?hu_t1 ?hd_t1 ?hi_t1
     case hw_t1 => rfl
     case hS_t1 => exact fun (w' : World) (h : w'.rangeAt g6 0 (ints X)) => h
     case hu_t1 => exact Tryz.underlying26
     case hd_t1 => rfl
     case hi_t1 => exact (by rw [show (ints X).length = 19 by simp [ints, hL]]; kernel_rfl)
    try simp only [Act.put, xqA, xqB, xqC]
    refine' tkX 1 hHeld ?y_t2 ?r_t2
    case y_t2 =>
     refine' yieldsIf_load_mid ?hw_t2 _ _ rfl _ _ rfl (ints X) _ ?hS_t2 ?hu_t2 ?hd_t2 ?hi_t2
     case hw_t2 => rfl
     case hS_t2 => exact fun (w' : World) (h : w'.rangeAt g6 0 (ints X)) => h
     case hu_t2 => exact Tryz.underlying26
     case hd_t2 => rfl
     case hi_t2 => exact (by rw [show (ints X).length = 19 by simp [ints, hL]]; kernel_rfl)
    try simp only [Act.put, xqA, xqB, xqC]
    refine wpAnyH_ready (rs := [2]) (by kernel_rfl) (by simp) ?_
    refine' AllReadyH.cons (o := _) ?e_k3 ?st_k3 AllReadyH.nil
    case e_k3 => (simp only [xeA, xeB, xeC]; exact rfl)
    intro K hK
    go_simp
    with_reducible refine (HROW.out wd).mono ?_
    rintro e we4 ⟨u, rfl, ho, hx5⟩
    have R_we4 := range_below R_wd hx5
    clear R_wd
    have U_we4 := there_below U_wd hx5
    clear U_wd
    have I_we4 := hid (show Ints we4 u (showR X) from Ints.of_own ho)
    obtain ⟨ua, uc, rfl, _⟩ := (Sl.of_own ho).slice
    rw [show (rowOf X true 6).length = 6 from shTo_len X 6] at I_we4 ⊢
    have S_we4 := Below.chain S_wd hx5
    clear ho S_wd hx5
    refine hK.out _ _ R_we4 (fun hHeld => ?_)
    clear hK K
    try simp only [Act.put, xqA, xqB, xqC]
    refine wpAnyH_ready (rs := [3]) (by kernel_rfl) (by simp) ?_
    refine' AllReadyH.cons (o := _) ?e_k6 ?st_k6 AllReadyH.nil
    case e_k6 => (simp only [xeA, xeB, xeC]; exact rfl)
    intro K hK
    go_simp
    with_reducible refine (l2Text_c _ (showR X) we4 I_we4.out hrl hrd).mono ?_
    rintro e _ ⟨rfl, rfl⟩
    clear I_we4
    refine hK.out _ _ R_we4 (fun hHeld => ?_)
    clear hK K
    try simp only [Act.put, xqA, xqB, xqC]
    refine wpAnyH_ready (rs := [4]) (by kernel_rfl) (by simp) ?_
    refine' AllReadyH.cons (o := _) ?e_k8 ?st_k8 AllReadyH.nil
    case e_k8 => (simp only [xeA, xeB, xeC]; exact rfl)
    intro K hK
    rw [if_pos (by rfl)]
    refine wp_store_mid _ _ _ rfl _ _ (ints X).toArray rfl rfl (by rw [show (ints X).toArray.size = 19 by simp [ints, hL]]; exact U_we4) (by simpa using hi19 hL) (all_oneCell_toArray ints_one) ?_
    simp only [Act.put, xqA, xqB, xqC, List.toList_toArray]
    have R_we9 := World.rangeAt_setCells_apart R_we4 (w.heap.size + 1 + 1) 0 (ints X) (.inl (by omega))
    have K5 := loadVarB (World.rangeAt_setCells_same we4 (w.heap.size + 1 + 1) 0 (ints X) (by rw [show (ints X).length = 19 by simp [ints, hL]]; exact U_we4)) hL
    have K6 := below_cells (ints X) we4 (w.heap.size + 1 + 1) 0 (Below.chain HBC.out S_we4) (by omega)
    generalize World.setCells _ _ _ _ = we9 at *
    clear S_we4 U_we4
    refine hK.out _ _ R_we9 (fun hHeld => ?_)
    clear hK K
    try simp only [Act.put, xqA, xqB, xqC]
    refine' tkY 5 hHeld ?r_t10
    try simp only [Act.put, xqA, xqB, xqC]
    refine wpAnyH_done (by kernel_rfl) ?_ _
    refine NoPanic.normal ?_
    go_wp2
    exact bodyPost_ret (v := .tuple #[aggI X, .string (bs (rowTx (showR X)))]) (res_cell2 Tryz.results128 rfl K5) rfl ⟨by rw [HD1.out, HD2.out]; rfl, K6⟩
end Go.Proofs.YtohgjfdbnkjefaaGreatDoor
