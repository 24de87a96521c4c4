/- The walk of the checker's l12Decode. -/
import Derived.Test.YtlipkplomndjcaaDoorSplit
import Derived.Deep.RegionHeld3
import Derived.Deep.DeepCutAuto
import Derived.BigRegion
import Derived.RangeFuncBox
namespace Go.Proofs.YtlipkplomndjcaaDoor
open Go.RowKit
set_option linter.unusedVariables false
set_option linter.unusedSimpArgs false
set_option maxRecDepth 100000
/-- what the first part of a split is -/
def Head (c : UInt8) (s A : Bs) (n : Nat) : Prop := (∃ b, s = A ++ c :: b ∧ c ∉ A ∧ 2 ≤ n) ∨ (c ∉ s ∧ A = s ∧ n = 1)
def HeadOut (s : ByteArray) (c : UInt8) (w : World) (e : Ending) (w' : World) : Prop :=
  ∃ g n cap A, e = .returned (.slice (some ⟨g, 0, none⟩) n cap) ∧ w.heap.size ≤ g ∧ 1 ≤ n ∧ n ≤ 9223372036854775807 ∧ w'.cell? ⟨g, 0, none⟩ = some (.string (bs A)) ∧ A.length ≤ s.size ∧ Hid (Head c s.data.toList A n) ∧ Below w.heap.size w w'
theorem l1SplitH_c (s : ByteArray) (c : UInt8) (w : World) (hs : s.size ≤ 1073741824) : Calls Tryd.prog 62 #[.string s, .int .u8 (c.toNat : Int)] w (HeadOut s c w) :=
  (l1Split_c s c w hs).mono fun e w' ⟨v, he, ho, hb⟩ => by
    have hmx : (splitS c s.data.toList).length ≤ 9223372036854775807 := by
      obtain ⟨a, cp, _, hle, hmx⟩ := Sl.of_own ho
      unfold maxLen at hmx; omega
    rcases first_at s.data.toList c with ⟨a, b, hab, hc⟩ | hc
    · obtain ⟨q, l, hq⟩ := split_hit (b := b) hc
      rw [← hab] at hq
      rw [hq] at ho hmx
      obtain ⟨g, cap, rfl⟩ := ownsRow_succ ho
      refine ⟨g, _, cap, a, he, (ho.lt g rfl).1, by simp, hmx, ho.cellAt 0 (by simp), ?_, .inl ⟨b, hab, hc, by simp⟩, hb⟩
      rw [← ba_len, hab]; simp
    · have hq := split_miss hc
      rw [hq] at ho hmx
      obtain ⟨g, cap, rfl⟩ := ownsRow_succ (k := 0) ho
      refine ⟨g, _, cap, s.data.toList, he, (ho.lt g rfl).1, by simp, by simp, ho.cellAt 0 (by simp), by rw [ba_len]; exact Nat.le_refl _, .inr ⟨hc, rfl, rfl⟩, hb⟩
/-- the line of a record: its first part at '#' is the body -/
theorem head_line {s A : Bs} {n k : Nat} {e : Bs × Bs} (h : Head 35 s A n) (he : OkE e) (hs : s ++ [10] = lnS k e) : A = Lib.itoa (k : Int) ++ 32 :: (e.1 ++ 64 :: e.2) := by
  unfold lnS at hs
  have hs := List.append_cancel_right hs
  unfold sealS at hs
  rcases h with ⟨b, hb, hA, _⟩ | ⟨hn, _, _⟩
  · exact (part_inj hA (bodyS_no he (.inl rfl)) (hb.symm.trans hs)).1
  · exact absurd (by rw [hs]; simp) hn
theorem head_ask {r A : Bs} {n : Nat} {x y : Bs} (h : Head 64 r A n) (hx : (64 : UInt8) ∉ x) (hr : r = x ++ 64 :: y) : A = x := by
  rcases h with ⟨b, hb, hA, _⟩ | ⟨hn, _, _⟩
  · exact (part_inj hA hx (hb.symm.trans hr)).1
  · exact absurd (by rw [hr]; simp) hn
def DecSOut (k : Nat) (s : ByteArray) (w : World) (e : Ending) (w' : World) : Prop :=
  ∃ c r ok, e = .returned (.tuple #[recV c r, .bool ok]) ∧ c.size ≤ s.size ∧ r.size ≤ s.size ∧
    Hid (ok = true → OkE (c.data.toList, r.data.toList) ∧ s.data.toList ++ [10] = lnS k (c.data.toList, r.data.toList)) ∧
    Hid (ok = false → ∀ e, OkE e → s.data.toList ++ [10] ≠ lnS k e) ∧ Below w.heap.size w w'
set_option maxHeartbeats 4000000 in
theorem l12Decode_c (k : Nat) (hk : k ≤ 60) (s : ByteArray) (w : World) (hs : s.size ≤ 1048576) : Calls Tryd.prog 63 #[.string s, .int .i64 (k : Int)] w (DecSOut k s w) := by
  have hsz : (bs (Lib.decDigits k)).size ≤ 20 := by rw [bs_size, Lib.decDigits_length]; exact Lib.nDigits_le20 k (by omega)
  have HN := Lib.hid (fun w => l1Num_c k w (by omega))
  have HL := Lib.hid (fun A n e h he hs => @head_line s.data.toList A n k e h he hs)
  have HI : Hid ((bs (Lib.decDigits k) ++ ⟨#[32]⟩).data.toList = Lib.itoa (k : Int) ++ [32]) := by rw [itoa_nat]; show _ = _; simp [bs]
  generalize bs (Lib.decDigits k) = D at *
  go_enter Tryd.func63, Tryd.ntmps63
  go_wp2_with fail
  refine (HN.out _).mono ?_
  rintro e w2 ⟨rfl, hb2⟩
  have B0 := Lib.hid ((Bk.new w 33 #[.string ⟨#[]⟩, .string ⟨#[]⟩]).below hb2)
  have hb0 := Lib.hid (Below.chain (below_one (w := w) (.cells #[.string ⟨#[]⟩, .string ⟨#[]⟩] 33)) hb2)
  clear hb2
  go_wp2_with fail
  refine (l1SplitH_c s 35 _ (by omega)).mono ?_
  rintro e w3 ⟨g1, n1, cap1, A1, rfl, _, hn1, hm1, hq1, hA1, HH1, hb2⟩
  have B1 := Lib.hid (B0.out.below hb2)
  have hb1 := Lib.hid (Below.chain hb0.out hb2)
  clear B0 hb0 hb2
  have hT : (bs A1).size = A1.length := bs_size A1
  have HTL := Lib.hid (bs_list A1)
  have hTs : (bs A1).size ≤ s.size := by omega
  generalize bs A1 = T at *
  have z0 : w3.cell? ⟨w.heap.size, 0, none⟩ = some (.string ⟨#[]⟩) := B1.out.cell 0
  have z1 : w3.cell? ⟨w.heap.size, 1, none⟩ = some (.string ⟨#[]⟩) := B1.out.cell 1
  have f0 : w3.frozen? ⟨w.heap.size, 0, none⟩ = false := B1.out.frozen 0
  have f1 : w3.frozen? ⟨w.heap.size, 1, none⟩ = false := B1.out.frozen 1
  have HTn := Lib.hid hT
  clear hT hA1
  have NO : Hid ((∀ e : Bs × Bs, OkE e → A1 ≠ Lib.itoa (k : Int) ++ 32 :: (e.1 ++ 64 :: e.2)) → ∀ w', Below w.heap.size w w' → DecSOut k s w (.returned (.tuple #[.agg #[.string ⟨#[]⟩, .string ⟨#[]⟩], .bool false])) w') :=
    fun h w' hb => ⟨⟨#[]⟩, ⟨#[]⟩, false, rfl, Nat.zero_le _, Nat.zero_le _, (fun h => by cases h), (fun _ e he hl => h e he (HL.out A1 n1 e HH1.out he hl)), hb⟩
  by_cases hlt : T.size < D.size + 1
  · have hd : decide ((T.size : Int) < (D.size : Int) + 1) = true := by simp; omega
    have NO2 := Lib.hid (NO.out (fun e he hA => by
      have h1 := congrArg List.length hA
      have h2 := congrArg List.length HI.out
      have h3 : (D ++ ⟨#[32]⟩).data.toList.length = D.size + 1 := by rw [ba_len]; simp [ByteArray.size_append]; rfl
      have := HTn.out
      simp at h1 h2 h3
      omega))
    clear NO
    go_wp2
    exact bodyPost_ret (v := .tuple #[.agg #[.string ⟨#[]⟩, .string ⟨#[]⟩], .bool false]) (by simp [results, Tryd.results63, go_sem, z0, z1]) rfl (NO2.out _ (by have hb := hb1.out; exact (hb.setCell (p := ⟨w.heap.size, 0, none⟩) (Nat.le_refl _) _).setCell (p := ⟨w.heap.size, 1, none⟩) (Nat.le_refl _) _))
  · have hd : decide ((T.size : Int) < (D.size : Int) + 1) = false := by simp; omega
    have hsD : (D ++ ⟨#[32]⟩).data.toList.length = D.size + 1 := by rw [ba_len]; simp [ByteArray.size_append]; rfl
    have hx0 : (T.extract 0 (D.size + 1)).data.toList = T.data.toList.take (D.size + 1) := by rw [Lib.extract_data]; simp
    have hx1 : (T.extract (D.size + 1) T.size).data.toList = T.data.toList.drop (D.size + 1) := Lib.extract_to_end T (D.size + 1)
    have hRs : (T.extract (D.size + 1) T.size).size = T.size - (D.size + 1) := by rw [← ba_len, hx1, List.length_drop, ba_len]
    have hpp : (D.size : Int) + 1 ≤ (T.size : Int) := by omega
    by_cases hq : T.extract 0 (D.size + 1) = D ++ ⟨#[32]⟩
    · have hqe := str_eq hq
      have HTD : Hid (T.data.toList = (Lib.itoa (k : Int) ++ [32]) ++ (T.extract (D.size + 1) T.size).data.toList) := by
        show _ = _
        rw [hx1, ← HI.out, ← hq, hx0, List.take_append_drop]
      have HRS := Lib.hid (show (T.extract (D.size + 1) T.size).size ≤ s.size by omega)
      have HRT := Lib.hid (show ((T.size - (D.size + 1) : Nat) : Int) = ((T.extract (D.size + 1) T.size).size : Int) by rw [hRs])
      clear hq hx0 hx1 hsD hRs
      go_wp2_with fail
      refine (l1SplitH_c _ 64 _ (by have := HRS.out; omega)).mono ?_
      rintro e w4 ⟨g2, n2, cap2, A2, rfl, _, hn2, hm2, hq2, hA2, HH2, hb2⟩
      have B2 := Lib.hid (B1.out.below hb2)
      have hb3 := Lib.hid (Below.chain hb1.out hb2)
      have y0 : w4.cell? ⟨w.heap.size, 0, none⟩ = some (.string ⟨#[]⟩) := B2.out.cell 0
      have y1 : w4.cell? ⟨w.heap.size, 1, none⟩ = some (.string ⟨#[]⟩) := B2.out.cell 1
      have v0 : w4.frozen? ⟨w.heap.size, 0, none⟩ = false := B2.out.frozen 0
      have v1 : w4.frozen? ⟨w.heap.size, 1, none⟩ = false := B2.out.frozen 1
      clear z0 z1 f0 f1 hb2 B1 hb1 hq1 hqe
      generalize T.extract (D.size + 1) T.size = R at *
      have hQ : (bs A2).size = A2.length := bs_size A2
      have HQL := Lib.hid (bs_list A2)
      generalize bs A2 = Q at *
      have hRs := HRS.out
      have HQn := Lib.hid hQ
      have hQs : Q.size ≤ R.size := by omega
      clear hQ hA2
      rcases HH2.out with ⟨b, hRb, hno, _⟩ | ⟨hno, hA, _⟩
      · have hlenR : R.size = Q.size + 1 + b.length := by rw [← ba_len, hRb, HQn.out]; simp; omega
        have hqs : ((Q.size : Int) == (R.size : Int)) = false := by simp; omega
        have hw : IntKind.i64.wrap ((Q.size : Int) + 1) = (Q.size : Int) + 1 := IntWalk.i64_in _ (by omega)
        have hp2 : (Q.size : Int) + 1 ≤ (R.size : Int) := by omega
        have hE : R.extract (Q.size + 1) R.size = bs b := by rw [HQn.out]; exact ext_from hRb
        have hEs : (R.extract (Q.size + 1) R.size).size ≤ s.size := by rw [hE, bs_size]; omega
        have HE2 := Lib.hid hE
        have HEs := Lib.hid hEs
        have HRb := Lib.hid hRb
        have hQs2 : Q.size ≤ s.size := by omega
        clear hE hEs hRb hlenR NO
        go_upto_region 10 with fail
        have C0 := Bk.new w4 33 #[.string Q, .string (R.extract (Q.size + 1) R.size)]
        have B3 := B2.out.alloc (.cells #[.string Q, .string (R.extract (Q.size + 1) R.size)] 33)
        have hb4 := Lib.hid (Below.alc hb3.out (.cells #[.string Q, .string (R.extract (Q.size + 1) R.size)] 33))
        have hgg := C0.lt
        have hgm := B2.out.lt
        generalize w4.alloc (.cells #[.string Q, .string (R.extract (Q.size + 1) R.size)] 33) = w5 at *
        generalize w4.heap.size = g5 at *
        clear y0 y1 v0 v1 hb3 B2
        generalize R.extract (Q.size + 1) R.size = Rp at *
        have q0 : w5.cell? ⟨g5, 0, none⟩ = some (.string Q) := C0.cell 0
        have q1 : w5.cell? ⟨g5, 1, none⟩ = some (.string Rp) := C0.cell 1
        have y0 : w5.cell? ⟨w.heap.size, 0, none⟩ = some (.string ⟨#[]⟩) := B3.cell 0
        have y1 : w5.cell? ⟨w.heap.size, 1, none⟩ = some (.string ⟨#[]⟩) := B3.cell 1
        have v0 : w5.frozen? ⟨w.heap.size, 0, none⟩ = false := B3.frozen 0
        have v1 : w5.frozen? ⟨w.heap.size, 1, none⟩ = false := B3.frozen 1
        have C1 := Lib.hid C0
        have B4 := Lib.hid B3
        clear C0 B3
        have HRV := Lib.hid (l12Record_c Q Rp)
        have HLN := Lib.hid (fun w => l12Line_c k (by omega) Q Rp w (by omega) (by have := HEs.out; omega))
        unfold recV at HRV HLN
        have hne : w.heap.size ≠ g5 := by omega
        have hs1 : ¬ (9223372036854775807 < s.size + 1) := by omega
        have hs2 : ¬ (9223372036854775807 ≤ s.size) := by omega
        have ONLY : ∀ e : Bs × Bs, OkE e → s.data.toList ++ [10] = lnS k e → e = (Q.data.toList, Rp.data.toList) := fun e he hl => by
          have h1 := HTD.out
          rw [HTL.out, HL.out A1 n1 e HH1.out he hl, HRb.out] at h1
          simp only [List.append_assoc, List.singleton_append] at h1
          have h2 := List.append_cancel_left h1
          simp only [List.cons.injEq, true_and] at h2
          obtain ⟨h3, h4⟩ := part_inj he.at_ hno h2
          rw [HQL.out, HE2.out, bs_list, ← h3, ← h4]
        have NO3 : Hid (∀ w', Below w.heap.size w w' → recB Q Rp = false → DecSOut k s w (.returned (.tuple #[.agg #[.string Q, .string Rp], .bool false])) w') := fun w' hb hr =>
          ⟨Q, Rp, false, rfl, hQs2, HEs.out, (fun h => by cases h), (fun _ e he hl => by
            have := ONLY e he hl
            rw [this] at he
            rw [recB_iff.2 he] at hr; cases hr), hb⟩
        have YES3 : Hid (∀ w', Below w.heap.size w w' → recB Q Rp = true → DecSOut k s w (.returned (.tuple #[.agg #[.string Q, .string Rp], .bool ((bs (lineS (k : Int) Q.data.toList Rp.data.toList)).toList == (s ++ ⟨#[10]⟩).toList)])) w') := fun w' hb hr => by
          have hln : bs (lineS (k : Int) Q.data.toList Rp.data.toList) = s ++ ⟨#[10]⟩ ↔ s.data.toList ++ [10] = lnS k (Q.data.toList, Rp.data.toList) := by
            rw [lnS_def]
            constructor
            · intro h
              have := congrArg (fun x : ByteArray => x.data.toList) h
              simpa [bs_list] using this.symm
            · intro h
              rw [← h]; exact (bs_eq (by simp)).symm
          refine ⟨Q, Rp, _, rfl, hQs2, HEs.out, (fun h => ⟨recB_iff.1 hr, hln.1 ?_⟩), (fun h e he hl => ?_), hb⟩
          · by_cases hc : bs (lineS (k : Int) Q.data.toList Rp.data.toList) = s ++ ⟨#[10]⟩
            · exact hc
            · rw [str_ne hc] at h; cases h
          · have h2 := ONLY e he hl
            rw [h2] at hl
            rw [str_eq (hln.2 hl)] at h; cases h
        clear ONLY hno
        rcases hrc : recB Q Rp with _ | _
        · have HRC := Lib.hid hrc
          clear hrc
          -- REGION
          refine wp_region_held_drew (S := fun w' : World => w'.cell? ⟨g5, 0, none⟩ = some (.string Q) ∧ w'.cell? ⟨g5, 1, none⟩ = some (.string Rp)) (by kernel_rfl) ⟨q0, q1⟩ (fun hHeld => ?_)
          refine' wpAnyH_take (i := 0) (oi := _) (v := _) ?e_1 ?a_1 ?b_1 ?c_1 ?q_1 ?y_1 hHeld ?r_1
          case e_1 => (simp only [List.getElem?_toArray, List.getElem?_cons_zero, List.getElem?_cons_succ]; exact rfl)
          case a_1 => kernel_rfl
          case b_1 => kernel_rfl
          case c_1 => kernel_rfl
          case q_1 => exact fun _ _ _ h => h
          case y_1 => exact Or.inl ⟨by rfl, by (intro w hSw; (obtain ⟨hs1, hs2⟩ := hSw); go_simp; first | done | with_reducible rfl)⟩
          try simp only [Act.put, List.setIfInBounds_toArray, List.set_cons_zero, List.set_cons_succ]
          refine' wpAnyH_take (i := 1) (oi := _) (v := _) ?e_2 ?a_2 ?b_2 ?c_2 ?q_2 ?y_2 hHeld ?r_2
          case e_2 => (simp only [List.getElem?_toArray, List.getElem?_cons_zero, List.getElem?_cons_succ]; exact rfl)
          case a_2 => kernel_rfl
          case b_2 => kernel_rfl
          case c_2 => kernel_rfl
          case q_2 => exact fun _ _ _ h => h
          case y_2 => exact Or.inl ⟨by rfl, by (intro w hSw; (obtain ⟨hs1, hs2⟩ := hSw); go_simp; first | done | with_reducible rfl)⟩
          try simp only [Act.put, List.setIfInBounds_toArray, List.set_cons_zero, List.set_cons_succ]
          refine wpAnyH_ready (rs := [2]) (by kernel_rfl) (by simp) ?_
          refine' AllReadyH.cons (o := _) ?e_3 ?st_3 AllReadyH.nil
          case e_3 => (simp only [List.getElem?_toArray, List.getElem?_cons_zero, List.getElem?_cons_succ]; exact rfl)
          intro K hK
          go_simp
          refine (HRV.out _ (by omega) (by have := HEs.out; omega)).mono ?_
          rintro e wa ⟨rfl, hba⟩
          rw [HRC.out]
          have y0a := cell_later hba y0
          have y1a := cell_later hba y1
          have v0a := (hba.frozen (p := ⟨w.heap.size, 0, none⟩) (World.block_lt_of_cell? _ _ y0)).trans v0
          have v1a := (hba.frozen (p := ⟨w.heap.size, 1, none⟩) (World.block_lt_of_cell? _ _ y1)).trans v1
          have q0a := cell_later hba q0
          have q1a := cell_later hba q1
          have HBA := Lib.hid (Below.chain hb4.out.drew hba)
          clear hba
          refine hK.out _ _ ⟨q0a, q1a⟩ (fun hHeld => ?_)
          clear hK K
          try simp only [Act.put, List.setIfInBounds_toArray, List.set_cons_zero, List.set_cons_succ]
          refine' wpAnyH_take (i := 3) (oi := _) (v := _) ?e_4 ?a_4 ?b_4 ?c_4 ?q_4 ?y_4 hHeld ?r_4
          case e_4 => (simp only [List.getElem?_toArray, List.getElem?_cons_zero, List.getElem?_cons_succ]; exact rfl)
          case a_4 => kernel_rfl
          case b_4 => kernel_rfl
          case c_4 => kernel_rfl
          case q_4 => exact fun _ _ _ h => h
          case y_4 => exact Or.inl ⟨by rfl, by (intro w hSw; (try dsimp only at hSw); go_simp; first | done | with_reducible rfl)⟩
          try simp only [Act.put, List.setIfInBounds_toArray, List.set_cons_zero, List.set_cons_succ]
          refine' wpAnyH_take (i := 4) (oi := _) (v := undef) ?e_5 ?a_5 ?b_5 ?c_5 ?q_5 ?y_5 hHeld ?r_5
          case e_5 => (simp only [List.getElem?_toArray, List.getElem?_cons_zero, List.getElem?_cons_succ]; exact rfl)
          case a_5 => kernel_rfl
          case b_5 => kernel_rfl
          case c_5 => kernel_rfl
          case q_5 => exact fun _ _ _ h => h
          case y_5 => exact Or.inr ⟨by rfl, rfl⟩
          try simp only [Act.put, List.setIfInBounds_toArray, List.set_cons_zero, List.set_cons_succ]
          refine' wpAnyH_take (i := 5) (oi := _) (v := undef) ?e_6 ?a_6 ?b_6 ?c_6 ?q_6 ?y_6 hHeld ?r_6
          case e_6 => (simp only [List.getElem?_toArray, List.getElem?_cons_zero, List.getElem?_cons_succ]; exact rfl)
          case a_6 => kernel_rfl
          case b_6 => kernel_rfl
          case c_6 => kernel_rfl
          case q_6 => exact fun _ _ _ h => h
          case y_6 => exact Or.inr ⟨by rfl, rfl⟩
          try simp only [Act.put, List.setIfInBounds_toArray, List.set_cons_zero, List.set_cons_succ]
          refine' wpAnyH_take (i := 6) (oi := _) (v := undef) ?e_7 ?a_7 ?b_7 ?c_7 ?q_7 ?y_7 hHeld ?r_7
          case e_7 => (simp only [List.getElem?_toArray, List.getElem?_cons_zero, List.getElem?_cons_succ]; exact rfl)
          case a_7 => kernel_rfl
          case b_7 => kernel_rfl
          case c_7 => kernel_rfl
          case q_7 => exact fun _ _ _ h => h
          case y_7 => exact Or.inr ⟨by rfl, rfl⟩
          try simp only [Act.put, List.setIfInBounds_toArray, List.set_cons_zero, List.set_cons_succ]
          refine' wpAnyH_take (i := 7) (oi := _) (v := undef) ?e_8 ?a_8 ?b_8 ?c_8 ?q_8 ?y_8 hHeld ?r_8
          case e_8 => (simp only [List.getElem?_toArray, List.getElem?_cons_zero, List.getElem?_cons_succ]; exact rfl)
          case a_8 => kernel_rfl
          case b_8 => kernel_rfl
          case c_8 => kernel_rfl
          case q_8 => exact fun _ _ _ h => h
          case y_8 => exact Or.inr ⟨by rfl, rfl⟩
          try simp only [Act.put, List.setIfInBounds_toArray, List.set_cons_zero, List.set_cons_succ]
          refine' wpAnyH_take (i := 8) (oi := _) (v := undef) ?e_9 ?a_9 ?b_9 ?c_9 ?q_9 ?y_9 hHeld ?r_9
          case e_9 => (simp only [List.getElem?_toArray, List.getElem?_cons_zero, List.getElem?_cons_succ]; exact rfl)
          case a_9 => kernel_rfl
          case b_9 => kernel_rfl
          case c_9 => kernel_rfl
          case q_9 => exact fun _ _ _ h => h
          case y_9 => exact Or.inr ⟨by rfl, rfl⟩
          try simp only [Act.put, List.setIfInBounds_toArray, List.set_cons_zero, List.set_cons_succ]
          refine' wpAnyH_take (i := 9) (oi := _) (v := undef) ?e_10 ?a_10 ?b_10 ?c_10 ?q_10 ?y_10 hHeld ?r_10
          case e_10 => (simp only [List.getElem?_toArray, List.getElem?_cons_zero, List.getElem?_cons_succ]; exact rfl)
          case a_10 => kernel_rfl
          case b_10 => kernel_rfl
          case c_10 => kernel_rfl
          case q_10 => exact fun _ _ _ h => h
          case y_10 => exact Or.inr ⟨by rfl, rfl⟩
          try simp only [Act.put, List.setIfInBounds_toArray, List.set_cons_zero, List.set_cons_succ]
          refine' wpAnyH_take (i := 10) (oi := _) (v := _) ?e_11 ?a_11 ?b_11 ?c_11 ?q_11 ?y_11 hHeld ?r_11
          case e_11 => (simp only [List.getElem?_toArray, List.getElem?_cons_zero, List.getElem?_cons_succ]; exact rfl)
          case a_11 => kernel_rfl
          case b_11 => kernel_rfl
          case c_11 => kernel_rfl
          case q_11 => exact fun _ _ _ h => h
          case y_11 => exact Or.inl ⟨by rfl, by (intro w hSw; (try dsimp only at hSw); go_simp; first | done | with_reducible rfl)⟩
          try simp only [Act.put, List.setIfInBounds_toArray, List.set_cons_zero, List.set_cons_succ]
          refine wpAnyH_ready (rs := [11]) (by kernel_rfl) (by simp) ?_
          refine' AllReadyH.cons (o := _) ?e_12 ?st_12 AllReadyH.nil
          case e_12 => (simp only [List.getElem?_toArray, List.getElem?_cons_zero, List.getElem?_cons_succ]; exact rfl)
          intro K hK
          go_simp
          refine hK.out _ _ ?_ (fun hHeld => ?_)
          · exact ⟨(World.cell?_setCell_far _ _ _ _ hne).trans ((World.cell?_setCell_far _ _ _ _ hne).trans q0a), (World.cell?_setCell_far _ _ _ _ hne).trans ((World.cell?_setCell_far _ _ _ _ hne).trans q1a)⟩
          clear hK K
          try simp only [Act.put, List.setIfInBounds_toArray, List.set_cons_zero, List.set_cons_succ]
          refine' wpAnyH_take (i := 12) (oi := _) (v := _) ?e_13 ?a_13 ?b_13 ?c_13 ?q_13 ?y_13 hHeld ?r_13
          case e_13 => (simp only [List.getElem?_toArray, List.getElem?_cons_zero, List.getElem?_cons_succ]; exact rfl)
          case a_13 => kernel_rfl
          case b_13 => kernel_rfl
          case c_13 => kernel_rfl
          case q_13 => exact fun _ _ _ h => h
          case y_13 => exact Or.inl ⟨by rfl, by (intro w hSw; (try dsimp only at hSw); go_simp; first | done | with_reducible rfl)⟩
          try simp only [Act.put, List.setIfInBounds_toArray, List.set_cons_zero, List.set_cons_succ]
          refine wpAnyH_done (by kernel_rfl) ?_ _
          -- END
          go_wp2
          exact bodyPost_ret (v := .tuple #[.agg #[.string Q, .string Rp], .bool false]) (by simp [results, Tryd.results63, go_sem, y0a, y1a]) rfl (NO3.out _ (by have hb := HBA.out; exact (hb.setCell (p := ⟨w.heap.size, 0, none⟩) (Nat.le_refl _) _).setCell (p := ⟨w.heap.size, 1, none⟩) (Nat.le_refl _) _) HRC.out)
        · have HRC := Lib.hid hrc
          clear hrc
          go_region_held3 (fun w' => w'.cell? ⟨g5, 0, none⟩ = some (.string Q) ∧ w'.cell? ⟨g5, 1, none⟩ = some (.string Rp)) (first | go_keep | (go_split_ands; exact ⟨cell_later hbb ‹_›, cell_later hbb ‹_›⟩) | (go_split_ands; exact ⟨cell_later hba ‹_›, cell_later hba ‹_›⟩))
            (first | (go_at_call 40; refine (HRV.out _ (by omega) (by have := HEs.out; omega)).mono ?_; rintro e wa ⟨rfl, hba⟩; rw [HRC.out]) | (go_at_call 41; refine (HLN.out _).mono ?_; rintro e wb ⟨rfl, hbb⟩; have HBB := Lib.hid (Below.chain (Below.chain hb4.out.drew hba) hbb); have y0b := cell_later hbb (cell_later hba y0); have y1b := cell_later hbb (cell_later hba y1); have v0b := (hbb.frozen (p := ⟨w.heap.size, 0, none⟩) (World.block_lt_of_cell? _ _ (cell_later hba y0))).trans ((hba.frozen (p := ⟨w.heap.size, 0, none⟩) (World.block_lt_of_cell? _ _ y0)).trans v0); have v1b := (hbb.frozen (p := ⟨w.heap.size, 1, none⟩) (World.block_lt_of_cell? _ _ (cell_later hba y1))).trans ((hba.frozen (p := ⟨w.heap.size, 1, none⟩) (World.block_lt_of_cell? _ _ y1)).trans v1)))
          go_wp2
          exact bodyPost_ret (v := .tuple #[.agg #[.string Q, .string Rp], .bool ((bs (lineS (k : Int) Q.data.toList Rp.data.toList)).toList == (s ++ ⟨#[10]⟩).toList)]) (by simp [results, Tryd.results63, go_sem, y0b, y1b]) rfl (YES3.out _ (by have hb := HBB.out; exact (hb.setCell (p := ⟨w.heap.size, 0, none⟩) (Nat.le_refl _) _).setCell (p := ⟨w.heap.size, 1, none⟩) (Nat.le_refl _) _) HRC.out)
      · have hqs : ((Q.size : Int) == (R.size : Int)) = true := by
          rw [HQn.out, hA, ba_len]; simp
        have NO2 := Lib.hid (NO.out (fun e he hA1 => hno (by
          have h1 := HTD.out
          rw [HTL.out, hA1, List.append_assoc] at h1
          have h2 := List.append_cancel_left h1
          simp only [List.singleton_append, List.cons.injEq, true_and] at h2
          rw [← h2]; simp)))
        clear NO hno hA
        go_wp2
        exact bodyPost_ret (v := .tuple #[.agg #[.string ⟨#[]⟩, .string ⟨#[]⟩], .bool false]) (by simp [results, Tryd.results63, go_sem, y0, y1]) rfl (NO2.out _ (by have hb := hb3.out; exact (hb.setCell (p := ⟨w.heap.size, 0, none⟩) (Nat.le_refl _) _).setCell (p := ⟨w.heap.size, 1, none⟩) (Nat.le_refl _) _))
    · have hqe := str_ne hq
      have NO2 := Lib.hid (NO.out (fun e he hA => hq (by
        have h1 : T.data.toList = (D ++ ⟨#[32]⟩).data.toList ++ (e.1 ++ 64 :: e.2) := by rw [HTL.out, hA, HI.out]; simp
        rw [bs_eq hx0, h1, ← hsD, List.take_left, bs_of])))
      clear NO hq hx0 hx1 hsD hRs
      go_wp2
      exact bodyPost_ret (v := .tuple #[.agg #[.string ⟨#[]⟩, .string ⟨#[]⟩], .bool false]) (by simp [results, Tryd.results63, go_sem, z0, z1]) rfl (NO2.out _ (by have hb := hb1.out; exact (hb.setCell (p := ⟨w.heap.size, 0, none⟩) (Nat.le_refl _) _).setCell (p := ⟨w.heap.size, 1, none⟩) (Nat.le_refl _) _))
end Go.Proofs.YtlipkplomndjcaaDoor
