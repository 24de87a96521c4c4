/- Texts of this claim, gathered: DecS, Lines, Loop, ReadL, OpenS. -/
import Derived.Test.YtohgjfdbnkjefaaGreatDoorKx14
import Derived.Deep.RegionHeld3
import Derived.Deep.DeepCutAuto
import Derived.BigRegion
import Derived.RangeFuncBox
import Derived.RangeFuncLeaves
import Derived.RangeFuncCalls
import Derived.RangeFuncNested
import Derived.Shelf.Abstract
import Derived.WalkKit
import Derived.OwnWalkIn
import Derived.TacticsInMore
import Derived.LoopNIn
import Derived.LoopIn
import Derived.Maps.AppendAt
import Derived.Maps.OwnIn
namespace Go.Proofs.YtohgjfdbnkjefaaGreatDoor
open Go.RowKit
set_option linter.unusedVariables false
set_option linter.unusedSimpArgs false
set_option maxRecDepth 100000
def Head (c : UInt8) (s A : Bs) (n : Nat) : Prop := (∃ b, s = A ++ c :: b ∧ c ∉ A ∧ 2 ≤ n) ∨ (c ∉ s ∧ A = s ∧ n = 1)
def HeadOut (s : ByteArray) (c : UInt8) (w : World) (e : Ending) (w' : World) : Prop :=
 ∃ g n cap A, e = .returned (.slice (some ⟨g, 0, none⟩) n cap) ∧ w.heap.size ≤ g ∧ 1 ≤ n ∧ n ≤ 9223372036854775807 ∧ w'.cell? ⟨g, 0, none⟩ = some (.string (bs A)) ∧ A.length ≤ s.size ∧ Hid (Head c s.data.toList A n) ∧ Below w.heap.size w w'
theorem l1SplitH_c (s : ByteArray) (c : UInt8) (w : World) (hs : s.size ≤ 1073741824) : Calls Tryz.prog 76 #[.string s, .int .u8 (c.toNat : Int)] w (HeadOut s c w) :=
 (l1Split_c s c w hs).mono fun e w' ⟨v, he, ho, hb⟩ => by
  have hmx : (splitS c s.data.toList).length ≤ 9223372036854775807 := by
   obtain ⟨a, cp, _, hle, hmx⟩ := Sl.of_own ho
   unfold maxLen at hmx; omega
  rcases first_at s.data.toList c with ⟨a, b, hab, hc⟩ | hc
  · obtain ⟨q, l, hq⟩ := split_hit (b := b) hc
    rw [← hab] at hq
    rw [hq] at ho hmx
    obtain ⟨g, cap, rfl⟩ := ownsRow_succ ho
    refine ⟨g, _, cap, a, he, (ho.lt g rfl).1, by simp, hmx, ho.cellAt 0 (by simp), ?_, .inl ⟨b, hab, hc, by simp⟩, hb⟩
    rw [← ba_len, hab]; simp
  · have hq := split_miss hc
    rw [hq] at ho hmx
    obtain ⟨g, cap, rfl⟩ := ownsRow_succ (k := 0) ho
    refine ⟨g, _, cap, s.data.toList, he, (ho.lt g rfl).1, by simp, by simp, ho.cellAt 0 (by simp), by rw [ba_len]; exact Nat.le_refl _, .inr ⟨hc, rfl, rfl⟩, hb⟩
theorem head_line {s A : Bs} {n k : Nat} {e : Bs × Bs} (h : Head 35 s A n) (he : OkE e) (hs : s ++ [10] = lnS k e) : A = Lib.itoa (k : Int) ++ 32 :: (e.1 ++ 64 :: e.2) := by
 unfold lnS at hs
 have hs := List.append_cancel_right hs
 unfold sealS at hs
 rcases h with ⟨b, hb, hA, _⟩ | ⟨hn, _, _⟩
 · exact (part_inj hA (bodyS_no he (.inl rfl)) (hb.symm.trans hs)).1
 · exact absurd (by rw [hs]; simp) hn
def DecSOut (k : Nat) (s : ByteArray) (w : World) (e : Ending) (w' : World) : Prop :=
 ∃ c r ok, e = .returned (.tuple #[recV c r, .bool ok]) ∧ c.size ≤ s.size ∧ r.size ≤ s.size ∧
  Hid (ok = true → OkE (c.data.toList, r.data.toList) ∧ s.data.toList ++ [10] = lnS k (c.data.toList, r.data.toList)) ∧
  Hid (ok = false → ∀ e, OkE e → s.data.toList ++ [10] ≠ lnS k e) ∧ Below w.heap.size w w'
set_option maxHeartbeats 4000000 in
theorem l12Decode_c (k : Nat) (hk : k ≤ 60) (s : ByteArray) (w : World) (hs : s.size ≤ 1048576) : Calls Tryz.prog 121 #[.string s, .int .i64 (k : Int)] w (DecSOut k s w) := by
 have hsz : (bs (Lib.decDigits k)).size ≤ 20 := by rw [bs_size, Lib.decDigits_length]; exact Lib.nDigits_le20 k (by omega)
 have HN := Lib.hid (fun w => l1Num_c k w (by omega))
 have HL := Lib.hid (fun A n e h he hs => @head_line s.data.toList A n k e h he hs)
 have HI : Hid ((bs (Lib.decDigits k) ++ ⟨#[32]⟩).data.toList = Lib.itoa (k : Int) ++ [32]) := by rw [itoa_nat]; show _ = _; simp [bs]
 generalize bs (Lib.decDigits k) = D at *
 go_enter Tryz.func121, Tryz.ntmps121
 go_wp2_with fail
 refine (HN.out _).mono ?_
 rintro e w2 ⟨rfl, hb2⟩
 have B0 := Lib.hid ((Bk.new w 76 #[.string ⟨#[]⟩, .string ⟨#[]⟩]).below hb2)
 have hb0 := Lib.hid (Below.chain (below_one (w := w) (.cells #[.string ⟨#[]⟩, .string ⟨#[]⟩] 76)) hb2)
 clear hb2
 go_wp2_with fail
 refine (l1SplitH_c s 35 _ (by omega)).mono ?_
 rintro e w3 ⟨g1, n1, cap1, A1, rfl, _, hn1, hm1, hq1, hA1, HH1, hb2⟩
 have B1 := Lib.hid (B0.out.below hb2)
 have hb1 := Lib.hid (Below.chain hb0.out hb2)
 clear B0 hb0 hb2
 have hT : (bs A1).size = A1.length := bs_size A1
 have HTL := Lib.hid (bs_list A1)
 have hTs : (bs A1).size ≤ s.size := by omega
 generalize bs A1 = T at *
 have z0 : w3.cell? ⟨w.heap.size, 0, none⟩ = some (.string ⟨#[]⟩) := B1.out.cell 0
 have z1 : w3.cell? ⟨w.heap.size, 1, none⟩ = some (.string ⟨#[]⟩) := B1.out.cell 1
 have f0 : w3.frozen? ⟨w.heap.size, 0, none⟩ = false := B1.out.frozen 0
 have f1 : w3.frozen? ⟨w.heap.size, 1, none⟩ = false := B1.out.frozen 1
 have HTn := Lib.hid hT
 clear hT hA1
 have NO : Hid ((∀ e : Bs × Bs, OkE e → A1 ≠ Lib.itoa (k : Int) ++ 32 :: (e.1 ++ 64 :: e.2)) → ∀ w', Below w.heap.size w w' → DecSOut k s w (.returned (.tuple #[.agg #[.string ⟨#[]⟩, .string ⟨#[]⟩], .bool false])) w') :=
  fun h w' hb => ⟨⟨#[]⟩, ⟨#[]⟩, false, rfl, Nat.zero_le _, Nat.zero_le _, (fun h => by cases h), (fun _ e he hl => h e he (HL.out A1 n1 e HH1.out he hl)), hb⟩
 by_cases hlt : T.size < D.size + 1
 · have hd : decide ((T.size : Int) < (D.size : Int) + 1) = true := by simp; omega
   have NO2 := Lib.hid (NO.out (fun e he hA => by
    have h1 := congrArg List.length hA
    have h2 := congrArg List.length HI.out
    have h3 : (D ++ ⟨#[32]⟩).data.toList.length = D.size + 1 := by rw [ba_len]; simp [ByteArray.size_append]; rfl
    have := HTn.out
    simp at h1 h2 h3
    omega))
   clear NO
   go_wp2
   exact bodyPost_ret (v := .tuple #[.agg #[.string ⟨#[]⟩, .string ⟨#[]⟩], .bool false]) (by simp [results, Tryz.results121, go_sem, z0, z1]) rfl (NO2.out _ (by have hb := hb1.out; exact (hb.setCell (p := ⟨w.heap.size, 0, none⟩) (Nat.le_refl _) _).setCell (p := ⟨w.heap.size, 1, none⟩) (Nat.le_refl _) _))
 · have hd : decide ((T.size : Int) < (D.size : Int) + 1) = false := by simp; omega
   have hsD : (D ++ ⟨#[32]⟩).data.toList.length = D.size + 1 := by rw [ba_len]; simp [ByteArray.size_append]; rfl
   have hx0 : (T.extract 0 (D.size + 1)).data.toList = T.data.toList.take (D.size + 1) := by rw [Lib.extract_data]; simp
   have hx1 : (T.extract (D.size + 1) T.size).data.toList = T.data.toList.drop (D.size + 1) := Lib.extract_to_end T (D.size + 1)
   have hRs : (T.extract (D.size + 1) T.size).size = T.size - (D.size + 1) := by rw [← ba_len, hx1, List.length_drop, ba_len]
   have hpp : (D.size : Int) + 1 ≤ (T.size : Int) := by omega
   by_cases hq : T.extract 0 (D.size + 1) = D ++ ⟨#[32]⟩
   · have hqe := str_eq hq
     have HTD : Hid (T.data.toList = (Lib.itoa (k : Int) ++ [32]) ++ (T.extract (D.size + 1) T.size).data.toList) := by
      show _ = _
      rw [hx1, ← HI.out, ← hq, hx0, List.take_append_drop]
     have HRS := Lib.hid (show (T.extract (D.size + 1) T.size).size ≤ s.size by omega)
     have HRT := Lib.hid (show ((T.size - (D.size + 1) : Nat) : Int) = ((T.extract (D.size + 1) T.size).size : Int) by rw [hRs])
     clear hq hx0 hx1 hsD hRs
     go_wp2_with fail
     refine (l1SplitH_c _ 64 _ (by have := HRS.out; omega)).mono ?_
     rintro e w4 ⟨g2, n2, cap2, A2, rfl, _, hn2, hm2, hq2, hA2, HH2, hb2⟩
     have B2 := Lib.hid (B1.out.below hb2)
     have hb3 := Lib.hid (Below.chain hb1.out hb2)
     have y0 : w4.cell? ⟨w.heap.size, 0, none⟩ = some (.string ⟨#[]⟩) := B2.out.cell 0
     have y1 : w4.cell? ⟨w.heap.size, 1, none⟩ = some (.string ⟨#[]⟩) := B2.out.cell 1
     have v0 : w4.frozen? ⟨w.heap.size, 0, none⟩ = false := B2.out.frozen 0
     have v1 : w4.frozen? ⟨w.heap.size, 1, none⟩ = false := B2.out.frozen 1
     clear z0 z1 f0 f1 hb2 B1 hb1 hq1 hqe
     generalize T.extract (D.size + 1) T.size = R at *
     have hQ : (bs A2).size = A2.length := bs_size A2
     have HQL := Lib.hid (bs_list A2)
     generalize bs A2 = Q at *
     have hRs := HRS.out
     have HQn := Lib.hid hQ
     have hQs : Q.size ≤ R.size := by omega
     clear hQ hA2
     rcases HH2.out with ⟨b, hRb, hno, _⟩ | ⟨hno, hA, _⟩
     · have hlenR : R.size = Q.size + 1 + b.length := by rw [← ba_len, hRb, HQn.out]; simp; omega
       have hqs : ((Q.size : Int) == (R.size : Int)) = false := by simp; omega
       have hw : IntKind.i64.wrap ((Q.size : Int) + 1) = (Q.size : Int) + 1 := IntWalk.i64_in _ (by omega)
       have hp2 : (Q.size : Int) + 1 ≤ (R.size : Int) := by omega
       have hE : R.extract (Q.size + 1) R.size = bs b := by rw [HQn.out]; exact ext_from hRb
       have hEs : (R.extract (Q.size + 1) R.size).size ≤ s.size := by rw [hE, bs_size]; omega
       have HE2 := Lib.hid hE
       have HEs := Lib.hid hEs
       have HRb := Lib.hid hRb
       have hQs2 : Q.size ≤ s.size := by omega
       clear hE hEs hRb hlenR NO
       go_upto_region 10 with fail
       have C0 := Bk.new w4 76 #[.string Q, .string (R.extract (Q.size + 1) R.size)]
       have B3 := B2.out.alloc (.cells #[.string Q, .string (R.extract (Q.size + 1) R.size)] 76)
       have hb4 := Lib.hid (Below.alc hb3.out (.cells #[.string Q, .string (R.extract (Q.size + 1) R.size)] 76))
       have hgg := C0.lt
       have hgm := B2.out.lt
       generalize w4.alloc (.cells #[.string Q, .string (R.extract (Q.size + 1) R.size)] 76) = w5 at *
       generalize w4.heap.size = g5 at *
       clear y0 y1 v0 v1 hb3 B2
       generalize R.extract (Q.size + 1) R.size = Rp at *
       have q0 : w5.cell? ⟨g5, 0, none⟩ = some (.string Q) := C0.cell 0
       have q1 : w5.cell? ⟨g5, 1, none⟩ = some (.string Rp) := C0.cell 1
       have y0 : w5.cell? ⟨w.heap.size, 0, none⟩ = some (.string ⟨#[]⟩) := B3.cell 0
       have y1 : w5.cell? ⟨w.heap.size, 1, none⟩ = some (.string ⟨#[]⟩) := B3.cell 1
       have v0 : w5.frozen? ⟨w.heap.size, 0, none⟩ = false := B3.frozen 0
       have v1 : w5.frozen? ⟨w.heap.size, 1, none⟩ = false := B3.frozen 1
       have C1 := Lib.hid C0
       have B4 := Lib.hid B3
       clear C0 B3
       have HRV := Lib.hid (l12Record_c Q Rp)
       have HLN := Lib.hid (fun w => l12Line_c k (by omega) Q Rp w (by omega) (by have := HEs.out; omega))
       unfold recV at HRV HLN
       have hne : w.heap.size ≠ g5 := by omega
       have hs1 : ¬ (9223372036854775807 < s.size + 1) := by omega
       have hs2 : ¬ (9223372036854775807 ≤ s.size) := by omega
       have ONLY : ∀ e : Bs × Bs, OkE e → s.data.toList ++ [10] = lnS k e → e = (Q.data.toList, Rp.data.toList) := fun e he hl => by
        have h1 := HTD.out
        rw [HTL.out, HL.out A1 n1 e HH1.out he hl, HRb.out] at h1
        simp only [List.append_assoc, List.singleton_append] at h1
        have h2 := List.append_cancel_left h1
        simp only [List.cons.injEq, true_and] at h2
        obtain ⟨h3, h4⟩ := part_inj he.at_ hno h2
        rw [HQL.out, HE2.out, bs_list, ← h3, ← h4]
       have NO3 : Hid (∀ w', Below w.heap.size w w' → recB Q Rp = false → DecSOut k s w (.returned (.tuple #[.agg #[.string Q, .string Rp], .bool false])) w') := fun w' hb hr =>
        ⟨Q, Rp, false, rfl, hQs2, HEs.out, (fun h => by cases h), (fun _ e he hl => by
         have := ONLY e he hl
         rw [this] at he
         rw [recB_iff.2 he] at hr; cases hr), hb⟩
       have YES3 : Hid (∀ w', Below w.heap.size w w' → recB Q Rp = true → DecSOut k s w (.returned (.tuple #[.agg #[.string Q, .string Rp], .bool ((bs (lineS (k : Int) Q.data.toList Rp.data.toList)).toList == (s ++ ⟨#[10]⟩).toList)])) w') := fun w' hb hr => by
        have hln : bs (lineS (k : Int) Q.data.toList Rp.data.toList) = s ++ ⟨#[10]⟩ ↔ s.data.toList ++ [10] = lnS k (Q.data.toList, Rp.data.toList) := by
         rw [lnS_def]
         constructor
         · intro h
           have := congrArg (fun x : ByteArray => x.data.toList) h
           simpa [bs_list] using this.symm
         · intro h
           rw [← h]; exact (bs_eq (by simp)).symm
        refine ⟨Q, Rp, _, rfl, hQs2, HEs.out, (fun h => ⟨recB_iff.1 hr, hln.1 ?_⟩), (fun h e he hl => ?_), hb⟩
        · by_cases hc : bs (lineS (k : Int) Q.data.toList Rp.data.toList) = s ++ ⟨#[10]⟩
          · exact hc
          · rw [str_ne hc] at h; cases h
        · have h2 := ONLY e he hl
          rw [h2] at hl
          rw [str_eq (hln.2 hl)] at h; cases h
       clear ONLY hno
       rcases hrc : recB Q Rp with _ | _
       · have HRC := Lib.hid hrc
         clear hrc
         -- REGION
         refine wp_region_held_drew (S := fun w' : World => w'.cell? ⟨g5, 0, none⟩ = some (.string Q) ∧ w'.cell? ⟨g5, 1, none⟩ = some (.string Rp)) (by kernel_rfl) ⟨q0, q1⟩ (fun hHeld => ?_)
         refine' tkX 0 hHeld ?y_1 ?r_1
         case y_1 => exact Or.inl ⟨by rfl, by (intro w hSw; (obtain ⟨hs1, hs2⟩ := hSw); go_simp; first | done | with_reducible rfl)⟩
         try simp only [Act.put, xqA, xqB, xqC]
         refine' tkX 1 hHeld ?y_2 ?r_2
         case y_2 => exact Or.inl ⟨by rfl, by (intro w hSw; (obtain ⟨hs1, hs2⟩ := hSw); go_simp; first | done | with_reducible rfl)⟩
         try simp only [Act.put, xqA, xqB, xqC]
         refine wpAnyH_ready (rs := [2]) (by kernel_rfl) (by simp) ?_
         refine' AllReadyH.cons (o := _) ?e_3 ?st_3 AllReadyH.nil
         case e_3 => (simp only [xeA, xeB, xeC]; exact rfl)
         intro K hK
         go_simp
         refine (HRV.out _ (by omega) (by have := HEs.out; omega)).mono ?_
         rintro e wa ⟨rfl, hba⟩
         rw [HRC.out]
         have y0a := cell_later hba y0
         have y1a := cell_later hba y1
         have v0a := (hba.frozen (p := ⟨w.heap.size, 0, none⟩) (World.block_lt_of_cell? _ _ y0)).trans v0
         have v1a := (hba.frozen (p := ⟨w.heap.size, 1, none⟩) (World.block_lt_of_cell? _ _ y1)).trans v1
         have q0a := cell_later hba q0
         have q1a := cell_later hba q1
         have HBA := Lib.hid (Below.chain hb4.out.drew hba)
         clear hba
         refine hK.out _ _ ⟨q0a, q1a⟩ (fun hHeld => ?_)
         clear hK K
         try simp only [Act.put, xqA, xqB, xqC]
         refine' tkY 3 hHeld ?r_4
         try simp only [Act.put, xqA, xqB, xqC]
         refine' tkX 4 (v := undef) hHeld ?y_5 ?r_5
         case y_5 => exact Or.inr ⟨by rfl, rfl⟩
         try simp only [Act.put, xqA, xqB, xqC]
         refine' tkX 5 (v := undef) hHeld ?y_6 ?r_6
         case y_6 => exact Or.inr ⟨by rfl, rfl⟩
         try simp only [Act.put, xqA, xqB, xqC]
         refine' tkX 6 (v := undef) hHeld ?y_7 ?r_7
         case y_7 => exact Or.inr ⟨by rfl, rfl⟩
         try simp only [Act.put, xqA, xqB, xqC]
         refine' tkX 7 (v := undef) hHeld ?y_8 ?r_8
         case y_8 => exact Or.inr ⟨by rfl, rfl⟩
         try simp only [Act.put, xqA, xqB, xqC]
         refine' tkX 8 (v := undef) hHeld ?y_9 ?r_9
         case y_9 => exact Or.inr ⟨by rfl, rfl⟩
         try simp only [Act.put, xqA, xqB, xqC]
         refine' tkX 9 (v := undef) hHeld ?y_10 ?r_10
         case y_10 => exact Or.inr ⟨by rfl, rfl⟩
         try simp only [Act.put, xqA, xqB, xqC]
         refine' tkY 10 hHeld ?r_11
         try simp only [Act.put, xqA, xqB, xqC]
         refine wpAnyH_ready (rs := [11]) (by kernel_rfl) (by simp) ?_
         refine' AllReadyH.cons (o := _) ?e_12 ?st_12 AllReadyH.nil
         case e_12 => (simp only [xeA, xeB, xeC]; exact rfl)
         intro K hK
         go_simp
         refine hK.out _ _ ?_ (fun hHeld => ?_)
         · exact ⟨(World.cell?_setCell_far _ _ _ _ hne).trans ((World.cell?_setCell_far _ _ _ _ hne).trans q0a), (World.cell?_setCell_far _ _ _ _ hne).trans ((World.cell?_setCell_far _ _ _ _ hne).trans q1a)⟩
         clear hK K
         try simp only [Act.put, xqA, xqB, xqC]
         refine' tkY 12 hHeld ?r_13
         try simp only [Act.put, xqA, xqB, xqC]
         refine wpAnyH_done (by kernel_rfl) ?_ _
         -- END
         go_wp2
         exact bodyPost_ret (v := .tuple #[.agg #[.string Q, .string Rp], .bool false]) (by simp [results, Tryz.results121, go_sem, y0a, y1a]) rfl (NO3.out _ (by have hb := HBA.out; exact (hb.setCell (p := ⟨w.heap.size, 0, none⟩) (Nat.le_refl _) _).setCell (p := ⟨w.heap.size, 1, none⟩) (Nat.le_refl _) _) HRC.out)
       · have HRC := Lib.hid hrc
         clear hrc
         go_region_held3 (fun w' => w'.cell? ⟨g5, 0, none⟩ = some (.string Q) ∧ w'.cell? ⟨g5, 1, none⟩ = some (.string Rp)) (first | go_keep | (go_split_ands; exact ⟨cell_later hbb ‹_›, cell_later hbb ‹_›⟩) | (go_split_ands; exact ⟨cell_later hba ‹_›, cell_later hba ‹_›⟩))
          (first | (go_at_call 71; refine (HRV.out _ (by omega) (by have := HEs.out; omega)).mono ?_; rintro e wa ⟨rfl, hba⟩; rw [HRC.out]) | (go_at_call 131; refine (HLN.out _).mono ?_; rintro e wb ⟨rfl, hbb⟩; have HBB := Lib.hid (Below.chain (Below.chain hb4.out.drew hba) hbb); have y0b := cell_later hbb (cell_later hba y0); have y1b := cell_later hbb (cell_later hba y1); have v0b := (hbb.frozen (p := ⟨w.heap.size, 0, none⟩) (World.block_lt_of_cell? _ _ (cell_later hba y0))).trans ((hba.frozen (p := ⟨w.heap.size, 0, none⟩) (World.block_lt_of_cell? _ _ y0)).trans v0); have v1b := (hbb.frozen (p := ⟨w.heap.size, 1, none⟩) (World.block_lt_of_cell? _ _ (cell_later hba y1))).trans ((hba.frozen (p := ⟨w.heap.size, 1, none⟩) (World.block_lt_of_cell? _ _ y1)).trans v1)))
         go_wp2
         exact bodyPost_ret (v := .tuple #[.agg #[.string Q, .string Rp], .bool ((bs (lineS (k : Int) Q.data.toList Rp.data.toList)).toList == (s ++ ⟨#[10]⟩).toList)]) (by simp [results, Tryz.results121, go_sem, y0b, y1b]) rfl (YES3.out _ (by have hb := HBB.out; exact (hb.setCell (p := ⟨w.heap.size, 0, none⟩) (Nat.le_refl _) _).setCell (p := ⟨w.heap.size, 1, none⟩) (Nat.le_refl _) _) HRC.out)
     · have hqs : ((Q.size : Int) == (R.size : Int)) = true := by
        rw [HQn.out, hA, ba_len]; simp
       have NO2 := Lib.hid (NO.out (fun e he hA1 => hno (by
        have h1 := HTD.out
        rw [HTL.out, hA1, List.append_assoc] at h1
        have h2 := List.append_cancel_left h1
        simp only [List.singleton_append, List.cons.injEq, true_and] at h2
        rw [← h2]; simp)))
       clear NO hno hA
       go_wp2
       exact bodyPost_ret (v := .tuple #[.agg #[.string ⟨#[]⟩, .string ⟨#[]⟩], .bool false]) (by simp [results, Tryz.results121, go_sem, y0, y1]) rfl (NO2.out _ (by have hb := hb3.out; exact (hb.setCell (p := ⟨w.heap.size, 0, none⟩) (Nat.le_refl _) _).setCell (p := ⟨w.heap.size, 1, none⟩) (Nat.le_refl _) _))
   · have hqe := str_ne hq
     have NO2 := Lib.hid (NO.out (fun e he hA => hq (by
      have h1 : T.data.toList = (D ++ ⟨#[32]⟩).data.toList ++ (e.1 ++ 64 :: e.2) := by rw [HTL.out, hA, HI.out]; simp
      rw [bs_eq hx0, h1, ← hsD, List.take_left, bs_of])))
     clear NO hq hx0 hx1 hsD hRs
     go_wp2
     exact bodyPost_ret (v := .tuple #[.agg #[.string ⟨#[]⟩, .string ⟨#[]⟩], .bool false]) (by simp [results, Tryz.results121, go_sem, z0, z1]) rfl (NO2.out _ (by have hb := hb1.out; exact (hb.setCell (p := ⟨w.heap.size, 0, none⟩) (Nat.le_refl _) _).setCell (p := ⟨w.heap.size, 1, none⟩) (Nat.le_refl _) _))
end Go.Proofs.YtohgjfdbnkjefaaGreatDoor
namespace Go.Proofs.YtohgjfdbnkjefaaGreatDoor
open Go.RowKit Go.Shelf
set_option linter.unusedVariables false
attribute [local go_sem] Oper.semAt_some
def AbBox (Bx : Nat) (J : List Bs → World → Prop) : Prop := ∀ s A B, J s A → A.grownBy B (some Bx) → J s B
theorem setBox_grow (W : World) (Bx : Nat) (v : Value) : W.grownBy (W.setCell ⟨Bx, 0, none⟩ v) (some Bx) := grownBy_setCell' W Bx v
theorem grow_drew {W W' : World} {r : Option Nat} (h : W.grownBy W' r) : W.grownBy W'.drew r := ⟨h.os, h.tape, h.output, h.size, h.block⟩
theorem Lines_c (s : ByteArray) (w : World) :
 Calls Tryz.prog 166 #[.string s] w fun e w' => e = .returned (.func (.func 213) #[] #[.pointer (some ⟨w.heap.size, 0, none⟩)]) ∧ w' = w.alloc (.cells #[.string s] 9) := by
 go_enter Tryz.func166, Tryz.ntmps166
 go_wp2
 go_ret
 exact ⟨rfl, rfl⟩
def LinesDone (s : List UInt8) (J Jx : List Bs → World → Prop) (e : Ending) (W' : World) : Prop :=
 (∃ v, e = .returned v) ∧ ((∃ xs, xs.flatten = s ∧ J xs W') ∨ (∃ pre l r, s = pre.flatten ++ (l ++ r) ∧ First l r ∧ Jx (pre ++ [l]) W'))
theorem IB_c (s : ByteArray) (w : World) : Calls Tryz.prog 214 #[.string s, .int .u8 10] w fun e w' => e = .returned (.int .i64 (Lib.indexByte s.data.toList 10)) ∧ w = w' :=
 (Tryz.strings_IndexByte s 10 w).mono fun e w' h => ⟨h.1, h.2.symm⟩
set_option maxRecDepth 100000 in
set_option maxHeartbeats 2000000 in
theorem lines1_in (n : Nat) (hn : 3 ≤ n) (l Bx : Nat) (s : ByteArray) (hs : s.size ≤ 1073741824) (J Jx : List Bs → World → Prop) (hJ : AbBox Bx J)
 (hY : ∀ pre (x : Bs) W, J pre W → x.length ≤ s.size → YieldAt Fence.wide (n - 1) Tryz.prog l #[.string (bs x)] W fun e W' =>
  (e = .returned (.bool true) ∧ J (pre ++ [x]) W' ∧ W'.heap[Bx]? = W.heap[Bx]?) ∨ (e = .returned (.bool false) ∧ Jx (pre ++ [x]) W'))
 (W : World) (hB : Boxed W Bx 9 (.string s)) (h0 : J [] W) :
 CallsIn Fence.wide n Tryz.prog 213 #[.func (.yield l) #[] #[], .pointer (some ⟨Bx, 0, none⟩)] W (LinesDone s.data.toList J Jx) := by
 refine callsIn_of_wp Tryz.func213 rfl trivial ?_ rfl
 simp only [Tryz.ntmps213, List.size_toArray, List.length_cons, List.length_nil, Nat.reduceAdd, Nat.reduceSub, Array.replicate_succ, Array.replicate_zero, List.push_toArray, List.append_toArray, List.nil_append, List.cons_append]
 gi_wp2
 gi_loopw [3, 4] (fun _ _ wr => ∃ (pre : List Bs) (rest : ByteArray), s.data.toList = pre.flatten ++ rest.data.toList ∧ J pre wr ∧ Boxed wr Bx 9 (.string rest))
  (fun _ _ wr => match wr.cell? ⟨Bx, 0, none⟩ with | some (.string r) => r.size | _ => 0)
 case atStart => exact ⟨[], s, rfl, h0, hB⟩
 case round =>
  obtain ⟨pre, rest, hsp, hJs, hBx⟩ := hrel
  have hsz : rest.size ≤ s.size := by rw [← ba_len s, hsp, ← ba_len rest]; simp
  have hcell := hBx.cell
  have hfz := hBx.frozen
  have HSP := Lib.hid hsp
  clear hsp
  by_cases hlt : 0 < rest.size
  · rcases first_at rest.data.toList 10 with ⟨a, b, hab, hc⟩ | hc
    · have HX := Lib.hid (indexByte_hit (b := b) hc)
      have hlen : a.length + 1 + b.length = rest.size := by rw [← ba_len, hab]; simp; omega
      have H1 : Hid (rest.extract 0 (a.length + 1) = bs (a ++ [10])) := by
       have := ext_to (s := rest) (a := a ++ [10]) (b := b) (by rw [hab]; simp)
       rwa [List.length_append] at this
      have H2 := Lib.hid (ext_from hab)
      have HAB := Lib.hid hab
      have HC := Lib.hid hc
      have hla : a.length ≤ rest.size := by omega
      have hlb : a.length + 1 ≤ rest.size := by omega
      generalize hk : a.length = k at *
      have hp0 : (0 : Int) ≤ (k : Int) := by omega
      have hp1 : (k : Int) ≤ (rest.size : Int) := by omega
      have hp2 : (k : Int) + 1 ≤ (rest.size : Int) := by omega
      have hw : IntKind.i64.wrap ((k : Int) + 1) = (k : Int) + 1 := IntWalk.i64_in _ (by omega)
      have HK := Lib.hid hk
      have HL := Lib.hid hlen
      clear hab hc hk hlen
      have hJ1 := hJ pre wr _ hJs (grow_drew (setBox_grow wr Bx (.string (rest.extract (k + 1) rest.size))))
      have B1 : Boxed (wr.setCell ⟨Bx, 0, none⟩ (.string (rest.extract (k + 1) rest.size))).drew Bx 9 (.string (rest.extract (k + 1) rest.size)) := hBx.set _
      have HB1 := Lib.hid B1
      have hxl : (a ++ [10]).length ≤ s.size := by simp; have := HK.out; omega
      obtain ⟨fn, tmps, assign, body, hy, hR⟩ := hY pre (a ++ [10]) _ hJ1 hxl
      rw [← H1.out] at hy
      clear B1 hJ1 hxl
      gi_wp2_with fail
      refine ⟨trivial, fun _ => by omega, ?_⟩
      refine (callsIn_wide.2 (IB_c rest _)).mono ?_
      rintro e w' ⟨rfl, rfl⟩
      rw [HAB.out, HX.out]
      gi_wp2
      gi_region
      gi_wp2
      refine ⟨fun _ => by omega, ?_⟩
      refine hR.mono ?_
      rintro e W3 (⟨rfl, hJ3, hk3⟩ | ⟨rfl, hJx3⟩)
      · have B3 : Boxed W3 Bx 9 (.string (rest.extract (k + 1) rest.size)) := hk3.trans HB1.out
        have HB3 := Lib.hid B3
        clear B3
        gi_wp2
        go_roundw
        case rel =>
         refine ⟨pre ++ [a ++ [10]], rest.extract (k + 1) rest.size, ?_, hJ3, HB3.out⟩
         rw [H2.out, bs_list, HSP.out, HAB.out]; simp
        case measure =>
         rw [HB3.out.cell, hcell]
         show (rest.extract (k + 1) rest.size).size < rest.size
         rw [H2.out, bs_size]; have := HL.out; omega
      · gi_wp2
        refine bodyPost_ret (results_none rfl _ _ _) rfl ?_
        refine ⟨⟨_, rfl⟩, .inr ⟨pre, a ++ [10], b, ?_, .inl ⟨a, rfl, HC.out⟩, hJx3⟩⟩
        rw [HSP.out, HAB.out]; simp
    · have HX := Lib.hid (indexByte_miss hc)
      have HC := Lib.hid hc
      clear hc
      have hJ1 := hJ pre wr _ hJs (setBox_grow wr Bx (.string ⟨#[]⟩))
      have B1 : Boxed (wr.setCell ⟨Bx, 0, none⟩ (.string ⟨#[]⟩)) Bx 9 (.string ⟨#[]⟩) := hBx.set _
      have HB1 := Lib.hid B1
      have hxl : rest.data.toList.length ≤ s.size := by rw [ba_len]; omega
      obtain ⟨fn, tmps, assign, body, hy, hR⟩ := hY pre rest.data.toList _ hJ1 hxl
      rw [bs_of] at hy
      clear B1 hJ1 hxl
      gi_wp2_with fail
      refine ⟨trivial, fun _ => by omega, ?_⟩
      refine (callsIn_wide.2 (IB_c rest _)).mono ?_
      rintro e w' ⟨rfl, rfl⟩
      rw [HX.out]
      gi_wp2
      refine ⟨fun _ => by omega, ?_⟩
      refine hR.mono ?_
      rintro e W3 (⟨rfl, hJ3, hk3⟩ | ⟨rfl, hJx3⟩)
      · have B3 : Boxed W3 Bx 9 (.string ⟨#[]⟩) := hk3.trans HB1.out
        have HB3 := Lib.hid B3
        clear B3
        gi_wp2
        go_roundw
        case rel =>
         refine ⟨pre ++ [rest.data.toList], ⟨#[]⟩, ?_, hJ3, HB3.out⟩
         rw [HSP.out]; simp
        case measure =>
         rw [HB3.out.cell, hcell]
         show (0 : Nat) < rest.size
         exact hlt
      · gi_wp2
        refine bodyPost_ret (results_none rfl _ _ _) rfl ?_
        refine ⟨⟨_, rfl⟩, .inr ⟨pre, rest.data.toList, [], ?_, .inr ⟨HC.out, rfl⟩, hJx3⟩⟩
        rw [HSP.out]; simp
  · gi_wp2
    go_end0
    refine ⟨⟨_, rfl⟩, .inl ⟨pre, ?_, hJs⟩⟩
    rw [HSP.out, List.eq_nil_of_length_eq_zero (l := rest.data.toList) (by rw [ba_len]; omega), List.append_nil]
end Go.Proofs.YtohgjfdbnkjefaaGreatDoor
namespace Go.Proofs.YtohgjfdbnkjefaaGreatDoor
open Go.RowKit Go.Shelf
set_option linter.unusedVariables false
def OwnL {β : Type} (Bx B : Nat) (I : β → World → Prop) : Prop :=
 ∀ s W W' row, I s W → W.grownBy W' row → (∀ r, row = some r → r = Bx ∨ (B ≤ r ∧ ∃ o : Obj, W.heap[r]? = some o ∧ o.isCells = false)) → I s W'
theorem OwnL.putObj {β : Type} {Bx B : Nat} {I : β → World → Prop} (h : OwnL Bx B I) {s : β} {W : World} {l : Nat} {o : Obj} (o' : Obj) (hs : I s W) (hB : B ≤ l) (hl : W.heap[l]? = some o) (ho : o.isCells = false) : I s (W.putObj l o') :=
 h s W _ (some l) hs (grownBy_putObj' W l o') (fun r e => by cases e; exact .inr ⟨hB, o, hl, ho⟩)
theorem OwnL.alloc {β : Type} {Bx B : Nat} {I : β → World → Prop} (h : OwnL Bx B I) {s : β} {W : World} (o : Obj) (hs : I s W) : I s (W.alloc o) :=
 h s W _ none hs (World.grownBy_alloc W o none) (fun r e => by cases e)
def postL (B Bx : Nat) (I : List Bs → World → Prop) (Ix : Go.Code → List Bs → World → Prop) (xs : List Bs) (W : World) : Exit → Act → World → Prop
 | .normal, _, W' => KeepsFrom B W W' ∧ W'.heap[Bx]? = W.heap[Bx]? ∧ I xs W'
 | .ret, _, W' => KeepsFrom B W W' ∧ Ix .ret xs W'
 | .exit id, _, W' => KeepsFrom B W W' ∧ Ix (.exit id) xs W'
 | .goto t, _, W' => KeepsFrom B W W' ∧ Ix (.goto t) xs W'
 | .panic _, _, _ => False
 | .outgrown, _, _ => False
def recL (fn : FuncId) (a : Act) (p : Tmp) (assign body : Go.Code) (D : Nat) (st : LoopState) (pe : Option Go.Code) : Loop :=
 { state := st, pending := pe, fn := fn, tmps := a.tmps, params := #[p], assign := assign, body := body, defers := D }
theorem wpIn_lines {g : Operand} {p : Tmp} {assign body : Go.Code} {Q : Exit → Act → World → Prop} {a : Act} {w : World} (n : Nat) (hn : 4 ≤ n) (Bx : Nat) (s : ByteArray) (hs : s.size ≤ 1073741824)
 (hg : a.eval g = .func (.func 213) #[] #[.pointer (some ⟨Bx, 0, none⟩)]) (hB : Boxed w Bx 9 (.string s))
 (I : List Bs → World → Prop) (Ix : Go.Code → List Bs → World → Prop) (hI : OwnL Bx w.heap.size I) (hIx : ∀ c, OwnL Bx w.heap.size (Ix c)) (h0 : I [] w) (a₁ : Bs → Act)
 (hassign : ∀ (l : Nat) (x : Bs) (W : World) (K : Act → World → Prop), K (a₁ x) W →
  assign.wpIn (Fence.wide.inRound l) (n - 1 - 1) Tryz.prog (Exit.then K (fun _ _ _ => False)) { tmps := ((#[p] : Array Tmp).zip #[Value.string (bs x)]).foldl (fun t (p, v) => t.setIfInBounds p v) a.tmps, defers := [] } W)
 (hbody : ∀ (l : Nat) (pre : List Bs) (x : Bs) (W : World), I pre W → x.length ≤ s.size → body.wpIn (Fence.wide.inRound l) (n - 1 - 1) Tryz.prog (postL w.heap.size Bx I Ix (pre ++ [x]) W) (a₁ x) W)
 (hdone : ∀ (D : Nat) (xs : List Bs) (W : World), w.heap.size ≤ D → xs.flatten = s.data.toList → I xs W → W.heap[D]? = some (.deferred (some [])) → Q .normal { a with defers := { target := .collected D, args := #[] } :: a.defers } W)
 (hstop : ∀ (D : Nat) (c : Go.Code) (pre : List Bs) (x r : Bs) (W : World), w.heap.size ≤ D → s.data.toList = pre.flatten ++ (x ++ r) → First x r → Ix c (pre ++ [x]) W → W.heap[D]? = some (.deferred (some [])) →
  c.wpIn Fence.wide n Tryz.prog Q { a with defers := { target := .collected D, args := #[] } :: a.defers } W) :
 (Code.rangeFunc g #[p] assign body).wpIn Fence.wide n Tryz.prog Q a w := by
 refine wpIn_rangeFunc ?_
 intro fn hfn
 have hbx := hB.lt
 obtain ⟨D, hD⟩ : ∃ D, D = w.heap.size := ⟨_, rfl⟩
 obtain ⟨W1, hW1⟩ : ∃ W1, W1 = (w.alloc (.deferred (some []))).alloc (.loop (recL fn a p assign body D .ready none)) := ⟨_, rfl⟩
 have hL1 : W1.heap[D + 1]? = some (.loop (recL fn a p assign body D .ready none)) := by
  have h := World.alloc_heap_new (w.alloc (.deferred (some []))) (.loop (recL fn a p assign body D .ready none))
  rw [World.size_alloc, ← hD, ← hW1] at h; exact h
 have hK1 : W1.heap[D]? = some (.deferred (some [])) := by
  rw [hW1, hD]; exact (Below.heap_alloc _ _ _ (by simp)).trans (World.alloc_heap_new w _)
 have hI1 : I [] W1 := by rw [hW1]; exact hI.alloc _ (hI.alloc _ h0)
 have hB1 : Boxed W1 Bx 9 (.string s) := by rw [hW1]; exact (hB.alloc _).alloc _
 refine ⟨D + 1, [{ target := .collected D, args := #[] }], W1, { target := .fn (.func 213) #[.pointer (some ⟨Bx, 0, none⟩)], args := #[.func (.yield (D + 1)) #[] #[]] }, W1, 213,
  #[.func (.yield (D + 1)) #[] #[], .pointer (some ⟨Bx, 0, none⟩)], W1, ?_, ?_, fun _ _ => trivial, ?_, fun h => by omega, ?_⟩
 · rw [hW1, hD]; exact run_enterLoop_outer _ _ _ _ _
 · simp only [resolve, hg]
   simp [go_sem]
 · simp [invoke, go_sem]
 have keep : ∀ {A B : World} {k : Nat} {o : Obj}, k ≠ Bx → A.grownBy B (some Bx) → A.heap[k]? = some o → B.heap[k]? = some o := fun {A B k o} hne hgr hk =>
  (hgr.block k (Array.getElem?_eq_some_iff.1 hk).1 (fun e => hne (by injection e))).trans hk
 have hne0 : D ≠ Bx := by omega
 have hne1 : D + 1 ≠ Bx := by omega
 refine (lines1_in (n - 1) (by omega) (D + 1) Bx s hs
  (fun pre W => I pre W ∧ W.heap[D + 1]? = some (.loop (recL fn a p assign body D .ready none)) ∧ W.heap[D]? = some (.deferred (some [])))
  (fun pre W => ∃ c, Ix c pre W ∧ W.heap[D + 1]? = some (.loop (recL fn a p assign body D .done (some c))) ∧ W.heap[D]? = some (.deferred (some [])))
  (fun t A B h hgr => ⟨hI t A B _ h.1 hgr (fun r e => by injection e with e; exact .inl e.symm), keep hne1 hgr h.2.1, keep hne0 hgr h.2.2⟩)
  ?_ W1 hB1 ⟨hI1, hL1, hK1⟩).mono ?_
 · rintro pre x W ⟨hi, hl, hk⟩ hlen
   have hlt : D + 1 < W.heap.size := (Array.getElem?_eq_some_iff.1 hl).1
   have hy := run_yield (P := Tryz.prog) (args := #[.string (bs x)]) hl rfl
   refine ⟨fn, _, assign, body, hy, roundIn_of_wpIn hfn (hassign (D + 1) x W _ ?_)⟩
   refine ⟨_, run_beginRound hl rfl, ?_⟩
   have hl2 : (W.putObj (D + 1) (.loop (recL fn a p assign body D .busy none))).heap[D + 1]? = some (.loop (recL fn a p assign body D .busy none)) := World.putObj_heap_same hlt
   have hk2 : (W.putObj (D + 1) (.loop (recL fn a p assign body D .busy none))).heap[D]? = some (.deferred (some [])) := (World.putObj_heap_other (by omega)).trans hk
   refine wpIn_mono (hbody _ pre x _ (hI.putObj _ hi (by omega) hl rfl) hlen) ?_
   rintro e a3 W3 hp
   have fin : KeepsFrom w.heap.size (W.putObj (D + 1) (.loop (recL fn a p assign body D .busy none))) W3 → ∀ jump : Option Go.Code,
    (Instr.endRound (D + 1) jump).run Tryz.prog W3 = .ok (.bool jump.isNone) (W3.putObj (D + 1) (.loop (recL fn a p assign body D (if jump.isNone then .ready else .done) jump))) ∧
    W3.heap[D + 1]? = some (.loop (recL fn a p assign body D .busy none)) ∧
    (W3.putObj (D + 1) (.loop (recL fn a p assign body D (if jump.isNone then .ready else .done) jump))).heap[D + 1]? = some (.loop (recL fn a p assign body D (if jump.isNone then .ready else .done) jump)) ∧
    (W3.putObj (D + 1) (.loop (recL fn a p assign body D (if jump.isNone then .ready else .done) jump))).heap[D]? = some (.deferred (some [])) := fun hk3 jump => by
    have hl3 := hk3.same _ _ (by omega) hl2 rfl
    exact ⟨run_endRound (P := Tryz.prog) jump hl3, hl3, World.putObj_heap_same (Array.getElem?_eq_some_iff.1 hl3).1, (World.putObj_heap_other (by omega)).trans (hk3.same _ _ (by omega) hk2 rfl)⟩
   cases e with
   | normal =>
    obtain ⟨hk3, hbx3, hi3⟩ := hp
    obtain ⟨hr, hl3, hl4, hk4⟩ := fin hk3 none
    exact ⟨_, _, hr, .inl ⟨rfl, ⟨hI.putObj _ hi3 (by omega) hl3 rfl, hl4, hk4⟩, (World.putObj_heap_other (Ne.symm hne1)).trans (hbx3.trans (World.putObj_heap_other (Ne.symm hne1)))⟩⟩
   | ret =>
    obtain ⟨hr, hl3, hl4, hk4⟩ := fin hp.1 (some .ret)
    exact ⟨_, _, hr, .inr ⟨rfl, .ret, (hIx _).putObj _ hp.2 (by omega) hl3 rfl, hl4, hk4⟩⟩
   | exit id =>
    obtain ⟨hr, hl3, hl4, hk4⟩ := fin hp.1 (some (.exit id))
    exact ⟨_, _, hr, .inr ⟨rfl, .exit id, (hIx _).putObj _ hp.2 (by omega) hl3 rfl, hl4, hk4⟩⟩
   | goto t =>
    obtain ⟨hr, hl3, hl4, hk4⟩ := fin hp.1 (some (.goto t))
    exact ⟨_, _, hr, .inr ⟨rfl, .goto t, (hIx _).putObj _ hp.2 (by omega) hl3 rfl, hl4, hk4⟩⟩
   | panic ch => exact hp.elim
   | outgrown => exact hp.elim
 · rintro e W2 ⟨⟨v, rfl⟩, (⟨xs, hS, hi, hl, hk⟩ | ⟨pre, x, r, hsp, hf, c, hi, hl, hk⟩)⟩
   · exact ⟨none, _, run_endLoop (P := Tryz.prog) hl (by simp [recL]), hdone D xs _ (by omega) hS (hI.putObj _ hi (by omega) hl rfl) ((World.putObj_heap_other (by omega)).trans hk)⟩
   · exact ⟨some c, _, run_endLoop (P := Tryz.prog) hl (by simp [recL]), hstop D c pre x r _ (by omega) hsp hf ((hIx c).putObj _ hi (by omega) hl rfl) ((World.putObj_heap_other (by omega)).trans hk)⟩
end Go.Proofs.YtohgjfdbnkjefaaGreatDoor
namespace Go.Proofs.YtohgjfdbnkjefaaGreatDoor
open Go.RowKit Go.Shelf
set_option linter.unusedVariables false
attribute [local go_sem] Oper.semAt_some
theorem info_LogRecord : (Tryz.prog.info? 76).map (fun i => (i.zero, i.size, i.bytes)) = some (some (.agg #[.string ⟨#[]⟩, .string ⟨#[]⟩]), 2, 32) := by kernel_rfl
def flatR (es : List (Bs × Bs)) : List Value := es.flatMap fun e => [.string (bs e.1), .string (bs e.2)]
theorem flatR_snoc (es : List (Bs × Bs)) (e : Bs × Bs) : flatR (es ++ [e]) = flatR es ++ [.string (bs e.1), .string (bs e.2)] := by simp [flatR]
theorem linesS_len (k : Nat) (es : List (Bs × Bs)) (h : ∀ e ∈ es, OkE e) (hk : k + es.length ≤ 60) : (linesS k es).length ≤ 454 * es.length := by
 induction es generalizing k with
 | nil => simp [linesS]
 | cons e t ih =>
  have h1 := lnS_len (k := k) (h e (by simp)) (by simp at hk; omega)
  have h2 := ih (k + 1) (fun a ha => h a (by simp [ha])) (by simp at hk; omega)
  simp only [linesS, List.length_append, List.length_cons]
  omega
structure RL (n₀ : Nat) (w : World) (es : List (Bs × Bs)) (W : World) (v : Value) : Prop where
 ok : ∀ e ∈ es, OkE e
 le : es.length ≤ 60
 b0 : Boxed W n₀ 72 v
 b1 : Boxed W (n₀ + 1) 3 (.int .i64 (((linesS 0 es).length : Nat) : Int))
 row : W.ownsRow n₀ 76 2 v es.length (flatR es)
 bel : Below n₀ w W
 nb : v.ownBlock ≠ some (n₀ + 2)
 big : n₀ + 3 ≤ W.heap.size
def IL (n₀ : Nat) (w : World) (pre : List Bs) (W : World) : Prop := ∃ es v, pre.flatten = linesS 0 es ∧ RL n₀ w es W v
def IxL (n₀ : Nat) (w : World) (c : Go.Code) (pre : List Bs) (W : World) : Prop :=
 c = .exit 0 ∧ ∃ es v pre0 x, pre = pre0 ++ [x] ∧ pre0.flatten = linesS 0 es ∧ RL n₀ w es W v ∧ (es.length < 60 → ∀ e, OkE e → x ≠ lnS es.length e)
theorem RL.kept {n₀ : Nat} {w : World} {es : List (Bs × Bs)} {W W' : World} {v : Value} (h : RL n₀ w es W v) {B : Nat} (hB : n₀ + 2 < B) (hn : w.heap.size = n₀) {row : Option Nat} (hg : W.grownBy W' row)
 (hr : ∀ r, row = some r → r = n₀ + 2 ∨ (B ≤ r ∧ ∃ o : Obj, W.heap[r]? = some o ∧ o.isCells = false)) : RL n₀ w es W' v := by
 have hne : ∀ k, k < n₀ + 2 → some k ≠ row := fun k hk e => by
  rcases hr k e.symm with h1 | ⟨h1, _⟩ <;> omega
 refine ⟨h.ok, h.le, h.b0.kept hg (hne _ (by omega)), h.b1.kept hg (hne _ (by omega)), h.row.kept hg ?_, ?_, h.nb, Nat.le_trans h.big hg.size⟩
 · rcases h.row.2 with ⟨rfl, _⟩ | ⟨g, cap, cur, rfl, hb, hgb, _⟩
   · exact .inl rfl
   · right
     intro e
     have e2 : some g = row := by simpa [Value.ownBlock] using e
     rcases hr g e2.symm with rfl | ⟨_, o, ho, hc⟩
     · exact h.nb rfl
     · rw [hgb] at ho; cases ho; cases hc
 · refine h.bel.grown hg (hn ▸ h.bel.size) (fun k e => ?_)
   rcases hr k e with rfl | ⟨h1, _⟩ <;> omega
theorem IL_own (w : World) {B : Nat} (hB : w.heap.size + 2 < B) : OwnL (w.heap.size + 2) B (IL w.heap.size w) := by
 rintro s W W' row ⟨es, v, h1, h2⟩ hg hr
 exact ⟨es, v, h1, h2.kept hB rfl hg hr⟩
theorem IxL_own (w : World) {B : Nat} (hB : w.heap.size + 2 < B) (c : Go.Code) : OwnL (w.heap.size + 2) B (IxL w.heap.size w c) := by
 rintro s W W' row ⟨h0, es, v, pre0, x, h1, h2, h3, h4⟩ hg hr
 exact ⟨h0, es, v, pre0, x, h1, h2, h3.kept hB rfl hg hr, h4⟩
def ReadOut (s : ByteArray) (w : World) (e : Ending) (w' : World) : Prop :=
 ∃ v es rest, e = .returned (.tuple #[v, .int .i64 (((linesS 0 es).length : Nat) : Int)]) ∧ w'.ownsRow w.heap.size 76 2 v es.length (flatR es) ∧ Opens s.data.toList es rest ∧ Below w.heap.size w w'
theorem below_keeps {B : Nat} {W W' : World} (h : Below W.heap.size W W') : KeepsFrom B W W' := ⟨h.size, fun k o _ hk _ => (h.block k (Array.getElem?_eq_some_iff.1 hk).1).trans hk⟩
theorem RL.below {n₀ : Nat} {w : World} {es : List (Bs × Bs)} {W W' : World} {v : Value} (h : RL n₀ w es W v) (hn : w.heap.size = n₀) (hb : Below W.heap.size W W') : RL n₀ w es W' v :=
 h.kept (B := n₀ + 3) (by omega) hn (Below.gr hb) (fun r e => by cases e)
theorem RL.app {n₀ : Nat} {w : World} {es : List (Bs × Bs)} {W w1 : World} {v v' : Value} (h : RL n₀ w es W v) (hn : w.heap.size = n₀) (c r : ByteArray) (hok : OkE (c.data.toList, r.data.toList)) (hlt : es.length < 60) (A : Obj)
 (hown : w1.ownsRow n₀ 76 2 v' (es.length + 1) (flatR es ++ [.string c, .string r])) (hgrow : (W.alloc A).grownBy w1 v.ownBlock) (hat : v'.ownBlock = v.ownBlock ∨ v'.ownBlock = some (W.alloc A).heap.size) :
 Boxed w1 n₀ 72 v ∧ Boxed (w1.setCell ⟨n₀, 0, none⟩ v') (n₀ + 1) 3 (.int .i64 (((linesS 0 es).length : Nat) : Int)) ∧
 (∀ z : Int, z = (((linesS 0 (es ++ [(c.data.toList, r.data.toList)])).length : Nat) : Int) → KeepsFrom (n₀ + 3) W ((w1.setCell ⟨n₀, 0, none⟩ v').setCell ⟨n₀ + 1, 0, none⟩ (.int .i64 z)) ∧ ((w1.setCell ⟨n₀, 0, none⟩ v').setCell ⟨n₀ + 1, 0, none⟩ (.int .i64 z)).heap[n₀ + 2]? = W.heap[n₀ + 2]? ∧
  RL n₀ w (es ++ [(c.data.toList, r.data.toList)]) ((w1.setCell ⟨n₀, 0, none⟩ v').setCell ⟨n₀ + 1, 0, none⟩ (.int .i64 z)) v') := by
 have hbig := h.big
 obtain ⟨a1, a2, a3, a4, a5⟩ := h.b0.appended (by decide) h.row (by omega) (Nat.le_refl _) hown hgrow
 have b1 : Boxed w1 (n₀ + 1) 3 (.int .i64 (((linesS 0 es).length : Nat) : Int)) := (h.b1.alloc A).kept hgrow (h.b1.not_row (by decide) h.row)
 have b2 : Boxed (w1.setCell ⟨n₀, 0, none⟩ v') (n₀ + 1) 3 (.int .i64 (((linesS 0 es).length : Nat) : Int)) := b1.kept (grownBy_setCell' w1 n₀ v') (fun e => by injection e with e; omega)
 refine ⟨a1, b2, fun z hz => ?_⟩
 have hne : v'.ownBlock ≠ some (n₀ + 2) := by
  rcases hat with e | e
  · rw [e]; exact h.nb
  · rw [e]; intro e2; injection e2 with e2; simp at e2; omega
 have hne1 : v'.ownBlock ≠ some (n₀ + 1) := fun e => (b2.not_row (by decide) a3) e.symm
 refine ⟨(a4.trans (KeepsOthers.setCell _ _ _)).from _, ?_, ?_, ?_, ?_, ?_, ?_, ?_, hne, ?_⟩
 · rw [Below.heap_setCell _ _ _ _ (show n₀ + 2 ≠ n₀ + 1 by omega), Below.heap_setCell _ _ _ _ (show n₀ + 2 ≠ n₀ by omega)]
   exact (hgrow.block (n₀ + 2) (by simp; omega) (fun e => h.nb e.symm)).trans (Below.heap_alloc W A _ (by omega))
 · intro x hx
   simp only [List.mem_append, List.mem_singleton] at hx
   rcases hx with hx | rfl
   · exact h.ok x hx
   · exact hok
 · simp; omega
 · exact a2.kept (grownBy_setCell' _ (n₀ + 1) _) (fun e => by injection e with e; omega)
 · rw [← hz]; exact b2.set _
 · rw [flatR_snoc, List.length_append, bs_of, bs_of]
   exact a3.kept (grownBy_setCell' _ (n₀ + 1) _) (.inr hne1)
 · have := (h.bel.trans a5).setCell (p := ⟨n₀ + 1, 0, none⟩) (by show n₀ ≤ n₀ + 1; omega) (.int .i64 z)
   exact this
 · have := a4.size
   have h2 : ((w1.setCell ⟨n₀, 0, none⟩ v').setCell ⟨n₀ + 1, 0, none⟩ (.int .i64 z)).heap.size = (w1.setCell ⟨n₀, 0, none⟩ v').heap.size := by simp [World.setCell]
   omega
set_option maxRecDepth 100000 in
set_option maxHeartbeats 4000000 in
theorem readLog_in (n : Nat) (hn : 6 ≤ n) (s : ByteArray) (w : World) (hs : s.size ≤ 1048576) (ht : Tab w) : CallsIn Fence.wide n Tryz.prog 122 #[.string s] w (ReadOut s w) := by
 have h1 : 1 ≤ n := by omega
 obtain ⟨i0, hi, hz0, hz1, hz2⟩ := info_parts info_LogRecord
 have HT := Lib.hid ht
 clear ht
 refine callsIn_of_wp_marks Tryz.func122 rfl trivial ?_ rfl
 simp only [Tryz.ntmps122, List.size_toArray, List.length_cons, List.length_nil, Nat.reduceAdd, Nat.reduceSub, Array.replicate_succ, Array.replicate_zero, List.push_toArray, List.append_toArray, List.nil_append, List.cons_append]
 gi_wp2_with fail
 refine ⟨trivial, ?_⟩
 refine (callsIn_wide.2 (Lines_c s _)).mono ?_
 rintro e w' ⟨rfl, rfl⟩
 gi_wp2
 have hbel : Below w.heap.size w (((w.alloc (.cells #[.slice none 0 0] 72)).alloc (.cells #[.int .i64 0] 3)).alloc (.cells #[.string s] 9)) := by (repeat (first | exact Below.refl _ _ | exact (Below.refl _ _).drew | assumption | exact below_one _ | refine Below.chain ?_ (by assumption) | refine Below.drew ?_ | refine Below.alc ?_ _ | refine below_drewN ?_ | (refine Below.setCell ?_ ?_ _) | exact Nat.le_refl _ | (simp; done) | (simp; omega)))
 have hbx : Boxed (((w.alloc (.cells #[.slice none 0 0] 72)).alloc (.cells #[.int .i64 0] 3)).alloc (.cells #[.string s] 9)) (w.heap.size + 2) 9 (.string s) := by
  have := Boxed.new ((w.alloc (.cells #[.slice none 0 0] 72)).alloc (.cells #[.int .i64 0] 3)) 9 (.string s)
  simpa using this
 have hb1 : Boxed (((w.alloc (.cells #[.slice none 0 0] 72)).alloc (.cells #[.int .i64 0] 3)).alloc (.cells #[.string s] 9)) (w.heap.size + 1) 3 (.int .i64 0) := by
  have := (Boxed.new (w.alloc (.cells #[.slice none 0 0] 72)) 3 (.int .i64 0)).alloc (.cells #[.string s] 9)
  simpa using this
 have hb0 : Boxed (((w.alloc (.cells #[.slice none 0 0] 72)).alloc (.cells #[.int .i64 0] 3)).alloc (.cells #[.string s] 9)) w.heap.size 72 (.slice none 0 0) :=
  ((Boxed.new w 72 (.slice none 0 0)).alloc _).alloc _
 have h0 : IL w.heap.size w [] (((w.alloc (.cells #[.slice none 0 0] 72)).alloc (.cells #[.int .i64 0] 3)).alloc (.cells #[.string s] 9)) :=
  ⟨[], _, rfl, by simp, by simp, hb0, hb1, World.ownsRow_nil _ _ _ _, hbel, by simp [Value.ownBlock], by simp⟩
 have hsz : (((w.alloc (.cells #[.slice none 0 0] 72)).alloc (.cells #[.int .i64 0] 3)).alloc (.cells #[.string s] 9)).heap.size = w.heap.size + 3 := by simp
 generalize ((w.alloc (.cells #[.slice none 0 0] 72)).alloc (.cells #[.int .i64 0] 3)).alloc (.cells #[.string s] 9) = W0 at *
 refine wpIn_lines n (by omega) (w.heap.size + 2) s (by omega) rfl hbx (IL w.heap.size w) (IxL w.heap.size w) (IL_own w (by omega)) (fun c => IxL_own w (by omega) c) h0
  (fun x => { tmps := #[.string s, undef, .slice none 0 0, .int .i64 0, .pointer (some ⟨w.heap.size, 0, none⟩), .pointer (some ⟨w.heap.size + 1, 0, none⟩), .string (bs x), undef, undef, .string s,
   .func (.func 213) #[] #[.pointer (some ⟨w.heap.size + 1 + 1, 0, none⟩)], .string (bs x), undef, undef, undef, undef, undef, undef, undef, undef, undef, undef, undef, undef, undef, undef, undef, undef, undef, undef, undef], defers := [] }) ?assign ?body ?done ?stop
 case assign =>
  intro l x W K hK
  gi_wp2
  exact hK
 case body =>
  rintro l pre x W ⟨es, v, hpre, hR⟩ hx
  clear h0 hb0 hb1 hbx hbel
  obtain ⟨a, c, rfl, _⟩ := (Sl.of_own hR.row).slice
  have hHR := Lib.hid hR
  have hc0 := hR.b0.cell
  have hc1 := hR.b1.cell
  have hle := hR.le
  have hlen := linesS_len 0 es hR.ok (by omega)
  have HP := Lib.hid hpre
  clear hpre hR
  gi_wp2_with fail
  refine ⟨trivial, fun _ => by omega, ?_⟩
  refine (CallsIn.inRound l (callsIn_wide.2 (decodeRecord_c es.length hle (bs x) _ (by rw [bs_size]; omega) (HT.out.on hHR.out.bel)))).mono ?_
  rintro e W2 ⟨c2, r2, ok, rfl, hcs, hrs, HT1, HF1, hb2⟩
  unfold recV
  have hR2 := (hHR.out.below rfl hb2).below rfl (below_one (.cells #[.string c2, .string r2] 76))
  have HR2 := Lib.hid hR2
  have HB2 := Lib.hid (Below.alc hb2 (.cells #[.string c2, .string r2] 76))
  have hc2 := hR2.b0.cell
  have hf2 := hR2.b0.frozen
  have hd1 := hR2.b1.cell
  have hd2 := hR2.b1.frozen
  clear hR2 hb2 hc0 hc1
  cases ok with
  | false =>
   gi_wp2
   exact ⟨below_keeps HB2.out, rfl, es, _, pre, x, rfl, HP.out, HR2.out, fun hk e he hxe => HF1.out trivial hk e he (by rw [bs_list]; exact hxe)⟩
  | true =>
   obtain ⟨hok, hlt, hln⟩ := HT1.out rfl
   rw [bs_list] at hln
   have HLN := Lib.hid hln
   have HOK := Lib.hid hok
   have hxl := lnS_len hok hlt
   rw [← hln] at hxl
   have HX := Lib.hid (show ((bs x).size : Int) = (x.length : Int) by rw [bs_size])
   clear hln hok
   have hnews : ∀ j u, [Value.string c2, Value.string r2][j]? = some u → ((W2.alloc (.cells #[.string c2, .string r2] 76)).alloc (.cells #[.string c2, .string r2] 76)).cell? ((⟨W2.heap.size + 1, 0, none⟩ : Addr).add j) = some u := by
    have h := news_new (W2.alloc (.cells #[.string c2, .string r2] 76)) [.string c2, .string r2] 76
    rw [show (W2.alloc (.cells #[.string c2, .string r2] 76)).heap.size = W2.heap.size + 1 by simp] at h
    exact h
   have HNW := Lib.hid hnews
   clear hnews
   gi_wp2_with (gi_at_builtin; refine wpListIn_append_own_at _ rfl _ _ 72 rfl w.heap.size 76 i0 (.agg #[.string ⟨#[]⟩, .string ⟨#[]⟩]) 2 32 Tryz.underlying72 hi hz0 hz1 hz2 rfl (by decide) _ _ _ rfl (HR2.out.row.alloc _) ⟨W2.heap.size + 1, 0, none⟩ 1 1 [.string c2, .string r2] rfl rfl HNW.out (by simp [Value.oneCell']) (by unfold maxLen; omega) (by omega) (by have := HR2.out.big; simp at this ⊢; omega) ?_; intro v' w1 hown' hgrow _ hat; obtain ⟨ga, capa, rfl⟩ := ownsRow_succ hown'; obtain ⟨p1, p2, p3⟩ := HR2.out.app rfl c2 r2 HOK.out hlt _ hown' hgrow hat; have hq1 := p1.cell; have hq2 := p1.frozen; have hq3 := p2.cell; have hq4 := p2.frozen; have HP3 := Lib.hid p3; clear p1 p2 p3 hown' hgrow hat)
   have hz : wrap64 ((((linesS 0 es).length : Nat) : Int) + (((bs x).size : Nat) : Int)) = (((linesS 0 (es ++ [(c2.data.toList, r2.data.toList)])).length : Nat) : Int) := by
    rw [linesS_snoc, List.length_append, Nat.zero_add, ← HLN.out, HX.out, IntWalk.wrap64_in _ ⟨by omega, by omega⟩]
    omega
   obtain ⟨k1, k2, k3⟩ := HP3.out _ hz
   have hbig := hHR.out.big
   refine ⟨(below_keeps HB2.out).trans (hsz ▸ k1), k2.trans (HB2.out.block _ (by omega)), _, _, ?_, k3⟩
   rw [List.flatten_append, HP.out, linesS_snoc, Nat.zero_add, ← HLN.out]; simp
 case done =>
  rintro D xs W hD hfl ⟨es, v, hpre, hR⟩ hK
  have hc0 := hR.b0.cell
  have hc1 := hR.b1.cell
  have HR := Lib.hid hR
  have HO : Hid (Opens s.data.toList es []) := by
   have h := Opens.whole hR.ok hR.le
   rw [← hpre, hfl] at h; exact h
  have HK := Lib.hid hK
  clear hR hpre hfl hK h0 hb0 hb1 hbx hbel
  gi_wp2
  gi_region
  gi_wp2
  refine ⟨by simp, .inl ⟨_, _, rfl, run_takeDeferred (show W.drew.heap[D]? = _ from HK.out), ?_⟩⟩
  exact ⟨_, results_tmp2 rfl _ _ _, v, es, [], rfl, ownsRow_putObj (show W.drew.ownsRow _ _ _ _ _ _ from HR.out.row) _ HK.out rfl, HO.out, HR.out.bel.drew.trans (belowK_b (w := w) (Nat.le_refl _) W.drew D _ _ (by omega) HK.out rfl rfl)⟩
 case stop =>
  rintro D cj pre x r W hD hsp hf ⟨rfl, es, v, pre0, x0, hpx, hpre, hR, hno⟩ hK
  have hc0 := hR.b0.cell
  have hc1 := hR.b1.cell
  have HR := Lib.hid hR
  have HO : Hid (Opens s.data.toList es (x ++ r)) := by
   obtain ⟨rfl, e2⟩ := List.append_inj' hpx rfl
   injection e2 with e2
   subst e2
   refine ⟨hR.ok, hR.le, by rw [hsp, hpre], ?_⟩
   by_cases h60 : es.length = 60
   · exact .inl h60
   · right
     intro e hb
     exact hno (by have := hR.le; omega) e hb.1 (hf.begins hb)
  have HK := Lib.hid hK
  clear hR hpre hK h0 hb0 hb1 hbx hbel hpx hsp hf hno
  gi_wp2
  gi_region
  gi_wp2
  refine ⟨by simp, .inl ⟨_, _, rfl, run_takeDeferred (show W.drew.heap[D]? = _ from HK.out), ?_⟩⟩
  exact ⟨_, results_tmp2 rfl _ _ _, v, es, x ++ r, rfl, ownsRow_putObj (show W.drew.ownsRow _ _ _ _ _ _ from HR.out.row) _ HK.out rfl, HO.out, HR.out.bel.drew.trans (belowK_b (w := w) (Nat.le_refl _) W.drew D _ _ (by omega) HK.out rfl rfl)⟩
theorem readLog_c (s : ByteArray) (w : World) (hs : s.size ≤ 1048576) (ht : Tab w) : Calls Tryz.prog 122 #[.string s] w (ReadOut s w) :=
 (callsIn_wide (n := 8)).1 (readLog_in 8 (by omega) s w hs ht)
end Go.Proofs.YtohgjfdbnkjefaaGreatDoor
namespace Go.Proofs.YtohgjfdbnkjefaaGreatDoor
open Go.RowKit
set_option linter.unusedVariables false
set_option maxRecDepth 100000
theorem Opens.done {s : Bs} {es : List (Bs × Bs)} (h : ∀ e ∈ es, OkE e) (hl : es.length ≤ 60) (he : s = linesS 0 es) : Opens s es [] := by rw [he]; exact Opens.whole h hl
theorem no_begin {R A : Bs} {n k : Nat} (h : Head 10 R A n) (hno : n < 2 ∨ ∀ e, OkE e → A ++ [10] ≠ lnS k e) (e : Bs × Bs) : ¬ Begins k R e := by
 rintro ⟨he, x, hx⟩
 unfold lnS at hx
 rw [List.append_assoc] at hx
 rcases h with ⟨b, hb, hA, hn⟩ | ⟨h1, _, _⟩
 · obtain ⟨h3, _⟩ := part_inj hA (sealS_no10 he) (hb.symm.trans hx)
   rcases hno with h2 | h2
   · omega
   · exact h2 e he (by rw [h3]; rfl)
 · exact h1 (by rw [hx]; simp)
theorem yes_begin {R A : Bs} {n k : Nat} {e : Bs × Bs} (h : Head 10 R A n) (hn : 2 ≤ n) (hl : A ++ [10] = lnS k e) : ∃ x, R = lnS k e ++ x := by
 rcases h with ⟨b, hb, hA, _⟩ | ⟨_, _, h1⟩
 · exact ⟨b, by rw [← hl, hb]; simp⟩
 · omega
def OpenOut (s : ByteArray) (w : World) (e : Ending) (w' : World) : Prop :=
 ∃ v es rest, e = .returned (.tuple #[v, .int .i64 (((linesS 0 es).length : Nat) : Int)]) ∧ w'.ownsRow w.heap.size 76 2 v es.length (flatR es) ∧ Opens s.data.toList es rest ∧ Below w.heap.size w w'
set_option maxHeartbeats 4000000 in
theorem l12Open_c (s : ByteArray) (w : World) (hs : s.size ≤ 1048576) : Calls Tryz.prog 68 #[.string s] w (OpenOut s w) := by
 obtain ⟨i0, hi, hz0, hz1, hz2⟩ := info_parts info_LogRecord
 have ho0 := World.ownsRow_lit (e := 76) (size := 2) (base := w.heap.size) w #[] 0 (by simp) (by decide) rfl
 go_enter Tryz.func68, Tryz.ntmps68
 go_wp2
 go_loopw [4, 5] (fun out at_ wr => ∃ es : List (Bs × Bs), at_ = .int .i64 (((linesS 0 es).length : Nat) : Int) ∧ (∀ e ∈ es, OkE e) ∧ es.length ≤ 60 ∧ Hid (∃ rest, s.data.toList = linesS 0 es ++ rest) ∧ wr.ownsRow w.heap.size 76 2 out es.length (flatR es) ∧ Below w.heap.size w wr) (fun _ at_ _ => s.size - (intOf at_).toNat)
 case atStart => exact ⟨[], rfl, by simp, by simp, ⟨_, rfl⟩, by simpa [flatR] using ho0, below_one _⟩
 case round =>
  obtain ⟨es, rfl, hok, hle, hrest, ho, hB⟩ := hrel
  clear ho0
  have hLlen := linesS_len 0 es hok (by omega)
  obtain ⟨a, c, rfl, _⟩ := (Sl.of_own ho).slice
  have hLs : (linesS 0 es).length ≤ s.size := by obtain ⟨rest, h⟩ := hrest.out; rw [← ba_len, h]; simp
  have HEX : Hid (∃ rest, s.data.toList = linesS 0 es ++ rest ∧ (s.extract (linesS 0 es).length s.size).data.toList = rest) := by
   obtain ⟨rest, h⟩ := hrest.out
   exact ⟨rest, h, by rw [Lib.extract_to_end, h]; simp⟩
  have HOK := Lib.hid hok
  have HO := Lib.hid ho
  have HB := Lib.hid hB
  clear hok hrest ho hB
  by_cases hlt : (linesS 0 es).length < s.size
  · have hd : decide ((((linesS 0 es).length : Nat) : Int) < (s.size : Int)) = true := by simp; omega
    by_cases h60 : es.length < 60
    · have hd2 : decide ((es.length : Int) < 60) = true := by simp; omega
      generalize hL : (linesS 0 es).length = L at *
      have HLn := Lib.hid hL
      clear hL
      have hp0 : (0 : Int) ≤ (L : Int) := by omega
      have hp1 : (L : Int) ≤ (s.size : Int) := by omega
      have hRsz : (s.extract L s.size).size ≤ s.size := by rw [← ba_len, Lib.extract_to_end, List.length_drop, ba_len]; omega
      go_wp2_with fail
      refine (l1SplitH_c _ 10 _ (by omega)).mono ?_
      rintro e w2 ⟨g, n, cap, A, rfl, hg0, hn1, hm1, hq, hA, HH, hb2⟩
      generalize s.extract L s.size = R at *
      have hT : (bs A).size = A.length := bs_size A
      have HTL := Lib.hid (bs_list A)
      have hTs : (bs A).size ≤ s.size := by omega
      generalize bs A = T at *
      have HTn := Lib.hid hT
      have HO2 := Lib.hid (own_keep HO.out hb2)
      have HLT : Hid (∀ k, (Value.slice a es.length c).ownBlock = some k → k < wr.heap.size) := fun k hk => (HO.out.lt k hk).2
      have HB2 := Lib.hid (Below.chain HB.out hb2)
      clear hT hb2 HO HB
      go_wp2_with fail
      refine (l12Decode_c es.length hle T _ (by omega)).mono ?_
      rintro e w3 ⟨c2, r2, ok, rfl, hcs, hrs, HT1, HF1, hb3⟩
      unfold recV
      have hq3 := cell_later hb3 hq
      have HO3 := Lib.hid (own_keep HO2.out hb3)
      have HB3 := Lib.hid (Below.chain HB2.out hb3)
      have hw3 : w.heap.size ≤ w3.heap.size := HB3.out.size
      clear hb3 HO2 HB2 hq
      have STOP : Hid ((n < 2 ∨ ∀ e, OkE e → A ++ [10] ≠ lnS es.length e) → ∃ rest, Opens s.data.toList es rest) := fun hno => by
       obtain ⟨rest, h, h2⟩ := HEX.out
       exact ⟨rest, HOK.out, hle, h, .inr fun e => no_begin (by rw [← h2]; exact HH.out) hno e⟩
      by_cases hn2 : n < 2
      · have hdn : decide ((n : Int) < 2) = true := by simp; omega
        have HOp := Lib.hid (STOP.out (.inl hn2))
        clear STOP
        go_wp2
        go_ret2
        obtain ⟨rest, h⟩ := HOp.out
        exact ⟨_, es, rest, by rw [HLn.out]; rfl, HO3.out.alloc _, h, Below.alc HB3.out _⟩
      · have hdn : decide ((n : Int) < 2) = false := by simp; omega
        cases ok with
        | false =>
         have HOp := Lib.hid (STOP.out (.inr (fun e he => by have := HF1.out rfl e he; rwa [HTL.out] at this)))
         clear STOP
         go_wp2
         go_ret2
         obtain ⟨rest, h⟩ := HOp.out
         exact ⟨_, es, rest, by rw [HLn.out]; rfl, HO3.out.alloc _, h, Below.alc HB3.out _⟩
        | true =>
         clear STOP
         obtain ⟨hok2, hln⟩ := HT1.out rfl
         have HOK2 := Lib.hid hok2
         have HLN := Lib.hid hln
         have hlen2 := lnS_len hok2 h60
         rw [← hln] at hlen2
         have hTT : T.size + 1 ≤ 454 := by rw [List.length_append, ba_len] at hlen2; exact hlen2
         clear hok2 hln hlen2
         have hnews : ∀ j u, [Value.string c2, Value.string r2][j]? = some u → ((w3.alloc (.cells #[.string c2, .string r2] 76)).alloc (.cells #[.string c2, .string r2] 76)).cell? ((⟨w3.heap.size + 1, 0, none⟩ : Addr).add j) = some u := by
          have h := news_new (w3.alloc (.cells #[.string c2, .string r2] 76)) [.string c2, .string r2] 76
          rw [show (w3.alloc (.cells #[.string c2, .string r2] 76)).heap.size = w3.heap.size + 1 by simp] at h
          exact h
         have HNW := Lib.hid hnews
         clear hnews
         go_wp2_with (at_builtin; refine wpList_append_own_at _ rfl _ _ 72 rfl w.heap.size 76 i0 (.agg #[.string ⟨#[]⟩, .string ⟨#[]⟩]) 2 32 Tryz.underlying72 hi hz0 hz1 hz2 rfl (by decide) _ es.length (flatR es) rfl ((HO3.out.alloc _).alloc _) ⟨w3.heap.size + 1, 0, none⟩ 1 1 [.string c2, .string r2] rfl rfl HNW.out (by simp [Value.oneCell']) (by unfold maxLen; omega) (by omega) (by simp; omega) ?_; intro v' w5 ho5 hg5 _ hat; have hq5 : w5.cell? ⟨g, 0, none⟩ = some (.string T) := hg5.cell (cell_later (below_one _) (cell_later (below_one _) hq3)) (fun e => by have := HLT.out g e.symm; omega))
         have hb7 : Below w.heap.size w w5 := (Below.alc (Below.alc HB3.out _) _).grown hg5 (by simp; omega) (fun k hk => (HO3.out.lt k hk).1)
         obtain ⟨rest, hr1, hr2⟩ := HEX.out
         obtain ⟨x, hx⟩ := yes_begin (R := R.data.toList) HH.out (by omega) (by rw [← HTL.out]; exact HLN.out)
         have hlnl : (lnS es.length (c2.data.toList, r2.data.toList)).length = T.size + 1 := by rw [← HLN.out, List.length_append, ba_len]; rfl
         have hst : (linesS 0 (es ++ [(c2.data.toList, r2.data.toList)])).length = L + (T.size + 1) := by
          rw [linesS_snoc, List.length_append, Nat.zero_add, hlnl, HLn.out]
         constructor
         · refine ⟨es ++ [(c2.data.toList, r2.data.toList)], ?_, ?_, by simp; omega, ⟨x, ?_⟩, ?_, hb7⟩
           · rw [hst]; go_num
           · intro e he
             simp only [List.mem_append, List.mem_singleton] at he
             rcases he with he | rfl
             · exact HOK.out e he
             · exact HOK2.out
           · rw [linesS_snoc, Nat.zero_add, List.append_assoc, ← hx, hr2, hr1]
           · rw [flatR_snoc, List.length_append, bs_of, bs_of]; exact ho5
         · simp [intOf]; omega
    · have hd2 : decide ((es.length : Int) < 60) = false := by simp; omega
      have HOp : Hid (∃ rest, Opens s.data.toList es rest) := by
       obtain ⟨rest, h, _⟩ := HEX.out
       exact ⟨rest, HOK.out, hle, h, .inl (by omega)⟩
      go_wp2
      go_ret2
      obtain ⟨rest, h⟩ := HOp.out
      exact ⟨_, es, rest, rfl, HO.out, h, HB.out⟩
  · have hd : decide ((((linesS 0 es).length : Nat) : Int) < (s.size : Int)) = false := by simp; omega
    have HOp : Hid (Opens s.data.toList es []) := by
     obtain ⟨rest, h, _⟩ := HEX.out
     have h2 := congrArg List.length h
     rw [ba_len, List.length_append] at h2
     have h3 : rest = [] := List.eq_nil_of_length_eq_zero (by omega)
     rw [h3, List.append_nil] at h
     exact Opens.done HOK.out hle h
    go_wp2
    go_ret2
    exact ⟨_, es, [], rfl, HO.out, HOp.out, HB.out⟩
end Go.Proofs.YtohgjfdbnkjefaaGreatDoor
