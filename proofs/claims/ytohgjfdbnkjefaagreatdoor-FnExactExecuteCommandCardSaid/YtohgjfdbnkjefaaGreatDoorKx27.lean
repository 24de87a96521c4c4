/- Texts of this claim, gathered: Dwc, LwExecuteCommand. -/
import Derived.Test.YtohgjfdbnkjefaaGreatDoorKx26
namespace Go.Proofs.YtohgjfdbnkjefaaGreatDoor
open Go.RowKit
set_option linter.unusedVariables false
set_option linter.unusedSimpArgs false
set_option maxRecDepth 100000
theorem cmdB_len {line : ByteArray} (h : cmdB line = true) : line.size ≤ 160 := by
 unfold cmdB at h
 simp only [Bool.and_eq_true] at h
 have := inB_true h.1
 omega
theorem recB_nil (line : ByteArray) : recB line ⟨#[]⟩ = cmdB line := by
 unfold recB
 rw [show (decide (((⟨#[]⟩ : ByteArray).size : Int) ≤ 250) && printB ⟨#[]⟩) = true from by decide, Bool.and_true]
theorem build_cons2_x (x0 x1 x2 x3 x4 x5 x6 x7 x8 x9 x10 x11 x12 x13 x14 x15 x16 x17 x18 : Int) (d p : ByteArray) (n : Int) :
 (((List.foldl (fun (cs : Array Value) (x : Value × Nat) => cs.setIfInBounds x.snd x.fst) zCA (ints [x0, x1, x2, x3, x4, x5, x6, x7, x8, x9, x10, x11, x12, x13, x14, x15, x16, x17, x18]).zipIdx).setIfInBounds 19 (.string d)).setIfInBounds 20 (.string p)).setIfInBounds 21 (.int .i64 n) = (csC [x0, x1, x2, x3, x4, x5, x6, x7, x8, x9, x10, x11, x12, x13, x14, x15, x16, x17, x18] d p n).toArray := by kernel_rfl
theorem build_cons2 {b : List Int} (hb : b.length = 19) (d p : ByteArray) (n : Int) :
 (((List.foldl (fun (cs : Array Value) (x : Value × Nat) => cs.setIfInBounds x.snd x.fst) zCA (ints b).zipIdx).setIfInBounds 19 (.string d)).setIfInBounds 20 (.string p)).setIfInBounds 21 (.int .i64 n) = (csC b d p n).toArray := by
 match b, hb with
 | [x0, x1, x2, x3, x4, x5, x6, x7, x8, x9, x10, x11, x12, x13, x14, x15, x16, x17, x18], _ => exact build_cons2_x x0 x1 x2 x3 x4 x5 x6 x7 x8 x9 x10 x11 x12 x13 x14 x15 x16 x17 x18 d p n
theorem build_small {b : List Int} (hb : b.length = 19) : ((List.foldl (fun (cs : Array Value) (x : Value × Nat) => cs.setIfInBounds x.snd x.fst) zCA (ints b).zipIdx).size < 22) = False := by
 rw [build_cons hb, List.size_toArray, csC_len hb]; simp
theorem exOut_mk {c : Cst} {line : ByteArray} {w w' : World} {X : Cst} {T : Bs} (ok : Bool) (h1 : ok = true ↔ c.ok) (h2 : stepV ok c line = (X, T)) (h3 : Below w.heap.size w w') : ExOut c line w (.returned (.tuple #[X.val, .string (bs T)])) w' :=
 ⟨ok, by rw [h2], h1, h3⟩
set_option maxHeartbeats 20000000 in
theorem ExecuteCommandS_c (c : Cst) (line : ByteArray) (w : World) (hf : c.fit) (hl : line.size ≤ 1048576) :
 Calls Tryz.prog 29 #[c.val, .string line] w (ExOut c line w) := by
 obtain ⟨b, d, p, n⟩ := c
 obtain ⟨hb, hd, hp⟩ := hf
 have hb : b.length = 19 := hb
 have hd : d.size ≤ 1048576 := hd
 have hp : p.size ≤ 1048576 := hp
 have hv : Cst.val ⟨b, d, p, n⟩ = .agg (csC b d p n).toArray := rfl
 rw [hv]
 have r0 := World.rangeAt_alloc (range_new w (csC b d p n) 31) (.cells zCA 31)
 have t0 := there_new (w.alloc (.cells (csC b d p n).toArray 31)) zCA 31 (n := 22) (by decide)
 have hb0 : Below w.heap.size w ((w.alloc (.cells (csC b d p n).toArray 31)).alloc (.cells zCA 31)) := by (repeat (first | exact Below.refl _ _ | exact (Below.refl _ _).drew | assumption | exact below_one _ | refine Below.chain ?_ (by assumption) | refine Below.drew ?_ | refine Below.alc ?_ _ | refine below_drewN ?_ | (refine Below.setCell ?_ ?_ _) | exact Nat.le_refl _ | (simp; done) | (simp; omega)))
 simp only [World.size_alloc] at t0
 have hsz : w.heap.size + 1 < ((w.alloc (.cells (csC b d p n).toArray 31)).alloc (.cells zCA 31)).heap.size := by simp
 have HV := Lib.hid (fun W => IsValidConsoleS_c b d p n W hb hd hp)
 unfold ConsOut consV at HV
 have HK : Hid (∀ ok : Bool, (ok = true ↔ (goodB b = true ∧ ∃ es, ValidL d.data.toList p.data.toList n es)) → (ok = true ↔ Cst.ok ⟨b, d, p, n⟩)) := fun ok h => h
 unfold zCA at *
 clear hv
 go_enter Tryz.func29, Tryz.ntmps29
 go_wp2_with (refine wpList_loadC rfl _ rfl _ rfl b d p n r0 hb ?_)
 refine (HV.out _).mono ?_
 rintro e w1 ⟨ok, rfl, hok, hb1⟩
 have HOK := Lib.hid (HK.out ok hok)
 have HOK2 := Lib.hid hok
 have r1 := range_below r0 hb1
 have t1 := there_below t0 hb1
 have HB1 := Lib.hid (Below.chain hb0 hb1)
 have z1 := Nat.lt_of_lt_of_le hsz hb1.size
 clear r0 t0 hb0 hb1 hsz hok HV HK
 cases ok with
 | false =>
  as_aux_lemma =>
   have HF := Lib.hid (fun w' => exOut_mk (w := w) (w' := w') (line := line) false HOK.out stepV_no)
   have K5 := loadVarC (World.rangeAt_setCells_same _ (w.heap.size + 1) 0 (csC b d p n) (by rw [csC_len hb]; exact t1)) hb
   have K6 := below_cells (csC b d p n) _ (w.heap.size + 1) 0 HB1.out (by omega)
   go_wp2_with (first | (refine wpList_loadC rfl _ rfl _ rfl b d p n r1 hb ?_) | (refine wpList_storeC rfl _ _ rfl _ b d p n rfl rfl t1 hb ?_))
   exact bodyPost_ret (v := .tuple #[consV b d p n, .string (bs tNo)]) (res_cell2 Tryz.results29 rfl K5) rfl (HF.out _ K6)
 | true =>
  have HOKT : Hid (Cst.ok ⟨b, d, p, n⟩) := HOK.out.1 rfl
  clear HOK HOK2
  cases hc : cmdB line with
  | false =>
   as_aux_lemma =>
    have HF := Lib.hid (fun w' => exOut_mk (w := w) (w' := w') true ⟨fun _ => HOKT.out, fun _ => rfl⟩ (stepV_bad hc))
    have HC := Lib.hid hc
    clear hc
    go_wp2_with fail
    refine (l12Record_c line ⟨#[]⟩ _ (by omega) (by show 0 ≤ _; omega)).mono ?_
    rintro e w2 ⟨rfl, hb2⟩
    rw [recB_nil, HC.out]
    have r2 := range_below r1 hb2
    have t2 := there_below t1 hb2
    have HB2 := Lib.hid (Below.chain HB1.out hb2)
    clear r1 t1 hb2
    have K5 := loadVarC (World.rangeAt_setCells_same _ (w.heap.size + 1) 0 (csC b d p n) (by rw [csC_len hb]; exact t2)) hb
    have K6 := below_cells (csC b d p n) _ (w.heap.size + 1) 0 HB2.out (by omega)
    go_wp2_with (first | (refine wpList_loadC rfl _ rfl _ rfl b d p n r2 hb ?_) | (refine wpList_storeC rfl _ _ rfl _ b d p n rfl rfl t2 hb ?_))
    exact bodyPost_ret (v := .tuple #[consV b d p n, .string (bs tBad)]) (res_cell2 Tryz.results29 rfl K5) rfl (HF.out _ K6)
  | true =>
   have HC := Lib.hid hc
   have hl160 := cmdB_len hc
   clear hc
   go_wp2_with fail
   refine (l12Record_c line ⟨#[]⟩ _ (by omega) (by show 0 ≤ _; omega)).mono ?_
   rintro e w2 ⟨rfl, hb2⟩
   rw [recB_nil, HC.out]
   have r2 := range_below r1 hb2
   have t2 := there_below t1 hb2
   have HB2 := Lib.hid (Below.chain HB1.out hb2)
   have z2 := Nat.lt_of_lt_of_le z1 hb2.size
   clear hb2
   clear r1 t1 HB1 z1
   have l2 := csC_log r2 hb
   have hc21 : w2.cell? ⟨w.heap.size, 21, none⟩ = some (.int .i64 n) := l2 2 _ rfl
   by_cases hn : n = 60
   · as_aux_lemma =>
      have HF := Lib.hid (fun w' => exOut_mk (w := w) (w' := w') true ⟨fun _ => HOKT.out, fun _ => rfl⟩ (stepV_full HC.out (show (Cst.mk b d p n).n = 60 from hn)))
      have hne : (n == 60) = true := by rw [hn]; rfl
      clear hn
      have K5 := loadVarC (World.rangeAt_setCells_same _ (w.heap.size + 1) 0 (csC b d p n) (by rw [csC_len hb]; exact t2)) hb
      have K6 := below_cells (csC b d p n) _ (w.heap.size + 1) 0 HB2.out (by omega)
      go_wp2_with (first | (refine wpList_loadC rfl _ rfl _ rfl b d p n r2 hb ?_) | (refine wpList_storeC rfl _ _ rfl _ b d p n rfl rfl t2 hb ?_))
      exact bodyPost_ret (v := .tuple #[consV b d p n, .string (bs tFull)]) (res_cell2 Tryz.results29 rfl K5) rfl (HF.out _ K6)
   · as_aux_lemma =>
      have hne : (n == 60) = false := by simp [hn]
      obtain ⟨hg, es, hes⟩ := HOKT.out
      have hg : goodB b = true := hg
      have hes : ValidL d.data.toList p.data.toList n es := hes
      have hsm := sayM_rp hb hg line.data.toList
      have hXl := (execM_ok hb hg line.data.toList).1.1
      have HREC := Lib.hid (recB_of HC.out hsm)
      have HS : Hid (stepV true ⟨b, d, p, n⟩ line = (doneC ⟨b, d, p, n⟩ line, sayO (execM b line.data.toList).2)) := stepV_done HC.out hn
      have HDC : Hid (doneC ⟨b, d, p, n⟩ line = ⟨(execM b line.data.toList).1, d, p ++ bs (lineS n line.data.toList (sayO (execM b line.data.toList).2)), n + 1⟩) := rfl
      have HX := Lib.hid (fun W => l12Exec_c b line W hb hg hl160)
      unfold ExeS at HX
      obtain ⟨X, hX⟩ : ∃ X, (execM b line.data.toList).1 = X := ⟨_, rfl⟩
      obtain ⟨T, hTT⟩ : ∃ T, sayO (execM b line.data.toList).2 = T := ⟨_, rfl⟩
      rw [hX] at hXl HDC HX
      rw [hTT] at hsm HREC HS HDC HX
      have HAP : Hid (∀ W, Calls Tryz.prog 73 #[logV d p n, recV line (bs T)] W fun e w' => e = .returned (.tuple #[logV d (p ++ bs (lineS n line.data.toList T)) (n + 1), .int .i64 0]) ∧ Below W.heap.size W w') := fun W =>
       (AppendRecordS_c d p n line (bs T) W hd hp hl (by rw [bs_size]; have := hsm.len; omega)).mono fun e w' ⟨ok2, he, hi, hbb⟩ => by
        have : ok2 = true := hi.2 ⟨es, hes⟩
        subst this
        rw [HREC.out, appV_yes hn, bs_list] at he
        exact ⟨he, hbb⟩
      obtain ⟨P, hP⟩ : ∃ P, p ++ bs (lineS n line.data.toList T) = P := ⟨_, rfl⟩
      rw [hP] at HAP HDC
      have HF := Lib.hid (fun w' => exOut_mk (w := w) (w' := w') true ⟨fun _ => HOKT.out, fun _ => rfl⟩ (by rw [HS.out, HDC.out]))
      have hbu := build_cons2 hXl d P (n + 1)
      have hX19 : (ints X).length = 19 := by simp [ints, hXl]
      have r2b := csC_bench r2 hb
      unfold logV recV at HAP
      unfold aggI at HX
      have hbs := build_small hXl
      unfold zCA at hbu hbs
      clear hX hTT hP HS HDC HREC hsm HOKT hes hg HC hn
      go_upto_region 7 with fail
      go_wp2_with (refine wpList_loadB rfl _ rfl _ rfl b r2b hb ?_)
      refine (HX.out _).mono ?_
      rintro e w3 ⟨rfl, hb3⟩
      have z3 := Nat.lt_of_lt_of_le z2 hb3.size
      have t3 := there_new w3 zBA 26 (n := 19) (by decide)
      have u3 := World.there_setCells (World.there_alloc (there_below t2 hb3) zB) w3.heap.size 0 (ints X)
      have r3 := World.rangeAt_setCells_apart (World.rangeAt_alloc (range_below r2 hb3) zB) w3.heap.size 0 (ints X) (.inl (by have := z3; omega))
      have c3 := World.rangeAt_setCells_same (w3.alloc zB) w3.heap.size 0 (ints X) (by rw [hX19]; exact t3)
      have HB3 := Lib.hid (below_cells (ints X) (w3.alloc zB) w3.heap.size 0 (Below.alc (Below.chain HB2.out hb3) zB) (by omega))
      clear r2 t2 hb3 HX r2b HB2 l2 hc21
      unfold zB zBA at *
      go_upto_region 8 with (refine wpList_storeB rfl _ _ rfl _ X rfl rfl t3 hXl ?_)
      clear t3
      generalize w3.heap.size = g6 at *
      generalize World.setCells _ _ _ _ = w4 at *
      have l4 := csC_log r3 hb
      have hl4a : w4.cell? ⟨w.heap.size, 19, none⟩ = some (.string d) := l4 0 _ rfl
      have hl4b : w4.cell? ⟨w.heap.size, 20, none⟩ = some (.string p) := l4 1 _ rfl
      have hl4c : w4.cell? ⟨w.heap.size, 21, none⟩ = some (.int .i64 n) := l4 2 _ rfl
      go_wp2_with (refine wpList_loadL rfl _ rfl _ _ rfl d p n l4 ?_)
      refine (HAP.out _).mono ?_
      rintro e w5 ⟨rfl, hb5⟩
      have c5 := World.rangeAt_alloc (range_below c3 hb5) (.cells #[.string d, .string P, .int .i64 (n + 1)] 29)
      have u5 := World.there_alloc (there_below u3 hb5) (.cells #[.string d, .string P, .int .i64 (n + 1)] 29)
      have HB5 := Lib.hid (Below.alc (Below.chain HB3.out hb5) (.cells #[.string d, .string P, .int .i64 (n + 1)] 29))
      have K5 := loadVarC (World.rangeAt_setCells_same _ (w.heap.size + 1) 0 (csC X d P (n + 1)) (by rw [csC_len hXl]; exact u5)) hXl
      have K6 := below_cells (csC X d P (n + 1)) _ (w.heap.size + 1) 0 HB5.out (by omega)
      clear hl4a hl4b hl4c l4 hb5 HAP
      go_wp2_with (first | (refine wpList_loadB rfl _ rfl _ rfl X c5 hXl ?_) | (refine wpList_storeC rfl _ _ rfl _ X d P (n + 1) rfl rfl u5 hXl ?_))
      exact bodyPost_ret (v := .tuple #[consV X d P (n + 1), .string (bs T)]) (res_cell2 Tryz.results29 rfl K5) rfl (HF.out _ K6)
set_option maxHeartbeats 20000000 in
theorem ExecuteCommand_c (c : Cst) (line : ByteArray) (w : World) (hf : c.fit) (hl : line.size ≤ 1048576) (ht : TabC w) :
 Calls Tryz.prog 13 #[c.val, .string line] w (ExOut c line w) := by
 obtain ⟨b, d, p, n⟩ := c
 obtain ⟨hb, hd, hp⟩ := hf
 have hb : b.length = 19 := hb
 have hd : d.size ≤ 1048576 := hd
 have hp : p.size ≤ 1048576 := hp
 have HT := Lib.hid ht
 clear ht
 have hv : Cst.val ⟨b, d, p, n⟩ = .agg (csC b d p n).toArray := rfl
 rw [hv]
 have r0 := World.rangeAt_alloc (range_new w (csC b d p n) 31) (.cells zCA 31)
 have t0 := there_new (w.alloc (.cells (csC b d p n).toArray 31)) zCA 31 (n := 22) (by decide)
 have hb0 : Below w.heap.size w ((w.alloc (.cells (csC b d p n).toArray 31)).alloc (.cells zCA 31)) := by (repeat (first | exact Below.refl _ _ | exact (Below.refl _ _).drew | assumption | exact below_one _ | refine Below.chain ?_ (by assumption) | refine Below.drew ?_ | refine Below.alc ?_ _ | refine below_drewN ?_ | (refine Below.setCell ?_ ?_ _) | exact Nat.le_refl _ | (simp; done) | (simp; omega)))
 simp only [World.size_alloc] at t0
 have hsz : w.heap.size + 1 < ((w.alloc (.cells (csC b d p n).toArray 31)).alloc (.cells zCA 31)).heap.size := by simp
 have HV := Lib.hid (fun W h => IsValidConsole_c b d p n W hb hd hp h)
 unfold ConsOut consV at HV
 have HK : Hid (∀ ok : Bool, (ok = true ↔ (goodB b = true ∧ ∃ es, ValidL d.data.toList p.data.toList n es)) → (ok = true ↔ Cst.ok ⟨b, d, p, n⟩)) := fun ok h => h
 unfold zCA at *
 clear hv
 go_enter Tryz.func13, Tryz.ntmps13
 go_wp2_with (refine wpList_loadC rfl _ rfl _ rfl b d p n r0 hb ?_)
 refine (HV.out _ (HT.out.on hb0).pow).mono ?_
 rintro e w1 ⟨ok, rfl, hok, hb1⟩
 have HOK := Lib.hid (HK.out ok hok)
 have HOK2 := Lib.hid hok
 have r1 := range_below r0 hb1
 have t1 := there_below t0 hb1
 have HB1 := Lib.hid (Below.chain hb0 hb1)
 have z1 := Nat.lt_of_lt_of_le hsz hb1.size
 clear r0 t0 hb0 hb1 hsz hok HV HK
 cases ok with
 | false =>
  as_aux_lemma =>
   have HF := Lib.hid (fun w' => exOut_mk (w := w) (w' := w') (line := line) false HOK.out stepV_no)
   have K5 := loadVarC (World.rangeAt_setCells_same _ (w.heap.size + 1) 0 (csC b d p n) (by rw [csC_len hb]; exact t1)) hb
   have K6 := below_cells (csC b d p n) _ (w.heap.size + 1) 0 HB1.out (by omega)
   go_wp2_with (first | (refine wpList_loadC rfl _ rfl _ rfl b d p n r1 hb ?_) | (refine wpList_storeC rfl _ _ rfl _ b d p n rfl rfl t1 hb ?_))
   exact bodyPost_ret (v := .tuple #[consV b d p n, .string (bs tNo)]) (res_cell2 Tryz.results13 rfl K5) rfl (HF.out _ K6)
 | true =>
  have HOKT : Hid (Cst.ok ⟨b, d, p, n⟩) := HOK.out.1 rfl
  clear HOK HOK2
  cases hc : cmdB line with
  | false =>
   as_aux_lemma =>
    have HF := Lib.hid (fun w' => exOut_mk (w := w) (w' := w') true ⟨fun _ => HOKT.out, fun _ => rfl⟩ (stepV_bad hc))
    have HC := Lib.hid hc
    clear hc
    go_wp2_with fail
    refine (isCommand_c line _ (by omega)).mono ?_
    rintro e _ ⟨rfl, rfl⟩
    rw [HC.out]
    have K5 := loadVarC (World.rangeAt_setCells_same _ (w.heap.size + 1) 0 (csC b d p n) (by rw [csC_len hb]; exact t1)) hb
    have K6 := below_cells (csC b d p n) _ (w.heap.size + 1) 0 HB1.out (by omega)
    go_wp2_with (first | (refine wpList_loadC rfl _ rfl _ rfl b d p n r1 hb ?_) | (refine wpList_storeC rfl _ _ rfl _ b d p n rfl rfl t1 hb ?_))
    exact bodyPost_ret (v := .tuple #[consV b d p n, .string (bs tBad)]) (res_cell2 Tryz.results13 rfl K5) rfl (HF.out _ K6)
  | true =>
   have HC := Lib.hid hc
   have hl160 := cmdB_len hc
   clear hc
   go_wp2_with fail
   refine (isCommand_c line _ (by omega)).mono ?_
   rintro e _ ⟨rfl, rfl⟩
   rw [HC.out]
   have r2 := r1
   have t2 := t1
   have HB2 := HB1
   have z2 := z1
   generalize w1 = w2 at *
   clear r1 t1 HB1 z1
   have l2 := csC_log r2 hb
   have hc21 : w2.cell? ⟨w.heap.size, 21, none⟩ = some (.int .i64 n) := l2 2 _ rfl
   by_cases hn : n = 60
   · as_aux_lemma =>
      have HF := Lib.hid (fun w' => exOut_mk (w := w) (w' := w') true ⟨fun _ => HOKT.out, fun _ => rfl⟩ (stepV_full HC.out (show (Cst.mk b d p n).n = 60 from hn)))
      have hne : (n == 60) = true := by rw [hn]; rfl
      clear hn
      have K5 := loadVarC (World.rangeAt_setCells_same _ (w.heap.size + 1) 0 (csC b d p n) (by rw [csC_len hb]; exact t2)) hb
      have K6 := below_cells (csC b d p n) _ (w.heap.size + 1) 0 HB2.out (by omega)
      go_wp2_with (first | (refine wpList_loadC rfl _ rfl _ rfl b d p n r2 hb ?_) | (refine wpList_storeC rfl _ _ rfl _ b d p n rfl rfl t2 hb ?_))
      exact bodyPost_ret (v := .tuple #[consV b d p n, .string (bs tFull)]) (res_cell2 Tryz.results13 rfl K5) rfl (HF.out _ K6)
   · as_aux_lemma =>
      have hne : (n == 60) = false := by simp [hn]
      obtain ⟨hg, es, hes⟩ := HOKT.out
      have hg : goodB b = true := hg
      have hes : ValidL d.data.toList p.data.toList n es := hes
      have hsm := sayM_rp hb hg line.data.toList
      have hXl := (execM_ok hb hg line.data.toList).1.1
      have HREC := Lib.hid (recB_of HC.out hsm)
      have HS : Hid (stepV true ⟨b, d, p, n⟩ line = (doneC ⟨b, d, p, n⟩ line, sayO (execM b line.data.toList).2)) := stepV_done HC.out hn
      have HDC : Hid (doneC ⟨b, d, p, n⟩ line = ⟨(execM b line.data.toList).1, d, p ++ bs (lineS n line.data.toList (sayO (execM b line.data.toList).2)), n + 1⟩) := rfl
      have HX := Lib.hid (fun W h => execute_c b line W hb hg hl160 h)
      unfold ExeI at HX
      have HSY : Hid (∀ t : ByteArray, (∀ s, (execM b line.data.toList).2 = some s → t = bs s) → (execM b line.data.toList).2.isSome = true → t = bs (sayO (execM b line.data.toList).2)) := fun t h1 h2 => by
       cases ho : (execM b line.data.toList).2 with
       | none => rw [ho] at h2; cases h2
       | some s => exact h1 s ho
      have HSN : Hid ((execM b line.data.toList).2.isSome = false → (execM b line.data.toList).1 = b ∧ sayO (execM b line.data.toList).2 = [63]) := fun h => by
       have h2 := (execM_ok hb hg line.data.toList).2.2
       cases ho : (execM b line.data.toList).2 with
       | none => rw [ho] at h2; exact ⟨h2 rfl, rfl⟩
       | some s => rw [ho] at h; cases h
      obtain ⟨X, hX⟩ : ∃ X, (execM b line.data.toList).1 = X := ⟨_, rfl⟩
      obtain ⟨T, hTT⟩ : ∃ T, sayO (execM b line.data.toList).2 = T := ⟨_, rfl⟩
      obtain ⟨so, hso⟩ : ∃ so, (execM b line.data.toList).2.isSome = so := ⟨_, rfl⟩
      rw [hX] at hXl HDC HX HSN
      rw [hTT] at hsm HREC HS HDC HSY HSN
      rw [hso] at HX HSY HSN
      have HAP : Hid (∀ W, TabC W → Calls Tryz.prog 55 #[logV d p n, recV line (bs T)] W fun e w' => e = .returned (.tuple #[logV d (p ++ bs (lineS n line.data.toList T)) (n + 1), .int .i64 0]) ∧ Below W.heap.size W w') := fun W h =>
       (AppendRecord_c d p n line (bs T) W hd hp hl (by rw [bs_size]; have := hsm.len; omega) h.pow).mono fun e w' ⟨ok2, he, hi, hbb⟩ => by
        have : ok2 = true := hi.2 ⟨es, hes⟩
        subst this
        rw [HREC.out, appV_yes hn, bs_list] at he
        exact ⟨he, hbb⟩
      obtain ⟨P, hP⟩ : ∃ P, p ++ bs (lineS n line.data.toList T) = P := ⟨_, rfl⟩
      rw [hP] at HAP HDC
      have HF := Lib.hid (fun w' => exOut_mk (w := w) (w' := w') true ⟨fun _ => HOKT.out, fun _ => rfl⟩ (by rw [HS.out, HDC.out]))
      have hbu := build_cons2 hXl d P (n + 1)
      have hX19 : (ints X).length = 19 := by simp [ints, hXl]
      have r2b := csC_bench r2 hb
      unfold logV recV at HAP
      unfold aggI at HX
      have hbs := build_small hXl
      unfold zCA at hbu hbs
      clear hX hTT hP HS HDC HREC hsm HOKT hes hg HC hn hso
      go_upto_region 7 with fail
      go_wp2_with (refine wpList_loadB rfl _ rfl _ rfl b r2b hb ?_)
      refine (HX.out _ (HT.out.on HB2.out)).mono ?_
      rintro e w3 ⟨t, rfl, hts, hb3⟩
      have HTS := Lib.hid (HSY.out t hts)
      have z3 := Nat.lt_of_lt_of_le z2 hb3.size
      cases so with
      | true =>
       as_aux_lemma =>
        have hte := HTS.out rfl
        subst hte
        have t3 := there_new w3 zBA 26 (n := 19) (by decide)
        have u3 := World.there_setCells (World.there_alloc (there_below t2 hb3) zB) w3.heap.size 0 (ints X)
        have r3 := World.rangeAt_setCells_apart (World.rangeAt_alloc (range_below r2 hb3) zB) w3.heap.size 0 (ints X) (.inl (by have := z3; omega))
        have c3 := World.rangeAt_setCells_same (w3.alloc zB) w3.heap.size 0 (ints X) (by rw [hX19]; exact t3)
        have HB3 := Lib.hid (below_cells (ints X) (w3.alloc zB) w3.heap.size 0 (Below.alc (Below.chain HB2.out hb3) zB) (by omega))
        clear r2 t2 hb3 HX r2b HB2 l2 hc21 hts HTS HSY HSN
        unfold zB zBA at *
        go_upto_region 10 with (refine wpList_storeB rfl _ _ rfl _ X rfl rfl t3 hXl ?_)
        clear t3
        generalize w3.heap.size = g6 at *
        generalize World.setCells _ _ _ _ = w4 at *
        have l4 := csC_log r3 hb
        have hl4a : w4.cell? ⟨w.heap.size, 19, none⟩ = some (.string d) := l4 0 _ rfl
        have hl4b : w4.cell? ⟨w.heap.size, 20, none⟩ = some (.string p) := l4 1 _ rfl
        have hl4c : w4.cell? ⟨w.heap.size, 21, none⟩ = some (.int .i64 n) := l4 2 _ rfl
        go_wp2_with (refine wpList_loadL rfl _ rfl _ _ rfl d p n l4 ?_)
        refine (HAP.out _ (HT.out.on (by have hb := HB3.out; (repeat (first | exact Below.refl _ _ | exact (Below.refl _ _).drew | assumption | exact below_one _ | refine Below.chain ?_ (by assumption) | refine Below.drew ?_ | refine Below.alc ?_ _ | refine below_drewN ?_ | (refine Below.setCell ?_ ?_ _) | exact Nat.le_refl _ | (simp; done) | (simp; omega)))))).mono ?_
        rintro e w5 ⟨rfl, hb5⟩
        have c5 := World.rangeAt_alloc (range_below c3 hb5) (.cells #[.string d, .string P, .int .i64 (n + 1)] 29)
        have u5 := World.there_alloc (there_below u3 hb5) (.cells #[.string d, .string P, .int .i64 (n + 1)] 29)
        have HB5 := Lib.hid (Below.alc (Below.chain HB3.out hb5) (.cells #[.string d, .string P, .int .i64 (n + 1)] 29))
        have K5 := loadVarC (World.rangeAt_setCells_same _ (w.heap.size + 1) 0 (csC X d P (n + 1)) (by rw [csC_len hXl]; exact u5)) hXl
        have K6 := below_cells (csC X d P (n + 1)) _ (w.heap.size + 1) 0 HB5.out (by omega)
        clear hl4a hl4b hl4c l4 hb5 HAP
        go_wp2_with (first | (refine wpList_loadB rfl _ rfl _ rfl X c5 hXl ?_) | (refine wpList_storeC rfl _ _ rfl _ X d P (n + 1) rfl rfl u5 hXl ?_))
        exact bodyPost_ret (v := .tuple #[consV X d P (n + 1), .string (bs T)]) (res_cell2 Tryz.results13 rfl K5) rfl (HF.out _ K6)
      | false =>
       as_aux_lemma =>
        obtain ⟨hXb, hTq⟩ := HSN.out rfl
        subst hXb hTq
        have t3 := there_new w3 zBA 26 (n := 19) (by decide)
        have u3 := World.there_setCells (World.there_alloc (there_below t2 hb3) zB) w3.heap.size 0 (ints X)
        have r3 := World.rangeAt_setCells_apart (World.rangeAt_alloc (range_below r2 hb3) zB) w3.heap.size 0 (ints X) (.inl (by have := z3; omega))
        have c3 := World.rangeAt_setCells_same (w3.alloc zB) w3.heap.size 0 (ints X) (by rw [hX19]; exact t3)
        have HB3 := Lib.hid (below_cells (ints X) (w3.alloc zB) w3.heap.size 0 (Below.alc (Below.chain HB2.out hb3) zB) (by omega))
        have u4 := World.there_setCells u3 w3.heap.size 0 (ints X)
        have r4 := World.rangeAt_setCells_apart r3 w3.heap.size 0 (ints X) (.inl (by have := z3; omega))
        have r3b := csC_bench r3 hb
        have t4 := World.there_setCells t3 w3.heap.size 0 (ints X)
        have c4 := World.rangeAt_setCells_same ((w3.alloc zB).setCells w3.heap.size 0 (ints X)) w3.heap.size 0 (ints X) (by rw [hX19]; exact t4)
        have HB4 := Lib.hid (below_cells (ints X) ((w3.alloc zB).setCells w3.heap.size 0 (ints X)) w3.heap.size 0 HB3.out (by omega))
        clear r2 t2 hb3 HX r2b HB2 l2 hc21 hts HTS HSY HSN u3 c3 HB3 r3
        unfold zB zBA at *
        go_upto_region 10 with (first | (refine wpList_storeB rfl _ _ rfl _ X rfl rfl t3 hXl ?_) | (refine wpList_loadB rfl _ rfl _ rfl X r3b hXl ?_) | (refine wpList_storeB rfl _ _ rfl _ X rfl rfl t4 hXl ?_))
        clear t3 t4 r3b
        generalize w3.heap.size = g6 at *
        generalize World.setCells _ _ _ _ = w4 at *
        have l4 := csC_log r4 hb
        have hl4a : w4.cell? ⟨w.heap.size, 19, none⟩ = some (.string d) := l4 0 _ rfl
        have hl4b : w4.cell? ⟨w.heap.size, 20, none⟩ = some (.string p) := l4 1 _ rfl
        have hl4c : w4.cell? ⟨w.heap.size, 21, none⟩ = some (.int .i64 n) := l4 2 _ rfl
        go_wp2_with (refine wpList_loadL rfl _ rfl _ _ rfl d p n l4 ?_)
        refine (HAP.out _ (HT.out.on (by have hb := HB4.out; (repeat (first | exact Below.refl _ _ | exact (Below.refl _ _).drew | assumption | exact below_one _ | refine Below.chain ?_ (by assumption) | refine Below.drew ?_ | refine Below.alc ?_ _ | refine below_drewN ?_ | (refine Below.setCell ?_ ?_ _) | exact Nat.le_refl _ | (simp; done) | (simp; omega)))))).mono ?_
        rintro e w5 ⟨rfl, hb5⟩
        have c5 := World.rangeAt_alloc (range_below c4 hb5) (.cells #[.string d, .string P, .int .i64 (n + 1)] 29)
        have u5 := World.there_alloc (there_below u4 hb5) (.cells #[.string d, .string P, .int .i64 (n + 1)] 29)
        have HB5 := Lib.hid (Below.alc (Below.chain HB4.out hb5) (.cells #[.string d, .string P, .int .i64 (n + 1)] 29))
        have K5 := loadVarC (World.rangeAt_setCells_same _ (w.heap.size + 1) 0 (csC X d P (n + 1)) (by rw [csC_len hXl]; exact u5)) hXl
        have K6 := below_cells (csC X d P (n + 1)) _ (w.heap.size + 1) 0 HB5.out (by omega)
        clear hl4a hl4b hl4c l4 hb5 HAP
        go_wp2_with (first | (refine wpList_loadB rfl _ rfl _ rfl X c5 hXl ?_) | (refine wpList_storeC rfl _ _ rfl _ X d P (n + 1) rfl rfl u5 hXl ?_))
        exact bodyPost_ret (v := .tuple #[consV X d P (n + 1), .string (bs [63])]) (res_cell2 Tryz.results13 rfl K5) rfl (HF.out _ K6)
set_option maxHeartbeats 8000000 in
theorem FnExactExecuteCommand_walk (b : List Int) (d p : ByteArray) (n : Int) (line : ByteArray) (w : World) (hb : b.length = 19) (hd : d.size ≤ 9223372036854775807) (hp : p.size ≤ 9223372036854775807) (hl : line.size ≤ 9223372036854775807) (ht : TabC w) :
 Calls Tryz.prog 5 #[consV b d p n, .string line] w fun e w' => e = .returned (.bool true) ∧ Below w.heap.size w w' := by
 have r0 := range_new w (csC b d p n) 59
 have hb0 := Lib.hid (below_one (w := w) (.cells (csC b d p n).toArray 59))
 have HZ := Lib.hid (fun w' => szConsole_c b d p n w' hb hd hp)
 have HT := Lib.hid (fun w' => toConsole_c b d p n w' hb)
 have HTB := Lib.hid ht
 clear ht
 by_cases hbig : (1048576 : Int) < (line.size : Int)
 · have hbd : decide ((1048576 : Int) < (line.size : Int)) = true := by simp; omega
   unfold consV at *
   clear hbig
   go_enter Tryz.func5, Tryz.ntmps5
   go_wp2
   go_ret
   exact ⟨rfl, hb0.out⟩
 have hbd : decide ((1048576 : Int) < (line.size : Int)) = false := by simp; omega
 have hll : line.size ≤ 1048576 := by omega
 clear hbig
 by_cases hs : szL d p 1048576 < 0
 · have hsd : decide (szL d p 1048576 < 0) = true := by simp; omega
   unfold consV at *
   go_enter Tryz.func5, Tryz.ntmps5
   go_wp2_with (refine wpList_loadCL rfl _ rfl _ rfl b d p n r0 hb ?_)
   refine (HZ.out _).mono ?_
   rintro e w1 ⟨rfl, hb1⟩
   go_wp2
   go_ret
   exact ⟨rfl, Below.chain hb0.out hb1⟩
 · have hcr := szL_le hs
   have hsd : decide (szL d p 1048576 < 0) = false := by simp; omega
   have hfit : Cst.fit ⟨b, d, p, n⟩ := ⟨hb, hcr.1, hcr.2⟩
   obtain ⟨ok, hok, hdet⟩ := ex_det ⟨b, d, p, n⟩ line
   have hXl := (stepV_fit line hfit hok.1).hb
   obtain ⟨⟨X, dX, pX, nX⟩, hX⟩ : ∃ X, (stepV ok ⟨b, d, p, n⟩ line).1 = X := ⟨_, rfl⟩
   obtain ⟨T, hTT⟩ : ∃ T, bs (stepV ok ⟨b, d, p, n⟩ line).2 = T := ⟨_, rfl⟩
   rw [hX, hTT] at hdet
   rw [hX] at hXl
   have hXl : X.length = 19 := hXl
   have H1 : Hid (∀ W, Calls Tryz.prog 29 #[consV b d p n, .string line] W fun e w' => e = .returned (.tuple #[consV X dX pX nX, .string T]) ∧ Below W.heap.size W w') := fun W =>
    (ExecuteCommandS_c ⟨b, d, p, n⟩ line W hfit hll).mono fun e w' h => hdet W e w' h
   have H2 : Hid (∀ W, TabC W → Calls Tryz.prog 13 #[consV b d p n, .string line] W fun e w' => e = .returned (.tuple #[consV X dX pX nX, .string T]) ∧ Below W.heap.size W w') := fun W h2 =>
    (ExecuteCommand_c ⟨b, d, p, n⟩ line W hfit hll h2).mono fun e w' h => hdet W e w' h
   have HEQ := Lib.hid (fun W => eqConsole_c X dX pX nX W hXl)
   have hqq : (T.toList == T.toList) = true := by simp
   have hqn : (T.toList != T.toList) = false := by simp
   clear hdet hX hTT hok hfit
   unfold consV at *
   go_enter Tryz.func5, Tryz.ntmps5
   go_wp2_with (refine wpList_loadCL rfl _ rfl _ rfl b d p n r0 hb ?_)
   refine (HZ.out _).mono ?_
   rintro e w1 ⟨rfl, hb1⟩
   have r1 := range_below r0 hb1
   have HB1 := Lib.hid (Below.chain hb0.out hb1)
   clear hb1 r0 hb0
   go_wp2_with (refine wpList_loadCL rfl _ rfl _ rfl b d p n r1 hb ?_)
   refine (HT.out _).mono ?_
   rintro e w2 ⟨rfl, hb1⟩
   have r2 := range_below r1 hb1
   have HB2 := Lib.hid (Below.chain HB1.out hb1)
   clear hb1 r1 HB1
   go_wp2_with fail
   refine (H1.out _).mono ?_
   rintro e w3 ⟨rfl, hb1⟩
   have r3 := range_below r2 hb1
   have HB3 := Lib.hid (Below.chain HB2.out hb1)
   have z3 : w.heap.size < w3.heap.size := World.block_lt_of_cell? _ _ (csC_bench r3 hb 0 _ (by simp [ints, show 0 < b.length by omega]; rfl))
   have t4 := there_new w3 zCA 31 (n := 22) (by decide)
   have r4 := World.rangeAt_setCells_apart (World.rangeAt_alloc r3 (.cells zCA 31)) w3.heap.size 0 (csC X dX pX nX) (.inl (by omega))
   have c4 := World.rangeAt_setCells_same (w3.alloc (.cells zCA 31)) w3.heap.size 0 (csC X dX pX nX) (by rw [csC_len hXl]; exact t4)
   have HB4 := Lib.hid (below_cells (csC X dX pX nX) (w3.alloc (.cells zCA 31)) w3.heap.size 0 (Below.alc HB3.out (.cells zCA 31)) (by omega))
   clear hb1 r2 HB2 r3 HB3
   unfold zCA at *
   go_upto_region 8 with (refine wpList_storeC rfl _ _ rfl _ X dX pX nX rfl rfl t4 hXl ?_)
   clear t4 z3
   generalize w3.heap.size = g6 at *
   generalize World.setCells _ _ _ _ = w4 at *
   go_wp2_with (refine wpList_loadCL rfl _ rfl _ rfl b d p n r4 hb ?_)
   refine (HT.out _).mono ?_
   rintro e w5 ⟨rfl, hb1⟩
   have c5 := range_below c4 hb1
   have HB5 := Lib.hid (Below.chain HB4.out hb1)
   clear hb1 r4 c4 HB4
   go_wp2_with fail
   refine (H2.out _ (HTB.out.on HB5.out)).mono ?_
   rintro e w6 ⟨rfl, hb1⟩
   have c6 := range_below c5 hb1
   have HB6 := Lib.hid (Below.chain HB5.out hb1)
   have z6 : g6 < w6.heap.size := World.block_lt_of_cell? _ _ (csC_bench c6 hXl 0 _ (by simp [ints, show 0 < X.length by omega]; rfl))
   have z6w := HB6.out.size
   have t7 := there_new w6 zCA 31 (n := 22) (by decide)
   have c7 := World.rangeAt_setCells_apart (World.rangeAt_alloc c6 (.cells zCA 31)) w6.heap.size 0 (csC X dX pX nX) (.inl (by omega))
   have e7 := World.rangeAt_setCells_same (w6.alloc (.cells zCA 31)) w6.heap.size 0 (csC X dX pX nX) (by rw [csC_len hXl]; exact t7)
   have HB7 := Lib.hid (below_cells (csC X dX pX nX) (w6.alloc (.cells zCA 31)) w6.heap.size 0 (Below.alc HB6.out (.cells zCA 31)) (by omega))
   clear hb1 c5 HB5 c6 HB6
   unfold zCA at *
   go_upto_region 9 with (refine wpList_storeC rfl _ _ rfl _ X dX pX nX rfl rfl t7 hXl ?_)
   clear t7 z6 z6w
   generalize w6.heap.size = g8 at *
   generalize World.setCells _ _ _ _ = w7 at *
   go_wp2_with (first | (refine wpList_loadC rfl _ rfl _ rfl X dX pX nX c7 hXl ?_) | (refine wpList_loadC rfl _ rfl _ rfl X dX pX nX e7 hXl ?_))
   refine (HEQ.out _).mono ?_
   rintro e w8 ⟨rfl, hb1⟩
   have HB8 := Lib.hid (Below.chain HB7.out hb1)
   clear hb1 c7 e7 HB7
   go_wp2
   go_ret
   exact ⟨rfl, HB8.out⟩
end Go.Proofs.YtohgjfdbnkjefaaGreatDoor
