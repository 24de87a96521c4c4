import Derived.Test.YtohgjfdbnkjefaaGreatDoorMs1
import Derived.Deep.RegionHeld3
import Derived.Deep.DeepCutAuto
namespace Go.Proofs.YtohgjfdbnkjefaaGreatDoor
open Go.RowKit
set_option linter.unusedVariables false
set_option linter.unusedSimpArgs false
set_option maxRecDepth 100000
open World (rangeAt_setCells_same rangeAt_alloc there_setCells)
open Lib (hid)
open Nat (lt_of_lt_of_le)
theorem cmdB_len {line : ByteArray} (h : cmdB line = true) : line.size ≤ 160 := by
 unfold cmdB at h
 simp only [Bool.and_eq_true] at h
 have := inB_true h.1
 omega
theorem recB_nil (line : ByteArray) : recB line ⟨#[]⟩ = cmdB line := by
 unfold recB
 rw [show (decide (((⟨#[]⟩ : ByteArray).size : Int) ≤ 250) && printB ⟨#[]⟩) = true from by decide, Bool.and_true]
theorem build_cons2_x (x0 x1 x2 x3 x4 x5 x6 x7 x8 x9 x10 x11 x12 x13 x14 x15 x16 x17 x18 : Int) (d p : ByteArray) (n : Int) :
 (((List.foldl (fun (cs : Array Value) (x : Value × Nat) => cs.setIfInBounds x.snd x.fst) zCA (ints [x0, x1, x2, x3, x4, x5, x6, x7, x8, x9, x10, x11, x12, x13, x14, x15, x16, x17, x18]).zipIdx).setIfInBounds 19 (.string d)).setIfInBounds 20 (.string p)).setIfInBounds 21 (.int .i64 n) = (csC [x0, x1, x2, x3, x4, x5, x6, x7, x8, x9, x10, x11, x12, x13, x14, x15, x16, x17, x18] d p n).toArray := by kernel_rfl
theorem build_cons2 {b : List Int} (hb : b.length = 19) (d p : ByteArray) (n : Int) :
 (((List.foldl (fun (cs : Array Value) (x : Value × Nat) => cs.setIfInBounds x.snd x.fst) zCA (ints b).zipIdx).setIfInBounds 19 (.string d)).setIfInBounds 20 (.string p)).setIfInBounds 21 (.int .i64 n) = (csC b d p n).toArray := by
 match b, hb with
 | [x0, x1, x2, x3, x4, x5, x6, x7, x8, x9, x10, x11, x12, x13, x14, x15, x16, x17, x18], _ => exact build_cons2_x x0 x1 x2 x3 x4 x5 x6 x7 x8 x9 x10 x11 x12 x13 x14 x15 x16 x17 x18 d p n
theorem build_small {b : List Int} (hb : b.length = 19) : ((List.foldl (fun (cs : Array Value) (x : Value × Nat) => cs.setIfInBounds x.snd x.fst) zCA (ints b).zipIdx).size < 22) = False := by
 rw [build_cons hb, List.size_toArray, csC_len hb]; simp
theorem exOut_mk {c : Cst} {line : ByteArray} {w w' : World} {X : Cst} {T : Bs} (ok : Bool) (h1 : ok = true ↔ c.ok) (h2 : stepV ok c line = (X, T)) (h3 : Below w.heap.size w w') : ExOut c line w (.returned (.tuple #[X.val, .string (bs T)])) w' :=
 ⟨ok, by rw [h2], h1, h3⟩
set_option maxHeartbeats 20000000 in
theorem ExecuteCommandS_c (c : Cst) (line : ByteArray) (w : World) (hf : c.fit) (hl : line.size ≤ 1048576) :
 Calls Tryz.prog 29 #[c.val, .string line] w (ExOut c line w) := by
 obtain ⟨b, d, p, n⟩ := c
 obtain ⟨hb, hd, hp⟩ := hf
 have hb : b.length = 19 := hb
 have hd : d.size ≤ 1048576 := hd
 have hp : p.size ≤ 1048576 := hp
 have hv : Cst.val ⟨b, d, p, n⟩ = .agg (csC b d p n).toArray := rfl
 rw [hv]
 have r0 := rangeAt_alloc (range_new w (csC b d p n) 31) (.cells zCA 31)
 have t0 := there_new (w.alloc (.cells (csC b d p n).toArray 31)) zCA 31 (n := 22) (by decide)
 have hb0 : Below w.heap.size w ((w.alloc (.cells (csC b d p n).toArray 31)).alloc (.cells zCA 31)) := qBl
 simp only [World.size_alloc] at t0
 have hsz : w.heap.size + 1 < ((w.alloc (.cells (csC b d p n).toArray 31)).alloc (.cells zCA 31)).heap.size := by simp
 have HV := hid (fun W => IsValidConsoleS_c b d p n W hb hd hp)
 unfold ConsOut consV at HV
 have HK : Hid (∀ ok : Bool, (ok = true ↔ (goodB b = true ∧ ∃ es, ValidL d.data.toList p.data.toList n es)) → (ok = true ↔ Cst.ok ⟨b, d, p, n⟩)) := fun ok h => h
 unfold zCA at *
 clear hv
 go_enter Tryz.func29, Tryz.ntmps29
 go_wp2_with (refine wpList_loadC rfl _ rfl _ rfl b d p n r0 hb ?_)
 refine (HV.out _).mono ?_
 rintro e w1 ⟨ok, rfl, hok, hb1⟩
 have HOK := hid (HK.out ok hok)
 have HOK2 := hid hok
 have r1 := range_below r0 hb1
 have t1 := there_below t0 hb1
 have HB1 := hid (Below.chain hb0 hb1)
 have z1 := lt_of_lt_of_le hsz hb1.size
 clear r0 t0 hb0 hb1 hsz hok HV HK
 cases ok with
 | false =>
  as_aux_lemma =>
   have HF := hid (fun w' => exOut_mk (w := w) (w' := w') (line := line) false HOK.out stepV_no)
   have K5 := loadVarC (rangeAt_setCells_same _ (w.heap.size + 1) 0 (csC b d p n) (by rw [csC_len hb]; exact t1)) hb
   have K6 := below_cells (csC b d p n) _ (w.heap.size + 1) 0 HB1.out (by omega)
   go_wp2_with (first | (refine wpList_loadC rfl _ rfl _ rfl b d p n r1 hb ?_) | (refine wpList_storeC rfl _ _ rfl _ b d p n rfl rfl t1 hb ?_))
   exact bodyPost_ret (v := .tuple #[consV b d p n, .string (bs tNo)]) (res_cell2 Tryz.results29 rfl K5) rfl (HF.out _ K6)
 | true =>
  have HOKT : Hid (Cst.ok ⟨b, d, p, n⟩) := HOK.out.1 rfl
  clear HOK HOK2
  cases hc : cmdB line with
  | false =>
   as_aux_lemma =>
    have HF := hid (fun w' => exOut_mk (w := w) (w' := w') true ⟨fun _ => HOKT.out, fun _ => rfl⟩ (stepV_bad hc))
    have HC := hid hc
    clear hc
    go_wp2_with fail
    refine (l12Record_c line ⟨#[]⟩ _ (by omega) (by show 0 ≤ _; omega)).mono ?_
    rintro e w2 ⟨rfl, hb2⟩
    rw [recB_nil, HC.out]
    have r2 := range_below r1 hb2
    have t2 := there_below t1 hb2
    have HB2 := hid (Below.chain HB1.out hb2)
    clear r1 t1 hb2
    have K5 := loadVarC (rangeAt_setCells_same _ (w.heap.size + 1) 0 (csC b d p n) (by rw [csC_len hb]; exact t2)) hb
    have K6 := below_cells (csC b d p n) _ (w.heap.size + 1) 0 HB2.out (by omega)
    go_wp2_with (first | (refine wpList_loadC rfl _ rfl _ rfl b d p n r2 hb ?_) | (refine wpList_storeC rfl _ _ rfl _ b d p n rfl rfl t2 hb ?_))
    exact bodyPost_ret (v := .tuple #[consV b d p n, .string (bs tBad)]) (res_cell2 Tryz.results29 rfl K5) rfl (HF.out _ K6)
  | true =>
   have HC := hid hc
   have hl160 := cmdB_len hc
   clear hc
   go_wp2_with fail
   refine (l12Record_c line ⟨#[]⟩ _ (by omega) (by show 0 ≤ _; omega)).mono ?_
   rintro e w2 ⟨rfl, hb2⟩
   rw [recB_nil, HC.out]
   have r2 := range_below r1 hb2
   have t2 := there_below t1 hb2
   have HB2 := hid (Below.chain HB1.out hb2)
   have z2 := lt_of_lt_of_le z1 hb2.size
   clear hb2
   clear r1 t1 HB1 z1
   have l2 := csC_log r2 hb
   have hc21 : w2.cell? ⟨w.heap.size, 21, none⟩ = some (.int .i64 n) := l2 2 _ rfl
   by_cases hn : n = 60
   · as_aux_lemma =>
      have HF := hid (fun w' => exOut_mk (w := w) (w' := w') true ⟨fun _ => HOKT.out, fun _ => rfl⟩ (stepV_full HC.out (show (Cst.mk b d p n).n = 60 from hn)))
      have hne : (n == 60) = true := by rw [hn]; rfl
      clear hn
      have K5 := loadVarC (rangeAt_setCells_same _ (w.heap.size + 1) 0 (csC b d p n) (by rw [csC_len hb]; exact t2)) hb
      have K6 := below_cells (csC b d p n) _ (w.heap.size + 1) 0 HB2.out (by omega)
      go_wp2_with (first | (refine wpList_loadC rfl _ rfl _ rfl b d p n r2 hb ?_) | (refine wpList_storeC rfl _ _ rfl _ b d p n rfl rfl t2 hb ?_))
      exact bodyPost_ret (v := .tuple #[consV b d p n, .string (bs tFull)]) (res_cell2 Tryz.results29 rfl K5) rfl (HF.out _ K6)
   · as_aux_lemma =>
      have hne : (n == 60) = false := by simp [hn]
      obtain ⟨hg, es, hes⟩ := HOKT.out
      have hg : goodB b = true := hg
      have hes : ValidL d.data.toList p.data.toList n es := hes
      have hsm := sayM_rp hb hg line.data.toList
      have hXl := (execM_ok hb hg line.data.toList).1.1
      have HREC := hid (recB_of HC.out hsm)
      have HS : Hid (stepV true ⟨b, d, p, n⟩ line = (doneC ⟨b, d, p, n⟩ line, sayO (execM b line.data.toList).2)) := stepV_done HC.out hn
      have HDC : Hid (doneC ⟨b, d, p, n⟩ line = ⟨(execM b line.data.toList).1, d, p ++ bs (lineS n line.data.toList (sayO (execM b line.data.toList).2)), n + 1⟩) := rfl
      have HX := hid (fun W => l12Exec_c b line W hb hg hl160)
      unfold ExeS at HX
      obtain ⟨X, hX⟩ : ∃ X, (execM b line.data.toList).1 = X := ⟨_, rfl⟩
      obtain ⟨T, hTT⟩ : ∃ T, sayO (execM b line.data.toList).2 = T := ⟨_, rfl⟩
      rw [hX] at hXl HDC HX
      rw [hTT] at hsm HREC HS HDC HX
      have HAP : Hid (∀ W, Calls Tryz.prog 73 #[logV d p n, recV line (bs T)] W fun e w' => e = .returned (.tuple #[logV d (p ++ bs (lineS n line.data.toList T)) (n + 1), .int .i64 0]) ∧ Below W.heap.size W w') := fun W =>
       (AppendRecordS_c d p n line (bs T) W hd hp hl (by rw [bs_size]; have := hsm.len; omega)).mono fun e w' ⟨ok2, he, hi, hbb⟩ => by
        have : ok2 = true := hi.2 ⟨es, hes⟩
        subst this
        rw [HREC.out, appV_yes hn, bs_list] at he
        exact ⟨he, hbb⟩
      obtain ⟨P, hP⟩ : ∃ P, p ++ bs (lineS n line.data.toList T) = P := ⟨_, rfl⟩
      rw [hP] at HAP HDC
      have HF := hid (fun w' => exOut_mk (w := w) (w' := w') true ⟨fun _ => HOKT.out, fun _ => rfl⟩ (by rw [HS.out, HDC.out]))
      have hbu := build_cons2 hXl d P (n + 1)
      have hX19 : (ints X).length = 19 := by simp [ints, hXl]
      have r2b := csC_bench r2 hb
      unfold logV recV at HAP
      unfold aggI at HX
      have hbs := build_small hXl
      unfold zCA at hbu hbs
      clear hX hTT hP HS HDC HREC hsm HOKT hes hg HC hn
      go_upto_region 7 with fail
      go_wp2_with (refine wpList_loadB rfl _ rfl _ rfl b r2b hb ?_)
      refine (HX.out _).mono ?_
      rintro e w3 ⟨rfl, hb3⟩
      have z3 := lt_of_lt_of_le z2 hb3.size
      have t3 := there_new w3 zBA 26 (n := 19) (by decide)
      have u3 := there_setCells (World.there_alloc (there_below t2 hb3) zB) w3.heap.size 0 (ints X)
      have r3 := World.rangeAt_setCells_apart (rangeAt_alloc (range_below r2 hb3) zB) w3.heap.size 0 (ints X) (.inl (by have := z3; omega))
      have c3 := rangeAt_setCells_same (w3.alloc zB) w3.heap.size 0 (ints X) (by rw [hX19]; exact t3)
      have HB3 := hid (below_cells (ints X) (w3.alloc zB) w3.heap.size 0 (Below.alc (Below.chain HB2.out hb3) zB) (by omega))
      clear r2 t2 hb3 HX r2b HB2 l2 hc21
      unfold zB zBA at *
      go_upto_region 8 with (refine wpList_storeB rfl _ _ rfl _ X rfl rfl t3 hXl ?_)
      clear t3
      generalize w3.heap.size = g6 at *
      generalize World.setCells _ _ _ _ = w4 at *
      have l4 := csC_log r3 hb
      have hl4a : w4.cell? ⟨w.heap.size, 19, none⟩ = some (.string d) := l4 0 _ rfl
      have hl4b : w4.cell? ⟨w.heap.size, 20, none⟩ = some (.string p) := l4 1 _ rfl
      have hl4c : w4.cell? ⟨w.heap.size, 21, none⟩ = some (.int .i64 n) := l4 2 _ rfl
      go_wp2_with (refine wpList_loadL rfl _ rfl _ _ rfl d p n l4 ?_)
      refine (HAP.out _).mono ?_
      rintro e w5 ⟨rfl, hb5⟩
      have c5 := rangeAt_alloc (range_below c3 hb5) (.cells #[.string d, .string P, .int .i64 (n + 1)] 29)
      have u5 := World.there_alloc (there_below u3 hb5) (.cells #[.string d, .string P, .int .i64 (n + 1)] 29)
      have HB5 := hid (Below.alc (Below.chain HB3.out hb5) (.cells #[.string d, .string P, .int .i64 (n + 1)] 29))
      have K5 := loadVarC (rangeAt_setCells_same _ (w.heap.size + 1) 0 (csC X d P (n + 1)) (by rw [csC_len hXl]; exact u5)) hXl
      have K6 := below_cells (csC X d P (n + 1)) _ (w.heap.size + 1) 0 HB5.out (by omega)
      clear hl4a hl4b hl4c l4 hb5 HAP
      go_wp2_with (first | (refine wpList_loadB rfl _ rfl _ rfl X c5 hXl ?_) | (refine wpList_storeC rfl _ _ rfl _ X d P (n + 1) rfl rfl u5 hXl ?_))
      exact bodyPost_ret (v := .tuple #[consV X d P (n + 1), .string (bs T)]) (res_cell2 Tryz.results29 rfl K5) rfl (HF.out _ K6)
set_option maxHeartbeats 20000000 in
theorem ExecuteCommand_c (c : Cst) (line : ByteArray) (w : World) (hf : c.fit) (hl : line.size ≤ 1048576) (ht : TabC w) :
 Calls Tryz.prog 13 #[c.val, .string line] w (ExOut c line w) := by
 obtain ⟨b, d, p, n⟩ := c
 obtain ⟨hb, hd, hp⟩ := hf
 have hb : b.length = 19 := hb
 have hd : d.size ≤ 1048576 := hd
 have hp : p.size ≤ 1048576 := hp
 have HT := hid ht
 clear ht
 have hv : Cst.val ⟨b, d, p, n⟩ = .agg (csC b d p n).toArray := rfl
 rw [hv]
 have r0 := rangeAt_alloc (range_new w (csC b d p n) 31) (.cells zCA 31)
 have t0 := there_new (w.alloc (.cells (csC b d p n).toArray 31)) zCA 31 (n := 22) (by decide)
 have hb0 : Below w.heap.size w ((w.alloc (.cells (csC b d p n).toArray 31)).alloc (.cells zCA 31)) := qBl
 simp only [World.size_alloc] at t0
 have hsz : w.heap.size + 1 < ((w.alloc (.cells (csC b d p n).toArray 31)).alloc (.cells zCA 31)).heap.size := by simp
 have HV := hid (fun W h => IsValidConsole_c b d p n W hb hd hp h)
 unfold ConsOut consV at HV
 have HK : Hid (∀ ok : Bool, (ok = true ↔ (goodB b = true ∧ ∃ es, ValidL d.data.toList p.data.toList n es)) → (ok = true ↔ Cst.ok ⟨b, d, p, n⟩)) := fun ok h => h
 unfold zCA at *
 clear hv
 go_enter Tryz.func13, Tryz.ntmps13
 go_wp2_with (refine wpList_loadC rfl _ rfl _ rfl b d p n r0 hb ?_)
 refine (HV.out _ (HT.out.on hb0).pow).mono ?_
 rintro e w1 ⟨ok, rfl, hok, hb1⟩
 have HOK := hid (HK.out ok hok)
 have HOK2 := hid hok
 have r1 := range_below r0 hb1
 have t1 := there_below t0 hb1
 have HB1 := hid (Below.chain hb0 hb1)
 have z1 := lt_of_lt_of_le hsz hb1.size
 clear r0 t0 hb0 hb1 hsz hok HV HK
 cases ok with
 | false =>
  as_aux_lemma =>
   have HF := hid (fun w' => exOut_mk (w := w) (w' := w') (line := line) false HOK.out stepV_no)
   have K5 := loadVarC (rangeAt_setCells_same _ (w.heap.size + 1) 0 (csC b d p n) (by rw [csC_len hb]; exact t1)) hb
   have K6 := below_cells (csC b d p n) _ (w.heap.size + 1) 0 HB1.out (by omega)
   go_wp2_with (first | (refine wpList_loadC rfl _ rfl _ rfl b d p n r1 hb ?_) | (refine wpList_storeC rfl _ _ rfl _ b d p n rfl rfl t1 hb ?_))
   exact bodyPost_ret (v := .tuple #[consV b d p n, .string (bs tNo)]) (res_cell2 Tryz.results13 rfl K5) rfl (HF.out _ K6)
 | true =>
  have HOKT : Hid (Cst.ok ⟨b, d, p, n⟩) := HOK.out.1 rfl
  clear HOK HOK2
  cases hc : cmdB line with
  | false =>
   as_aux_lemma =>
    have HF := hid (fun w' => exOut_mk (w := w) (w' := w') true ⟨fun _ => HOKT.out, fun _ => rfl⟩ (stepV_bad hc))
    have HC := hid hc
    clear hc
    go_wp2_with fail
    refine (isCommand_c line _ (by omega)).mono ?_
    rintro e _ ⟨rfl, rfl⟩
    rw [HC.out]
    have K5 := loadVarC (rangeAt_setCells_same _ (w.heap.size + 1) 0 (csC b d p n) (by rw [csC_len hb]; exact t1)) hb
    have K6 := below_cells (csC b d p n) _ (w.heap.size + 1) 0 HB1.out (by omega)
    go_wp2_with (first | (refine wpList_loadC rfl _ rfl _ rfl b d p n r1 hb ?_) | (refine wpList_storeC rfl _ _ rfl _ b d p n rfl rfl t1 hb ?_))
    exact bodyPost_ret (v := .tuple #[consV b d p n, .string (bs tBad)]) (res_cell2 Tryz.results13 rfl K5) rfl (HF.out _ K6)
  | true =>
   have HC := hid hc
   have hl160 := cmdB_len hc
   clear hc
   go_wp2_with fail
   refine (isCommand_c line _ (by omega)).mono ?_
   rintro e _ ⟨rfl, rfl⟩
   rw [HC.out]
   have r2 := r1
   have t2 := t1
   have HB2 := HB1
   have z2 := z1
   generalize w1 = w2 at *
   clear r1 t1 HB1 z1
   have l2 := csC_log r2 hb
   have hc21 : w2.cell? ⟨w.heap.size, 21, none⟩ = some (.int .i64 n) := l2 2 _ rfl
   by_cases hn : n = 60
   · as_aux_lemma =>
      have HF := hid (fun w' => exOut_mk (w := w) (w' := w') true ⟨fun _ => HOKT.out, fun _ => rfl⟩ (stepV_full HC.out (show (Cst.mk b d p n).n = 60 from hn)))
      have hne : (n == 60) = true := by rw [hn]; rfl
      clear hn
      have K5 := loadVarC (rangeAt_setCells_same _ (w.heap.size + 1) 0 (csC b d p n) (by rw [csC_len hb]; exact t2)) hb
      have K6 := below_cells (csC b d p n) _ (w.heap.size + 1) 0 HB2.out (by omega)
      go_wp2_with (first | (refine wpList_loadC rfl _ rfl _ rfl b d p n r2 hb ?_) | (refine wpList_storeC rfl _ _ rfl _ b d p n rfl rfl t2 hb ?_))
      exact bodyPost_ret (v := .tuple #[consV b d p n, .string (bs tFull)]) (res_cell2 Tryz.results13 rfl K5) rfl (HF.out _ K6)
   · as_aux_lemma =>
      have hne : (n == 60) = false := by simp [hn]
      obtain ⟨hg, es, hes⟩ := HOKT.out
      have hg : goodB b = true := hg
      have hes : ValidL d.data.toList p.data.toList n es := hes
      have hsm := sayM_rp hb hg line.data.toList
      have hXl := (execM_ok hb hg line.data.toList).1.1
      have HREC := hid (recB_of HC.out hsm)
      have HS : Hid (stepV true ⟨b, d, p, n⟩ line = (doneC ⟨b, d, p, n⟩ line, sayO (execM b line.data.toList).2)) := stepV_done HC.out hn
      have HDC : Hid (doneC ⟨b, d, p, n⟩ line = ⟨(execM b line.data.toList).1, d, p ++ bs (lineS n line.data.toList (sayO (execM b line.data.toList).2)), n + 1⟩) := rfl
      have HX := hid (fun W h => execute_c b line W hb hg hl160 h)
      unfold ExeI at HX
      have HSY : Hid (∀ t : ByteArray, (∀ s, (execM b line.data.toList).2 = some s → t = bs s) → (execM b line.data.toList).2.isSome = true → t = bs (sayO (execM b line.data.toList).2)) := fun t h1 h2 => by
       cases ho : (execM b line.data.toList).2 with
       | none => rw [ho] at h2; cases h2
       | some s => exact h1 s ho
      have HSN : Hid ((execM b line.data.toList).2.isSome = false → (execM b line.data.toList).1 = b ∧ sayO (execM b line.data.toList).2 = [63]) := fun h => by
       have h2 := (execM_ok hb hg line.data.toList).2.2
       cases ho : (execM b line.data.toList).2 with
       | none => rw [ho] at h2; exact ⟨h2 rfl, rfl⟩
       | some s => rw [ho] at h; cases h
      obtain ⟨X, hX⟩ : ∃ X, (execM b line.data.toList).1 = X := ⟨_, rfl⟩
      obtain ⟨T, hTT⟩ : ∃ T, sayO (execM b line.data.toList).2 = T := ⟨_, rfl⟩
      obtain ⟨so, hso⟩ : ∃ so, (execM b line.data.toList).2.isSome = so := ⟨_, rfl⟩
      rw [hX] at hXl HDC HX HSN
      rw [hTT] at hsm HREC HS HDC HSY HSN
      rw [hso] at HX HSY HSN
      have HAP : Hid (∀ W, TabC W → Calls Tryz.prog 55 #[logV d p n, recV line (bs T)] W fun e w' => e = .returned (.tuple #[logV d (p ++ bs (lineS n line.data.toList T)) (n + 1), .int .i64 0]) ∧ Below W.heap.size W w') := fun W h =>
       (AppendRecord_c d p n line (bs T) W hd hp hl (by rw [bs_size]; have := hsm.len; omega) h.pow).mono fun e w' ⟨ok2, he, hi, hbb⟩ => by
        have : ok2 = true := hi.2 ⟨es, hes⟩
        subst this
        rw [HREC.out, appV_yes hn, bs_list] at he
        exact ⟨he, hbb⟩
      obtain ⟨P, hP⟩ : ∃ P, p ++ bs (lineS n line.data.toList T) = P := ⟨_, rfl⟩
      rw [hP] at HAP HDC
      have HF := hid (fun w' => exOut_mk (w := w) (w' := w') true ⟨fun _ => HOKT.out, fun _ => rfl⟩ (by rw [HS.out, HDC.out]))
      have hbu := build_cons2 hXl d P (n + 1)
      have hX19 : (ints X).length = 19 := by simp [ints, hXl]
      have r2b := csC_bench r2 hb
      unfold logV recV at HAP
      unfold aggI at HX
      have hbs := build_small hXl
      unfold zCA at hbu hbs
      clear hX hTT hP HS HDC HREC hsm HOKT hes hg HC hn hso
      go_upto_region 7 with fail
      go_wp2_with (refine wpList_loadB rfl _ rfl _ rfl b r2b hb ?_)
      refine (HX.out _ (HT.out.on HB2.out)).mono ?_
      rintro e w3 ⟨t, rfl, hts, hb3⟩
      have HTS := hid (HSY.out t hts)
      have z3 := lt_of_lt_of_le z2 hb3.size
      cases so with
      | true =>
       as_aux_lemma =>
        have hte := HTS.out rfl
        subst hte
        have t3 := there_new w3 zBA 26 (n := 19) (by decide)
        have u3 := there_setCells (World.there_alloc (there_below t2 hb3) zB) w3.heap.size 0 (ints X)
        have r3 := World.rangeAt_setCells_apart (rangeAt_alloc (range_below r2 hb3) zB) w3.heap.size 0 (ints X) (.inl (by have := z3; omega))
        have c3 := rangeAt_setCells_same (w3.alloc zB) w3.heap.size 0 (ints X) (by rw [hX19]; exact t3)
        have HB3 := hid (below_cells (ints X) (w3.alloc zB) w3.heap.size 0 (Below.alc (Below.chain HB2.out hb3) zB) (by omega))
        clear r2 t2 hb3 HX r2b HB2 l2 hc21 hts HTS HSY HSN
        unfold zB zBA at *
        go_upto_region 10 with (refine wpList_storeB rfl _ _ rfl _ X rfl rfl t3 hXl ?_)
        clear t3
        generalize w3.heap.size = g6 at *
        generalize World.setCells _ _ _ _ = w4 at *
        have l4 := csC_log r3 hb
        have hl4a : w4.cell? ⟨w.heap.size, 19, none⟩ = some (.string d) := l4 0 _ rfl
        have hl4b : w4.cell? ⟨w.heap.size, 20, none⟩ = some (.string p) := l4 1 _ rfl
        have hl4c : w4.cell? ⟨w.heap.size, 21, none⟩ = some (.int .i64 n) := l4 2 _ rfl
        go_wp2_with (refine wpList_loadL rfl _ rfl _ _ rfl d p n l4 ?_)
        refine (HAP.out _ (HT.out.on (by have hb := HB3.out; (repeat (first | exact Below.refl _ _ | exact (Below.refl _ _).drew | assumption | exact below_one _ | refine Below.chain ?_ (by assumption) | refine Below.drew ?_ | refine Below.alc ?_ _ | refine below_drewN ?_ | (refine Below.setCell ?_ ?_ _) | exact Nat.le_refl _ | (simp; done) | (simp; omega)))))).mono ?_
        rintro e w5 ⟨rfl, hb5⟩
        have c5 := rangeAt_alloc (range_below c3 hb5) (.cells #[.string d, .string P, .int .i64 (n + 1)] 29)
        have u5 := World.there_alloc (there_below u3 hb5) (.cells #[.string d, .string P, .int .i64 (n + 1)] 29)
        have HB5 := hid (Below.alc (Below.chain HB3.out hb5) (.cells #[.string d, .string P, .int .i64 (n + 1)] 29))
        have K5 := loadVarC (rangeAt_setCells_same _ (w.heap.size + 1) 0 (csC X d P (n + 1)) (by rw [csC_len hXl]; exact u5)) hXl
        have K6 := below_cells (csC X d P (n + 1)) _ (w.heap.size + 1) 0 HB5.out (by omega)
        clear hl4a hl4b hl4c l4 hb5 HAP
        go_wp2_with (first | (refine wpList_loadB rfl _ rfl _ rfl X c5 hXl ?_) | (refine wpList_storeC rfl _ _ rfl _ X d P (n + 1) rfl rfl u5 hXl ?_))
        exact bodyPost_ret (v := .tuple #[consV X d P (n + 1), .string (bs T)]) (res_cell2 Tryz.results13 rfl K5) rfl (HF.out _ K6)
      | false =>
       as_aux_lemma =>
        obtain ⟨hXb, hTq⟩ := HSN.out rfl
        subst hXb hTq
        have t3 := there_new w3 zBA 26 (n := 19) (by decide)
        have u3 := there_setCells (World.there_alloc (there_below t2 hb3) zB) w3.heap.size 0 (ints X)
        have r3 := World.rangeAt_setCells_apart (rangeAt_alloc (range_below r2 hb3) zB) w3.heap.size 0 (ints X) (.inl (by have := z3; omega))
        have c3 := rangeAt_setCells_same (w3.alloc zB) w3.heap.size 0 (ints X) (by rw [hX19]; exact t3)
        have HB3 := hid (below_cells (ints X) (w3.alloc zB) w3.heap.size 0 (Below.alc (Below.chain HB2.out hb3) zB) (by omega))
        have u4 := there_setCells u3 w3.heap.size 0 (ints X)
        have r4 := World.rangeAt_setCells_apart r3 w3.heap.size 0 (ints X) (.inl (by have := z3; omega))
        have r3b := csC_bench r3 hb
        have t4 := there_setCells t3 w3.heap.size 0 (ints X)
        have c4 := rangeAt_setCells_same ((w3.alloc zB).setCells w3.heap.size 0 (ints X)) w3.heap.size 0 (ints X) (by rw [hX19]; exact t4)
        have HB4 := hid (below_cells (ints X) ((w3.alloc zB).setCells w3.heap.size 0 (ints X)) w3.heap.size 0 HB3.out (by omega))
        clear r2 t2 hb3 HX r2b HB2 l2 hc21 hts HTS HSY HSN u3 c3 HB3 r3
        unfold zB zBA at *
        go_upto_region 10 with (first | (refine wpList_storeB rfl _ _ rfl _ X rfl rfl t3 hXl ?_) | (refine wpList_loadB rfl _ rfl _ rfl X r3b hXl ?_) | (refine wpList_storeB rfl _ _ rfl _ X rfl rfl t4 hXl ?_))
        clear t3 t4 r3b
        generalize w3.heap.size = g6 at *
        generalize World.setCells _ _ _ _ = w4 at *
        have l4 := csC_log r4 hb
        have hl4a : w4.cell? ⟨w.heap.size, 19, none⟩ = some (.string d) := l4 0 _ rfl
        have hl4b : w4.cell? ⟨w.heap.size, 20, none⟩ = some (.string p) := l4 1 _ rfl
        have hl4c : w4.cell? ⟨w.heap.size, 21, none⟩ = some (.int .i64 n) := l4 2 _ rfl
        go_wp2_with (refine wpList_loadL rfl _ rfl _ _ rfl d p n l4 ?_)
        refine (HAP.out _ (HT.out.on (by have hb := HB4.out; (repeat (first | exact Below.refl _ _ | exact (Below.refl _ _).drew | assumption | exact below_one _ | refine Below.chain ?_ (by assumption) | refine Below.drew ?_ | refine Below.alc ?_ _ | refine below_drewN ?_ | (refine Below.setCell ?_ ?_ _) | exact Nat.le_refl _ | (simp; done) | (simp; omega)))))).mono ?_
        rintro e w5 ⟨rfl, hb5⟩
        have c5 := rangeAt_alloc (range_below c4 hb5) (.cells #[.string d, .string P, .int .i64 (n + 1)] 29)
        have u5 := World.there_alloc (there_below u4 hb5) (.cells #[.string d, .string P, .int .i64 (n + 1)] 29)
        have HB5 := hid (Below.alc (Below.chain HB4.out hb5) (.cells #[.string d, .string P, .int .i64 (n + 1)] 29))
        have K5 := loadVarC (rangeAt_setCells_same _ (w.heap.size + 1) 0 (csC X d P (n + 1)) (by rw [csC_len hXl]; exact u5)) hXl
        have K6 := below_cells (csC X d P (n + 1)) _ (w.heap.size + 1) 0 HB5.out (by omega)
        clear hl4a hl4b hl4c l4 hb5 HAP
        go_wp2_with (first | (refine wpList_loadB rfl _ rfl _ rfl X c5 hXl ?_) | (refine wpList_storeC rfl _ _ rfl _ X d P (n + 1) rfl rfl u5 hXl ?_))
        exact bodyPost_ret (v := .tuple #[consV X d P (n + 1), .string (bs [63])]) (res_cell2 Tryz.results13 rfl K5) rfl (HF.out _ K6)
theorem grow_cells : ∀ (vs : List Value) (w : World) (g o : Nat), w.grownBy (w.setCells g o vs) (some g)
 | [], w, g, o => ⟨rfl, rfl, rfl, Nat.le_refl _, fun _ _ _ => rfl⟩
 | v :: t, w, g, o => by
  have h1 : w.grownBy (w.setCell ⟨g, o, none⟩ v) (some g) := ⟨rfl, rfl, rfl, by simp [World.setCell], fun k hk hne => Below.heap_setCell _ _ _ _ (fun e => hne (by rw [e]))⟩
  have h2 := grow_cells t (w.setCell ⟨g, o, none⟩ v) g (o + 1)
  exact ⟨h2.os.trans h1.os, h2.tape.trans h1.tape, h2.output.trans h1.output, Nat.le_trans h1.size h2.size, fun i hi hr => (h2.block i (lt_of_lt_of_le hi h1.size) hr).trans (h1.block i hi hr)⟩
theorem own_far {w : World} {lo n size : Nat} {e : TypeId} {v : Value} {xs : List Value} (h : w.ownsRow lo e size v n xs) (g o : Nat) (vs : List Value) (hg : g < lo) : (w.setCells g o vs).ownsRow lo e size v n xs :=
 h.kept (grow_cells vs w g o) (by
  cases hb : v.ownBlock with
  | none => exact .inl rfl
  | some k => right; have := (h.lt k hb).1; intro e; injection e with e; omega)
theorem range_block {w w' : World} {g o : Nat} {cs : List Value} (h : w.rangeAt g o cs) (hb : w'.heap[g]? = w.heap[g]?) : w'.rangeAt g o cs := fun j v hv => (World.cell?_of_block (w := w) (a := ⟨g, o + j, none⟩) hb).trans (h j v hv)
theorem there_block {w w' : World} {g o n : Nat} (h : w.there g o n) (hb : w'.heap[g]? = w.heap[g]?) : w'.there g o n := fun j hj => by
 obtain ⟨h1, h2⟩ := h j hj
 exact ⟨by rw [World.cell?_of_block (w := w) (a := ⟨g, o + j, none⟩) hb]; exact h1, by rw [World.frozen?_of_block (w := w) (a := ⟨g, o + j, none⟩) hb]; exact h2⟩
def runOk (ok : Bool) (t : Bs) : Bool := ok && (decide ((splitS 10 t).length ≤ 30) && decide (t.length ≤ 4000))
def runR (ok : Bool) (c : Cst) (t : Bs) : List Bs := if runOk ok t then (runS c (splitS 10 t)).2 else []
def RunOut (c : Cst) (t : Bs) (w : World) (e : Ending) (w' : World) : Prop :=
 ∃ ok v, e = .returned (.tuple #[v, .bool (runOk ok t)]) ∧ (ok = true ↔ c.ok) ∧ w'.ownsRow w.heap.size 9 1 v (runR ok c t).length ((runR ok c t).map strV) ∧ Below w.heap.size w w'
theorem runOut_no {c : Cst} {t : Bs} {w w' : World} {v : Value} (ok : Bool) (h1 : ok = true ↔ c.ok) (h2 : runOk ok t = false) (ho : w'.ownsRow w.heap.size 9 1 v 0 []) (hb : Below w.heap.size w w') : RunOut c t w (.returned (.tuple #[v, .bool false])) w' :=
 ⟨ok, v, by rw [h2], h1, by unfold runR; rw [h2]; exact ho, hb⟩
theorem runOut_yes {c : Cst} {t : Bs} {w w' : World} {v : Value} (h1 : c.ok) (h2 : runOk true t = true) {rs : List Bs} (hr : rs = (runS c (splitS 10 t)).2) (ho : w'.ownsRow w.heap.size 9 1 v rs.length (rs.map strV)) (hb : Below w.heap.size w w') : RunOut c t w (.returned (.tuple #[v, .bool true])) w' :=
 ⟨true, v, by rw [h2], ⟨fun _ => h1, fun _ => rfl⟩, by subst hr; unfold runR; rw [h2]; exact ho, hb⟩
set_option maxHeartbeats 20000000 in
theorem RunScript_c (c : Cst) (tx : ByteArray) (w : World) (hf : c.fit) (hl : tx.size ≤ 1048576) (ht : TabC w) :
 Calls Tryz.prog 33 #[c.val, .string tx] w (RunOut c tx.data.toList w) := by
 obtain ⟨i, hi, hz0, hz1, hz2⟩ := info_parts info_strx
 obtain ⟨b, d, p, n⟩ := c
 obtain ⟨hb, hd, hp⟩ := hf
 have hb : b.length = 19 := hb
 have hd : d.size ≤ 1048576 := hd
 have hp : p.size ≤ 1048576 := hp
 have HT := hid ht
 clear ht
 have hv : Cst.val ⟨b, d, p, n⟩ = .agg (csC b d p n).toArray := rfl
 rw [hv]
 obtain ⟨c, hcc⟩ : ∃ c, Cst.mk b d p n = c := ⟨_, rfl⟩
 rw [hcc]
 have HCC := hid hcc
 have r0 := range_new w (csC b d p n) 31
 have t0 := there_new w (csC b d p n).toArray 31 (n := 22) (by simp [csC_len hb])
 have hb0 := below_one (w := w) (.cells (csC b d p n).toArray 31)
 have hsz : w.heap.size < (w.alloc (.cells (csC b d p n).toArray 31)).heap.size := by simp
 have HV := hid (fun W h => IsValidConsole_c b d p n W hb hd hp h)
 unfold ConsOut consV at HV
 have HK : Hid (∀ ok : Bool, (ok = true ↔ (goodB b = true ∧ ∃ es, ValidL d.data.toList p.data.toList n es)) → (ok = true ↔ c.ok)) := fun ok h => by rw [← hcc]; exact h
 have hwm := split_mem 10 tx.data.toList
 have HPL := split_pos 10 tx.data.toList
 rw [ba_len] at hwm
 obtain ⟨ls, hls⟩ : ∃ ls, splitS 10 tx.data.toList = ls := ⟨_, rfl⟩
 have HSP := hid (fun W h => Split_c tx 10 W hl h)
 unfold SplOut at HSP
 rw [hls] at hwm HSP HPL
 have HLS := hid hls
 obtain ⟨m, hm⟩ : ∃ m, ls.length = m := ⟨_, rfl⟩
 have HM := hid hm
 have HWM := hid hwm
 rw [hm] at HSP
 clear hv hls hwm hm hcc HPL
 go_enter Tryz.func33, Tryz.ntmps33
 go_wp2_with fail
 refine (HSP.out _ (HT.out.on hb0)).mono ?_
 rintro e w1 ⟨v, rfl, ho, hb1⟩
 obtain ⟨va, vc, rfl, hv1, hv2, hv3, hv4⟩ := Sl.of_own ho
 have HLC : Hid (∀ k x, ls[k]? = some x → ∃ vb vo, va = some ⟨vb, vo, none⟩ ∧ w.heap.size < vb ∧ w1.cell? ⟨vb, vo + k, none⟩ = some (.string (bs x))) := fun k x hx => by
  have hlt := (List.getElem?_eq_some_iff.1 hx).1
  obtain ⟨vb, vo, rfl, hvc⟩ := hv4 (by have := HM.out; omega)
  refine ⟨vb, vo, rfl, lt_of_lt_of_le hsz (ho.lt vb rfl).1, ?_⟩
  rw [hvc k (by have := HM.out; omega), List.getElem?_map, hx]; rfl
 have r1 := range_below r0 hb1
 have t1 := there_below t0 hb1
 have HB1 := hid (Below.chain hb0 hb1)
 have z1 := lt_of_lt_of_le hsz hb1.size
 clear r0 t0 hb0 hb1 hsz ho hv4 hv3 HSP
 unfold maxLen at hv2
 go_wp2_with (refine wpList_loadC rfl _ rfl _ rfl b d p n r1 hb ?_)
 refine (HV.out _ (HT.out.on HB1.out).pow).mono ?_
 rintro e w2 ⟨ok, rfl, hok, hb1⟩
 have HOK := hid (HK.out ok hok)
 have r2 := range_below r1 hb1
 have t2 := there_below t1 hb1
 have HB2 := hid (Below.chain HB1.out hb1)
 have z2 := lt_of_lt_of_le z1 hb1.size
 have HLC2 : Hid (∀ k x, ls[k]? = some x → ∃ vb vo, va = some ⟨vb, vo, none⟩ ∧ w.heap.size < vb ∧ w2.cell? ⟨vb, vo + k, none⟩ = some (.string (bs x))) := fun k x hx => by
  obtain ⟨vb, vo, h1, h2, h3⟩ := HLC.out k x hx
  exact ⟨vb, vo, h1, h2, cell_later hb1 h3⟩
 clear r1 t1 HB1 z1 hb1 HLC HV HK hok
 cases ok with
 | false =>
  as_aux_lemma =>
   have HF := hid (fun w' v => runOut_no (w := w) (w' := w') (v := v) (t := tx.data.toList) false HOK.out rfl)
   go_wp2
   exact bodyPost_ret (v := .tuple #[.slice none 0 0, .bool false]) (by simp [results, Tryz.results33, go_sem] <;> rfl) rfl (HF.out _ _ (World.ownsRow_nil _ _ _ _) HB2.out)
 | true =>
  have HOKT : Hid c.ok := HOK.out.1 rfl
  clear HOK
  by_cases h30 : 30 < m
  · as_aux_lemma =>
     have h3 : decide ((30 : Int) < (m : Int)) = true := by simp; omega
     have HF := hid (fun w' v => runOut_no (w := w) (w' := w') (v := v) (t := tx.data.toList) true ⟨fun _ => HOKT.out, fun _ => rfl⟩ (by unfold runOk; rw [HLS.out, HM.out, decide_eq_false (show ¬ m ≤ 30 by omega)]; simp))
     go_wp2
     exact bodyPost_ret (v := .tuple #[.slice none 0 0, .bool false]) (by simp [results, Tryz.results33, go_sem] <;> rfl) rfl (HF.out _ _ (World.ownsRow_nil _ _ _ _) HB2.out)
  have h3 : decide ((30 : Int) < (m : Int)) = false := by simp; omega
  by_cases h40 : 4000 < tx.size
  · as_aux_lemma =>
     have h4 : decide ((4000 : Int) < (tx.size : Int)) = true := by simp; omega
     have HF := hid (fun w' v => runOut_no (w := w) (w' := w') (v := v) (t := tx.data.toList) true ⟨fun _ => HOKT.out, fun _ => rfl⟩ (by unfold runOk; rw [decide_eq_false (show ¬ tx.data.toList.length ≤ 4000 by rw [ba_len]; omega)]; simp))
     go_wp2
     exact bodyPost_ret (v := .tuple #[.slice none 0 0, .bool false]) (by simp [results, Tryz.results33, go_sem] <;> rfl) rfl (HF.out _ _ (World.ownsRow_nil _ _ _ _) HB2.out)
  have h4 : decide ((4000 : Int) < (tx.size : Int)) = false := by simp; omega
  have HRO : Hid (runOk true tx.data.toList = true) := by
   show _ = _
   unfold runOk
   rw [HLS.out, HM.out, decide_eq_true (show m ≤ 30 by omega), decide_eq_true (show tx.data.toList.length ≤ 4000 by rw [ba_len]; omega)]; rfl
  have HCB : Hid (c.b.length = 19) := by show _ = _; rw [← HCC.out]; exact hb
  have hm30 : m ≤ 30 := by omega
  have NE0 : Hid (∀ q vb vo, (.slice none 0 0 : Value).ownBlock = some q → va = some ⟨vb, vo, none⟩ → q ≠ vb) := fun q vb vo h _ => by cases h
  go_wp2
  go_loopw [7, 29] (fun v i wr => ∃ (V : Value) (k : Nat) (S : Cst) (rs : List Bs), V = v ∧ k ≤ m ∧ i = .int .i64 (k : Int) ∧ Hid (runS c (ls.take k) = (S, rs)) ∧ wr.rangeAt w.heap.size 0 (csC S.b S.d S.p S.n) ∧ wr.there w.heap.size 0 22 ∧ wr.ownsRow (w2.heap.size) 9 1 v k (rs.map strV) ∧ Hid (∀ k x, ls[k]? = some x → ∃ vb vo, va = some ⟨vb, vo, none⟩ ∧ w.heap.size < vb ∧ wr.cell? ⟨vb, vo + k, none⟩ = some (.string (bs x))) ∧ Below w.heap.size w wr ∧ w2.heap.size ≤ wr.heap.size ∧ Hid (∀ q vb vo, v.ownBlock = some q → va = some ⟨vb, vo, none⟩ → q ≠ vb)) (fun _ i _ => m + 1 - (intOf i).toNat)
  case atStart =>
   refine ⟨_, 0, c, [], rfl, by omega, rfl, rfl, ?_, t2, World.ownsRow_nil _ _ _ _, HLC2, HB2.out, Nat.le_refl _, NE0⟩
   have := HCC.out
   rw [← this]; exact r2
  case round =>
   obtain ⟨V, k, S, rs, rfl, hk, rfl, HRS, rk, tk, ho, HLC, hbk, hzk, NE⟩ := hrel
   have HO := hid ho
   have HB := hid hbk
   clear ho hbk r2 t2 HB2
   by_cases hlt : k < m
   · have hd : decide ((k : Int) < (m : Int)) = true := by simp; omega
     obtain ⟨x, hxx⟩ := elem_at (show k < ls.length by rw [HM.out]; exact hlt)
     obtain ⟨vb, vo, rfl, hvb, hcell⟩ := HLC.out k x hxx.out
     have hxl := HWM.out x (List.mem_of_getElem? hxx.out)
     have hvw0 : vb < wr.heap.size := World.block_lt_of_cell? _ _ hcell
     have hSok := runS_ok HCB.out HOKT.out (ls.take k)
     rw [HRS.out] at hSok
     have hSfit := ok_fit hSok.1 hSok.2
     have hSb : S.b.length = 19 := hSok.1
     have hNok := stepV_ok (bs x) hSok.1 hSok.2
     have HNX := hid (runS_snoc c (ls.take k) x)
     rw [HRS.out] at HNX
     obtain ⟨N, hN⟩ : ∃ N, (stepV true S (bs x)).1 = N := ⟨_, rfl⟩
     obtain ⟨T, hT⟩ : ∃ T, (stepV true S (bs x)).2 = T := ⟨_, rfl⟩
     rw [hN] at hNok
     have hNb : N.b.length = 19 := hNok.1
     have HEX := hid (fun (W : World) (h : TabC W) => (ExecuteCommand_c S (bs x) W hSfit (by rw [bs_size]; omega) h).mono fun e w' h => ex_yes hSok.2 h)
     simp only [hN, hT] at HNX HEX
     have HNX2 : Hid (runS c (ls.take (k + 1)) = (N, rs ++ [T])) := by
      show _ = _
      rw [take_snoc hxx.out]; exact HNX.out
     unfold Cst.val consV at HEX
     clear hN hT HNX hxx hSok hSfit hNok HRS hxl
     generalize bs x = X at *
     as_aux_lemma =>
      go_wp2_with (refine wpList_loadC rfl _ rfl _ rfl S.b S.d S.p S.n rk hSb ?_)
      refine (HEX.out _ (HT.out.on HB.out)).mono ?_
      rintro e w4 ⟨rfl, hb4⟩
      have t4 := there_new w4 zCA 31 (n := 22) (by decide)
      have z4 := hb4.size
      have tk4 := there_setCells (World.there_alloc (there_below tk hb4) (.cells zCA 31)) w4.heap.size 0 (csC N.b N.d N.p N.n)
      have c4 := rangeAt_setCells_same (w4.alloc (.cells zCA 31)) w4.heap.size 0 (csC N.b N.d N.p N.n) (by rw [csC_len hNb]; exact t4)
      have hB4 : Below wr.heap.size wr ((w4.alloc (.cells zCA 31)).setCells w4.heap.size 0 (csC N.b N.d N.p N.n)) := below_cells (csC N.b N.d N.p N.n) (w4.alloc (.cells zCA 31)) w4.heap.size 0 (Below.alc hb4 (.cells zCA 31)) (by omega)
      unfold zCA at *
      clear rk hb4 HEX hcell
      go_upto_region 9 with (refine wpList_storeC rfl _ _ rfl _ N.b N.d N.p N.n rfl rfl t4 hNb ?_)
      clear t4
      generalize w4.heap.size = g10 at *
      generalize World.setCells (World.alloc w4 _) _ _ _ = w4b at *
      have HO4 := own_keep HO.out hB4
      have HLC4 : Hid (∀ k x, ls[k]? = some x → ∃ vb2 vo2, (some ⟨vb, vo, none⟩ : Option Addr) = some ⟨vb2, vo2, none⟩ ∧ w.heap.size < vb2 ∧ w4b.cell? ⟨vb2, vo2 + k, none⟩ = some (.string (bs x))) := fun k x hx => by
       obtain ⟨vb2, vo2, h1, h2, h3⟩ := HLC.out k x hx
       exact ⟨vb2, vo2, h1, h2, cell_later hB4 h3⟩
      have HB4 := hid (Below.chain HB.out hB4)
      have z4b := Nat.le_trans hzk hB4.size
      have hvw := lt_of_lt_of_le hvw0 (Nat.le_trans hB4.size (grow_cells (csC N.b N.d N.p N.n) w4b w.heap.size 0).size)
      have t5 := there_setCells tk4 w.heap.size 0 (csC N.b N.d N.p N.n)
      have r5 := rangeAt_setCells_same w4b w.heap.size 0 (csC N.b N.d N.p N.n) (by rw [csC_len hNb]; exact tk4)
      have HB5 := hid (below_cells (csC N.b N.d N.p N.n) w4b w.heap.size 0 HB4.out (by omega))
      have HO5 := hid (own_far HO4 w.heap.size 0 (csC N.b N.d N.p N.n) (by omega))
      have HLC5 : Hid (∀ k x, ls[k]? = some x → ∃ vb2 vo2, (some ⟨vb, vo, none⟩ : Option Addr) = some ⟨vb2, vo2, none⟩ ∧ w.heap.size < vb2 ∧ (w4b.setCells w.heap.size 0 (csC N.b N.d N.p N.n)).cell? ⟨vb2, vo2 + k, none⟩ = some (.string (bs x))) := fun k x hx => by
       obtain ⟨vb2, vo2, h1, h2, h3⟩ := HLC4.out k x hx
       exact ⟨vb2, vo2, h1, h2, cell_far2 (g2 := w.heap.size) (o2 := 0) (vs := csC N.b N.d N.p N.n) h3 (by omega)⟩
      have z5 : w2.heap.size ≤ (w4b.setCells w.heap.size 0 (csC N.b N.d N.p N.n)).heap.size := Nat.le_trans z4b (grow_cells (csC N.b N.d N.p N.n) w4b w.heap.size 0).size
      have R5 := hid r5
      have T5 := hid t5
      have Z5 := hid z5
      have HVW := hid hvw
      clear tk HB HB4 HO HO4 HLC HLC4 hB4 z4b hzk r5 t5 z5 hvw
      go_upto_region 10 with (first | (refine wpList_loadC rfl _ rfl _ rfl N.b N.d N.p N.n c4 hNb ?_) | (refine wpList_storeC rfl _ _ rfl _ N.b N.d N.p N.n rfl rfl tk4 hNb ?_))
      clear c4 tk4
      generalize World.setCells w4b _ _ _ = w5 at *
      have z5 := Z5.out
      have hvw := HVW.out
      as_aux_lemma =>
      go_wp2_with (at_builtin; refine wpList_append_own_at _ rfl _ _ 48 rfl (w2.heap.size) 9 i (.string ⟨#[]⟩) 1 16 Tryz.underlying48 hi hz0 hz1 hz2 rfl (by decide) _ k (rs.map strV) rfl (HO5.out.alloc _) ⟨w5.heap.size, 0, none⟩ 1 1 [.string (bs T)] rfl rfl (news_new _ [.string (bs T)] _) (by simp [Value.oneCell']) (by unfold maxLen; omega) (by omega) (by simp only [World.size_alloc]; omega) ?_)
      intro v' w6 ho6 hg6 _ hat
      have hga := below_one (w := w5) (.cells [Value.string (bs T)].toArray 9)
      have HBG : Hid (∀ g, g < w5.heap.size → (∀ q, V.ownBlock = some q → g ≠ q) → w6.heap[g]? = w5.heap[g]?) := fun g hg hne => (hg6.block g (by rw [World.size_alloc]; omega) (fun e => hne g e.symm rfl)).trans (hga.block g hg)
      have zL : w.heap.size < w5.heap.size := by omega
      have q1 : w6.heap[w.heap.size]? = w5.heap[w.heap.size]? := HBG.out _ zL (fun q hq e => by have := (HO5.out.lt q hq).1; omega)
      have r6 := range_block R5.out q1
      have t6 := there_block T5.out q1
      have HLC6 : Hid (∀ k x, ls[k]? = some x → ∃ vb2 vo2, (some ⟨vb, vo, none⟩ : Option Addr) = some ⟨vb2, vo2, none⟩ ∧ w.heap.size < vb2 ∧ w6.cell? ⟨vb2, vo2 + k, none⟩ = some (.string (bs x))) := fun k x hx => by
       obtain ⟨vb2, vo2, h1, h2, h3⟩ := HLC5.out k x hx
       exact ⟨vb2, vo2, h1, h2, (World.cell?_of_block (w := w5) (a := ⟨vb2, vo2 + k, none⟩) (HBG.out vb2 (World.block_lt_of_cell? _ _ h3) (fun q hq e => NE.out q vb2 vo2 hq h1 e.symm))).trans h3⟩
      have NE6 : Hid (∀ q vb2 vo2, v'.ownBlock = some q → (some ⟨vb, vo, none⟩ : Option Addr) = some ⟨vb2, vo2, none⟩ → q ≠ vb2) := fun q vb2 vo2 hq h1 => by
       rcases hat with h | h
       · exact NE.out q vb2 vo2 (by rw [← h]; exact hq) h1
       · rw [h] at hq
         injection hq with hq
         injection h1 with h1
         injection h1 with h1
         omega
      have HB6 := hid ((Below.alc HB5.out _).grown hg6 (by simp only [World.size_alloc]; omega) (fun g hg => by have := (HO5.out.lt g hg).1; omega))
      have z6 : w2.heap.size ≤ w6.heap.size := by have h1 := hg6.size; rw [World.size_alloc] at h1; omega
      have HO6 := hid ho6
      have hvl : vb < w5.heap.size := hvw
      clear ho6 hg6 HB5 HO5 R5 T5 HLC5 HBG q1 hga
      have R6 := hid r6
      have T6 := hid t6
      clear r6 t6
      go_wp2
      go_roundw
      case rel => exact ⟨_, k + 1, N, rs ++ [T], rfl, by omega, by go_num, HNX2.out, R6.out, T6.out, ownsRow_cast HO6.out rfl (by rw [List.map_append]; rfl), HLC6, HB6.out, z6, NE6⟩
      case measure => first | (simp [intOf]; done) | (simp [intOf]; omega)
   · obtain rfl : k = m := by omega
     have hd : decide ((k : Int) < (k : Int)) = false := by simp
     as_aux_lemma =>
     have HE2 : Hid (rs = (runS c (splitS 10 tx.data.toList)).2) := by
      show _ = _
      have h := HRS.out
      rw [← HM.out, List.take_length] at h
      rw [HLS.out, h]
     have hrl : rs.length = k := by rw [HE2.out, HLS.out, runS_len]; exact HM.out
     have HF := hid (fun w' v => runOut_yes (w := w) (w' := w') (v := v) HOKT.out HRO.out HE2.out)
     rw [hrl] at HF
     clear hrl
     obtain ⟨ua, uc, rfl, _⟩ := (Sl.of_own HO.out).slice
     go_wp2
     exact bodyPost_ret (v := .tuple #[.slice ua k uc, .bool true]) (by simp [results, Tryz.results33, go_sem] <;> rfl) rfl (HF.out _ _ (own_lo HO.out (by omega)) HB.out)
end Go.Proofs.YtohgjfdbnkjefaaGreatDoor
