import Derived.Test.YtohgjfdbnkjefaaGreatDoorMr1
import Derived.Deep.RegionHeld3
import Derived.Deep.DeepCutAuto
namespace Go.Proofs.YtohgjfdbnkjefaaGreatDoor
open Go.RowKit
set_option linter.unusedVariables false
set_option linter.unusedSimpArgs false
set_option maxRecDepth 100000
open World (rangeAt_setCells_same rangeAt_alloc there_setCells)
open Lib (hid)
open Nat (lt_of_lt_of_le)
theorem cmdB_len {line : ByteArray} (h : cmdB line = true) : line.size ≤ 160 := by
 unfold cmdB at h
 simp only [Bool.and_eq_true] at h
 have := inB_true h.1
 omega
theorem recB_nil (line : ByteArray) : recB line ⟨#[]⟩ = cmdB line := by
 unfold recB
 rw [show (decide (((⟨#[]⟩ : ByteArray).size : Int) ≤ 250) && printB ⟨#[]⟩) = true from by decide, Bool.and_true]
theorem build_cons2_x (x0 x1 x2 x3 x4 x5 x6 x7 x8 x9 x10 x11 x12 x13 x14 x15 x16 x17 x18 : Int) (d p : ByteArray) (n : Int) :
 (((List.foldl (fun (cs : Array Value) (x : Value × Nat) => cs.setIfInBounds x.snd x.fst) zCA (ints [x0, x1, x2, x3, x4, x5, x6, x7, x8, x9, x10, x11, x12, x13, x14, x15, x16, x17, x18]).zipIdx).setIfInBounds 19 (.string d)).setIfInBounds 20 (.string p)).setIfInBounds 21 (.int .i64 n) = (csC [x0, x1, x2, x3, x4, x5, x6, x7, x8, x9, x10, x11, x12, x13, x14, x15, x16, x17, x18] d p n).toArray := by kernel_rfl
theorem build_cons2 {b : List Int} (hb : b.length = 19) (d p : ByteArray) (n : Int) :
 (((List.foldl (fun (cs : Array Value) (x : Value × Nat) => cs.setIfInBounds x.snd x.fst) zCA (ints b).zipIdx).setIfInBounds 19 (.string d)).setIfInBounds 20 (.string p)).setIfInBounds 21 (.int .i64 n) = (csC b d p n).toArray := by
 match b, hb with
 | [x0, x1, x2, x3, x4, x5, x6, x7, x8, x9, x10, x11, x12, x13, x14, x15, x16, x17, x18], _ => exact build_cons2_x x0 x1 x2 x3 x4 x5 x6 x7 x8 x9 x10 x11 x12 x13 x14 x15 x16 x17 x18 d p n
theorem build_small {b : List Int} (hb : b.length = 19) : ((List.foldl (fun (cs : Array Value) (x : Value × Nat) => cs.setIfInBounds x.snd x.fst) zCA (ints b).zipIdx).size < 22) = False := by
 rw [build_cons hb, List.size_toArray, csC_len hb]; simp
theorem exOut_mk {c : Cst} {line : ByteArray} {w w' : World} {X : Cst} {T : Bs} (ok : Bool) (h1 : ok = true ↔ c.ok) (h2 : stepV ok c line = (X, T)) (h3 : Below w.heap.size w w') : ExOut c line w (.returned (.tuple #[X.val, .string (bs T)])) w' :=
 ⟨ok, by rw [h2], h1, h3⟩
set_option maxHeartbeats 20000000 in
theorem ExecuteCommandS_c (c : Cst) (line : ByteArray) (w : World) (hf : c.fit) (hl : line.size ≤ 1048576) :
 Calls Tryz.prog 29 #[c.val, .string line] w (ExOut c line w) := by
 obtain ⟨b, d, p, n⟩ := c
 obtain ⟨hb, hd, hp⟩ := hf
 have hb : b.length = 19 := hb
 have hd : d.size ≤ 1048576 := hd
 have hp : p.size ≤ 1048576 := hp
 have hv : Cst.val ⟨b, d, p, n⟩ = .agg (csC b d p n).toArray := rfl
 rw [hv]
 have r0 := rangeAt_alloc (range_new w (csC b d p n) 31) (.cells zCA 31)
 have t0 := there_new (w.alloc (.cells (csC b d p n).toArray 31)) zCA 31 (n := 22) (by decide)
 have hb0 : Below w.heap.size w ((w.alloc (.cells (csC b d p n).toArray 31)).alloc (.cells zCA 31)) := qBl
 simp only [World.size_alloc] at t0
 have hsz : w.heap.size + 1 < ((w.alloc (.cells (csC b d p n).toArray 31)).alloc (.cells zCA 31)).heap.size := by simp
 have HV := hid (fun W => IsValidConsoleS_c b d p n W hb hd hp)
 unfold ConsOut consV at HV
 have HK : Hid (∀ ok : Bool, (ok = true ↔ (goodB b = true ∧ ∃ es, ValidL d.data.toList p.data.toList n es)) → (ok = true ↔ Cst.ok ⟨b, d, p, n⟩)) := fun ok h => h
 unfold zCA at *
 clear hv
 go_enter Tryz.func29, Tryz.ntmps29
 go_wp2_with (refine wpList_loadC rfl _ rfl _ rfl b d p n r0 hb ?_)
 refine (HV.out _).mono ?_
 rintro e w1 ⟨ok, rfl, hok, hb1⟩
 have HOK := hid (HK.out ok hok)
 have HOK2 := hid hok
 have r1 := range_below r0 hb1
 have t1 := there_below t0 hb1
 have HB1 := hid (Below.chain hb0 hb1)
 have z1 := lt_of_lt_of_le hsz hb1.size
 clear r0 t0 hb0 hb1 hsz hok HV HK
 cases ok with
 | false =>
  as_aux_lemma =>
   have HF := hid (fun w' => exOut_mk (w := w) (w' := w') (line := line) false HOK.out stepV_no)
   have K5 := loadVarC (rangeAt_setCells_same _ (w.heap.size + 1) 0 (csC b d p n) (by rw [csC_len hb]; exact t1)) hb
   have K6 := below_cells (csC b d p n) _ (w.heap.size + 1) 0 HB1.out (by omega)
   go_wp2_with (first | (refine wpList_loadC rfl _ rfl _ rfl b d p n r1 hb ?_) | (refine wpList_storeC rfl _ _ rfl _ b d p n rfl rfl t1 hb ?_))
   exact bodyPost_ret (v := .tuple #[consV b d p n, .string (bs tNo)]) (res_cell2 Tryz.results29 rfl K5) rfl (HF.out _ K6)
 | true =>
  have HOKT : Hid (Cst.ok ⟨b, d, p, n⟩) := HOK.out.1 rfl
  clear HOK HOK2
  cases hc : cmdB line with
  | false =>
   as_aux_lemma =>
    have HF := hid (fun w' => exOut_mk (w := w) (w' := w') true ⟨fun _ => HOKT.out, fun _ => rfl⟩ (stepV_bad hc))
    have HC := hid hc
    clear hc
    go_wp2_with fail
    refine (l12Record_c line ⟨#[]⟩ _ (by omega) (by show 0 ≤ _; omega)).mono ?_
    rintro e w2 ⟨rfl, hb2⟩
    rw [recB_nil, HC.out]
    have r2 := range_below r1 hb2
    have t2 := there_below t1 hb2
    have HB2 := hid (Below.chain HB1.out hb2)
    clear r1 t1 hb2
    have K5 := loadVarC (rangeAt_setCells_same _ (w.heap.size + 1) 0 (csC b d p n) (by rw [csC_len hb]; exact t2)) hb
    have K6 := below_cells (csC b d p n) _ (w.heap.size + 1) 0 HB2.out (by omega)
    go_wp2_with (first | (refine wpList_loadC rfl _ rfl _ rfl b d p n r2 hb ?_) | (refine wpList_storeC rfl _ _ rfl _ b d p n rfl rfl t2 hb ?_))
    exact bodyPost_ret (v := .tuple #[consV b d p n, .string (bs tBad)]) (res_cell2 Tryz.results29 rfl K5) rfl (HF.out _ K6)
  | true =>
   have HC := hid hc
   have hl160 := cmdB_len hc
   clear hc
   go_wp2_with fail
   refine (l12Record_c line ⟨#[]⟩ _ (by omega) (by show 0 ≤ _; omega)).mono ?_
   rintro e w2 ⟨rfl, hb2⟩
   rw [recB_nil, HC.out]
   have r2 := range_below r1 hb2
   have t2 := there_below t1 hb2
   have HB2 := hid (Below.chain HB1.out hb2)
   have z2 := lt_of_lt_of_le z1 hb2.size
   clear hb2
   clear r1 t1 HB1 z1
   have l2 := csC_log r2 hb
   have hc21 : w2.cell? ⟨w.heap.size, 21, none⟩ = some (.int .i64 n) := l2 2 _ rfl
   by_cases hn : n = 60
   · as_aux_lemma =>
      have HF := hid (fun w' => exOut_mk (w := w) (w' := w') true ⟨fun _ => HOKT.out, fun _ => rfl⟩ (stepV_full HC.out (show (Cst.mk b d p n).n = 60 from hn)))
      have hne : (n == 60) = true := by rw [hn]; rfl
      clear hn
      have K5 := loadVarC (rangeAt_setCells_same _ (w.heap.size + 1) 0 (csC b d p n) (by rw [csC_len hb]; exact t2)) hb
      have K6 := below_cells (csC b d p n) _ (w.heap.size + 1) 0 HB2.out (by omega)
      go_wp2_with (first | (refine wpList_loadC rfl _ rfl _ rfl b d p n r2 hb ?_) | (refine wpList_storeC rfl _ _ rfl _ b d p n rfl rfl t2 hb ?_))
      exact bodyPost_ret (v := .tuple #[consV b d p n, .string (bs tFull)]) (res_cell2 Tryz.results29 rfl K5) rfl (HF.out _ K6)
   · as_aux_lemma =>
      have hne : (n == 60) = false := by simp [hn]
      obtain ⟨hg, es, hes⟩ := HOKT.out
      have hg : goodB b = true := hg
      have hes : ValidL d.data.toList p.data.toList n es := hes
      have hsm := sayM_rp hb hg line.data.toList
      have hXl := (execM_ok hb hg line.data.toList).1.1
      have HREC := hid (recB_of HC.out hsm)
      have HS : Hid (stepV true ⟨b, d, p, n⟩ line = (doneC ⟨b, d, p, n⟩ line, sayO (execM b line.data.toList).2)) := stepV_done HC.out hn
      have HDC : Hid (doneC ⟨b, d, p, n⟩ line = ⟨(execM b line.data.toList).1, d, p ++ bs (lineS n line.data.toList (sayO (execM b line.data.toList).2)), n + 1⟩) := rfl
      have HX := hid (fun W => l12Exec_c b line W hb hg hl160)
      unfold ExeS at HX
      obtain ⟨X, hX⟩ : ∃ X, (execM b line.data.toList).1 = X := ⟨_, rfl⟩
      obtain ⟨T, hTT⟩ : ∃ T, sayO (execM b line.data.toList).2 = T := ⟨_, rfl⟩
      rw [hX] at hXl HDC HX
      rw [hTT] at hsm HREC HS HDC HX
      have HAP : Hid (∀ W, Calls Tryz.prog 73 #[logV d p n, recV line (bs T)] W fun e w' => e = .returned (.tuple #[logV d (p ++ bs (lineS n line.data.toList T)) (n + 1), .int .i64 0]) ∧ Below W.heap.size W w') := fun W =>
       (AppendRecordS_c d p n line (bs T) W hd hp hl (by rw [bs_size]; have := hsm.len; omega)).mono fun e w' ⟨ok2, he, hi, hbb⟩ => by
        have : ok2 = true := hi.2 ⟨es, hes⟩
        subst this
        rw [HREC.out, appV_yes hn, bs_list] at he
        exact ⟨he, hbb⟩
      obtain ⟨P, hP⟩ : ∃ P, p ++ bs (lineS n line.data.toList T) = P := ⟨_, rfl⟩
      rw [hP] at HAP HDC
      have HF := hid (fun w' => exOut_mk (w := w) (w' := w') true ⟨fun _ => HOKT.out, fun _ => rfl⟩ (by rw [HS.out, HDC.out]))
      have hbu := build_cons2 hXl d P (n + 1)
      have hX19 : (ints X).length = 19 := by simp [ints, hXl]
      have r2b := csC_bench r2 hb
      unfold logV recV at HAP
      unfold aggI at HX
      have hbs := build_small hXl
      unfold zCA at hbu hbs
      clear hX hTT hP HS HDC HREC hsm HOKT hes hg HC hn
      go_upto_region 7 with fail
      go_wp2_with (refine wpList_loadB rfl _ rfl _ rfl b r2b hb ?_)
      refine (HX.out _).mono ?_
      rintro e w3 ⟨rfl, hb3⟩
      have z3 := lt_of_lt_of_le z2 hb3.size
      have t3 := there_new w3 zBA 26 (n := 19) (by decide)
      have u3 := there_setCells (World.there_alloc (there_below t2 hb3) zB) w3.heap.size 0 (ints X)
      have r3 := World.rangeAt_setCells_apart (rangeAt_alloc (range_below r2 hb3) zB) w3.heap.size 0 (ints X) (.inl (by have := z3; omega))
      have c3 := rangeAt_setCells_same (w3.alloc zB) w3.heap.size 0 (ints X) (by rw [hX19]; exact t3)
      have HB3 := hid (below_cells (ints X) (w3.alloc zB) w3.heap.size 0 (Below.alc (Below.chain HB2.out hb3) zB) (by omega))
      clear r2 t2 hb3 HX r2b HB2 l2 hc21
      unfold zB zBA at *
      go_upto_region 8 with (refine wpList_storeB rfl _ _ rfl _ X rfl rfl t3 hXl ?_)
      clear t3
      generalize w3.heap.size = g6 at *
      generalize World.setCells _ _ _ _ = w4 at *
      have l4 := csC_log r3 hb
      have hl4a : w4.cell? ⟨w.heap.size, 19, none⟩ = some (.string d) := l4 0 _ rfl
      have hl4b : w4.cell? ⟨w.heap.size, 20, none⟩ = some (.string p) := l4 1 _ rfl
      have hl4c : w4.cell? ⟨w.heap.size, 21, none⟩ = some (.int .i64 n) := l4 2 _ rfl
      go_wp2_with (refine wpList_loadL rfl _ rfl _ _ rfl d p n l4 ?_)
      refine (HAP.out _).mono ?_
      rintro e w5 ⟨rfl, hb5⟩
      have c5 := rangeAt_alloc (range_below c3 hb5) (.cells #[.string d, .string P, .int .i64 (n + 1)] 29)
      have u5 := World.there_alloc (there_below u3 hb5) (.cells #[.string d, .string P, .int .i64 (n + 1)] 29)
      have HB5 := hid (Below.alc (Below.chain HB3.out hb5) (.cells #[.string d, .string P, .int .i64 (n + 1)] 29))
      have K5 := loadVarC (rangeAt_setCells_same _ (w.heap.size + 1) 0 (csC X d P (n + 1)) (by rw [csC_len hXl]; exact u5)) hXl
      have K6 := below_cells (csC X d P (n + 1)) _ (w.heap.size + 1) 0 HB5.out (by omega)
      clear hl4a hl4b hl4c l4 hb5 HAP
      go_wp2_with (first | (refine wpList_loadB rfl _ rfl _ rfl X c5 hXl ?_) | (refine wpList_storeC rfl _ _ rfl _ X d P (n + 1) rfl rfl u5 hXl ?_))
      exact bodyPost_ret (v := .tuple #[consV X d P (n + 1), .string (bs T)]) (res_cell2 Tryz.results29 rfl K5) rfl (HF.out _ K6)
set_option maxHeartbeats 20000000 in
theorem ExecuteCommand_c (c : Cst) (line : ByteArray) (w : World) (hf : c.fit) (hl : line.size ≤ 1048576) (ht : TabC w) :
 Calls Tryz.prog 13 #[c.val, .string line] w (ExOut c line w) := by
 obtain ⟨b, d, p, n⟩ := c
 obtain ⟨hb, hd, hp⟩ := hf
 have hb : b.length = 19 := hb
 have hd : d.size ≤ 1048576 := hd
 have hp : p.size ≤ 1048576 := hp
 have HT := hid ht
 clear ht
 have hv : Cst.val ⟨b, d, p, n⟩ = .agg (csC b d p n).toArray := rfl
 rw [hv]
 have r0 := rangeAt_alloc (range_new w (csC b d p n) 31) (.cells zCA 31)
 have t0 := there_new (w.alloc (.cells (csC b d p n).toArray 31)) zCA 31 (n := 22) (by decide)
 have hb0 : Below w.heap.size w ((w.alloc (.cells (csC b d p n).toArray 31)).alloc (.cells zCA 31)) := qBl
 simp only [World.size_alloc] at t0
 have hsz : w.heap.size + 1 < ((w.alloc (.cells (csC b d p n).toArray 31)).alloc (.cells zCA 31)).heap.size := by simp
 have HV := hid (fun W h => IsValidConsole_c b d p n W hb hd hp h)
 unfold ConsOut consV at HV
 have HK : Hid (∀ ok : Bool, (ok = true ↔ (goodB b = true ∧ ∃ es, ValidL d.data.toList p.data.toList n es)) → (ok = true ↔ Cst.ok ⟨b, d, p, n⟩)) := fun ok h => h
 unfold zCA at *
 clear hv
 go_enter Tryz.func13, Tryz.ntmps13
 go_wp2_with (refine wpList_loadC rfl _ rfl _ rfl b d p n r0 hb ?_)
 refine (HV.out _ (HT.out.on hb0).pow).mono ?_
 rintro e w1 ⟨ok, rfl, hok, hb1⟩
 have HOK := hid (HK.out ok hok)
 have HOK2 := hid hok
 have r1 := range_below r0 hb1
 have t1 := there_below t0 hb1
 have HB1 := hid (Below.chain hb0 hb1)
 have z1 := lt_of_lt_of_le hsz hb1.size
 clear r0 t0 hb0 hb1 hsz hok HV HK
 cases ok with
 | false =>
  as_aux_lemma =>
   have HF := hid (fun w' => exOut_mk (w := w) (w' := w') (line := line) false HOK.out stepV_no)
   have K5 := loadVarC (rangeAt_setCells_same _ (w.heap.size + 1) 0 (csC b d p n) (by rw [csC_len hb]; exact t1)) hb
   have K6 := below_cells (csC b d p n) _ (w.heap.size + 1) 0 HB1.out (by omega)
   go_wp2_with (first | (refine wpList_loadC rfl _ rfl _ rfl b d p n r1 hb ?_) | (refine wpList_storeC rfl _ _ rfl _ b d p n rfl rfl t1 hb ?_))
   exact bodyPost_ret (v := .tuple #[consV b d p n, .string (bs tNo)]) (res_cell2 Tryz.results13 rfl K5) rfl (HF.out _ K6)
 | true =>
  have HOKT : Hid (Cst.ok ⟨b, d, p, n⟩) := HOK.out.1 rfl
  clear HOK HOK2
  cases hc : cmdB line with
  | false =>
   as_aux_lemma =>
    have HF := hid (fun w' => exOut_mk (w := w) (w' := w') true ⟨fun _ => HOKT.out, fun _ => rfl⟩ (stepV_bad hc))
    have HC := hid hc
    clear hc
    go_wp2_with fail
    refine (isCommand_c line _ (by omega)).mono ?_
    rintro e _ ⟨rfl, rfl⟩
    rw [HC.out]
    have K5 := loadVarC (rangeAt_setCells_same _ (w.heap.size + 1) 0 (csC b d p n) (by rw [csC_len hb]; exact t1)) hb
    have K6 := below_cells (csC b d p n) _ (w.heap.size + 1) 0 HB1.out (by omega)
    go_wp2_with (first | (refine wpList_loadC rfl _ rfl _ rfl b d p n r1 hb ?_) | (refine wpList_storeC rfl _ _ rfl _ b d p n rfl rfl t1 hb ?_))
    exact bodyPost_ret (v := .tuple #[consV b d p n, .string (bs tBad)]) (res_cell2 Tryz.results13 rfl K5) rfl (HF.out _ K6)
  | true =>
   have HC := hid hc
   have hl160 := cmdB_len hc
   clear hc
   go_wp2_with fail
   refine (isCommand_c line _ (by omega)).mono ?_
   rintro e _ ⟨rfl, rfl⟩
   rw [HC.out]
   have r2 := r1
   have t2 := t1
   have HB2 := HB1
   have z2 := z1
   generalize w1 = w2 at *
   clear r1 t1 HB1 z1
   have l2 := csC_log r2 hb
   have hc21 : w2.cell? ⟨w.heap.size, 21, none⟩ = some (.int .i64 n) := l2 2 _ rfl
   by_cases hn : n = 60
   · as_aux_lemma =>
      have HF := hid (fun w' => exOut_mk (w := w) (w' := w') true ⟨fun _ => HOKT.out, fun _ => rfl⟩ (stepV_full HC.out (show (Cst.mk b d p n).n = 60 from hn)))
      have hne : (n == 60) = true := by rw [hn]; rfl
      clear hn
      have K5 := loadVarC (rangeAt_setCells_same _ (w.heap.size + 1) 0 (csC b d p n) (by rw [csC_len hb]; exact t2)) hb
      have K6 := below_cells (csC b d p n) _ (w.heap.size + 1) 0 HB2.out (by omega)
      go_wp2_with (first | (refine wpList_loadC rfl _ rfl _ rfl b d p n r2 hb ?_) | (refine wpList_storeC rfl _ _ rfl _ b d p n rfl rfl t2 hb ?_))
      exact bodyPost_ret (v := .tuple #[consV b d p n, .string (bs tFull)]) (res_cell2 Tryz.results13 rfl K5) rfl (HF.out _ K6)
   · as_aux_lemma =>
      have hne : (n == 60) = false := by simp [hn]
      obtain ⟨hg, es, hes⟩ := HOKT.out
      have hg : goodB b = true := hg
      have hes : ValidL d.data.toList p.data.toList n es := hes
      have hsm := sayM_rp hb hg line.data.toList
      have hXl := (execM_ok hb hg line.data.toList).1.1
      have HREC := hid (recB_of HC.out hsm)
      have HS : Hid (stepV true ⟨b, d, p, n⟩ line = (doneC ⟨b, d, p, n⟩ line, sayO (execM b line.data.toList).2)) := stepV_done HC.out hn
      have HDC : Hid (doneC ⟨b, d, p, n⟩ line = ⟨(execM b line.data.toList).1, d, p ++ bs (lineS n line.data.toList (sayO (execM b line.data.toList).2)), n + 1⟩) := rfl
      have HX := hid (fun W h => execute_c b line W hb hg hl160 h)
      unfold ExeI at HX
      have HSY : Hid (∀ t : ByteArray, (∀ s, (execM b line.data.toList).2 = some s → t = bs s) → (execM b line.data.toList).2.isSome = true → t = bs (sayO (execM b line.data.toList).2)) := fun t h1 h2 => by
       cases ho : (execM b line.data.toList).2 with
       | none => rw [ho] at h2; cases h2
       | some s => exact h1 s ho
      have HSN : Hid ((execM b line.data.toList).2.isSome = false → (execM b line.data.toList).1 = b ∧ sayO (execM b line.data.toList).2 = [63]) := fun h => by
       have h2 := (execM_ok hb hg line.data.toList).2.2
       cases ho : (execM b line.data.toList).2 with
       | none => rw [ho] at h2; exact ⟨h2 rfl, rfl⟩
       | some s => rw [ho] at h; cases h
      obtain ⟨X, hX⟩ : ∃ X, (execM b line.data.toList).1 = X := ⟨_, rfl⟩
      obtain ⟨T, hTT⟩ : ∃ T, sayO (execM b line.data.toList).2 = T := ⟨_, rfl⟩
      obtain ⟨so, hso⟩ : ∃ so, (execM b line.data.toList).2.isSome = so := ⟨_, rfl⟩
      rw [hX] at hXl HDC HX HSN
      rw [hTT] at hsm HREC HS HDC HSY HSN
      rw [hso] at HX HSY HSN
      have HAP : Hid (∀ W, TabC W → Calls Tryz.prog 55 #[logV d p n, recV line (bs T)] W fun e w' => e = .returned (.tuple #[logV d (p ++ bs (lineS n line.data.toList T)) (n + 1), .int .i64 0]) ∧ Below W.heap.size W w') := fun W h =>
       (AppendRecord_c d p n line (bs T) W hd hp hl (by rw [bs_size]; have := hsm.len; omega) h.pow).mono fun e w' ⟨ok2, he, hi, hbb⟩ => by
        have : ok2 = true := hi.2 ⟨es, hes⟩
        subst this
        rw [HREC.out, appV_yes hn, bs_list] at he
        exact ⟨he, hbb⟩
      obtain ⟨P, hP⟩ : ∃ P, p ++ bs (lineS n line.data.toList T) = P := ⟨_, rfl⟩
      rw [hP] at HAP HDC
      have HF := hid (fun w' => exOut_mk (w := w) (w' := w') true ⟨fun _ => HOKT.out, fun _ => rfl⟩ (by rw [HS.out, HDC.out]))
      have hbu := build_cons2 hXl d P (n + 1)
      have hX19 : (ints X).length = 19 := by simp [ints, hXl]
      have r2b := csC_bench r2 hb
      unfold logV recV at HAP
      unfold aggI at HX
      have hbs := build_small hXl
      unfold zCA at hbu hbs
      clear hX hTT hP HS HDC HREC hsm HOKT hes hg HC hn hso
      go_upto_region 7 with fail
      go_wp2_with (refine wpList_loadB rfl _ rfl _ rfl b r2b hb ?_)
      refine (HX.out _ (HT.out.on HB2.out)).mono ?_
      rintro e w3 ⟨t, rfl, hts, hb3⟩
      have HTS := hid (HSY.out t hts)
      have z3 := lt_of_lt_of_le z2 hb3.size
      cases so with
      | true =>
       as_aux_lemma =>
        have hte := HTS.out rfl
        subst hte
        have t3 := there_new w3 zBA 26 (n := 19) (by decide)
        have u3 := there_setCells (World.there_alloc (there_below t2 hb3) zB) w3.heap.size 0 (ints X)
        have r3 := World.rangeAt_setCells_apart (rangeAt_alloc (range_below r2 hb3) zB) w3.heap.size 0 (ints X) (.inl (by have := z3; omega))
        have c3 := rangeAt_setCells_same (w3.alloc zB) w3.heap.size 0 (ints X) (by rw [hX19]; exact t3)
        have HB3 := hid (below_cells (ints X) (w3.alloc zB) w3.heap.size 0 (Below.alc (Below.chain HB2.out hb3) zB) (by omega))
        clear r2 t2 hb3 HX r2b HB2 l2 hc21 hts HTS HSY HSN
        unfold zB zBA at *
        go_upto_region 10 with (refine wpList_storeB rfl _ _ rfl _ X rfl rfl t3 hXl ?_)
        clear t3
        generalize w3.heap.size = g6 at *
        generalize World.setCells _ _ _ _ = w4 at *
        have l4 := csC_log r3 hb
        have hl4a : w4.cell? ⟨w.heap.size, 19, none⟩ = some (.string d) := l4 0 _ rfl
        have hl4b : w4.cell? ⟨w.heap.size, 20, none⟩ = some (.string p) := l4 1 _ rfl
        have hl4c : w4.cell? ⟨w.heap.size, 21, none⟩ = some (.int .i64 n) := l4 2 _ rfl
        go_wp2_with (refine wpList_loadL rfl _ rfl _ _ rfl d p n l4 ?_)
        refine (HAP.out _ (HT.out.on (by have hb := HB3.out; (repeat (first | exact Below.refl _ _ | exact (Below.refl _ _).drew | assumption | exact below_one _ | refine Below.chain ?_ (by assumption) | refine Below.drew ?_ | refine Below.alc ?_ _ | refine below_drewN ?_ | (refine Below.setCell ?_ ?_ _) | exact Nat.le_refl _ | (simp; done) | (simp; omega)))))).mono ?_
        rintro e w5 ⟨rfl, hb5⟩
        have c5 := rangeAt_alloc (range_below c3 hb5) (.cells #[.string d, .string P, .int .i64 (n + 1)] 29)
        have u5 := World.there_alloc (there_below u3 hb5) (.cells #[.string d, .string P, .int .i64 (n + 1)] 29)
        have HB5 := hid (Below.alc (Below.chain HB3.out hb5) (.cells #[.string d, .string P, .int .i64 (n + 1)] 29))
        have K5 := loadVarC (rangeAt_setCells_same _ (w.heap.size + 1) 0 (csC X d P (n + 1)) (by rw [csC_len hXl]; exact u5)) hXl
        have K6 := below_cells (csC X d P (n + 1)) _ (w.heap.size + 1) 0 HB5.out (by omega)
        clear hl4a hl4b hl4c l4 hb5 HAP
        go_wp2_with (first | (refine wpList_loadB rfl _ rfl _ rfl X c5 hXl ?_) | (refine wpList_storeC rfl _ _ rfl _ X d P (n + 1) rfl rfl u5 hXl ?_))
        exact bodyPost_ret (v := .tuple #[consV X d P (n + 1), .string (bs T)]) (res_cell2 Tryz.results13 rfl K5) rfl (HF.out _ K6)
      | false =>
       as_aux_lemma =>
        obtain ⟨hXb, hTq⟩ := HSN.out rfl
        subst hXb hTq
        have t3 := there_new w3 zBA 26 (n := 19) (by decide)
        have u3 := there_setCells (World.there_alloc (there_below t2 hb3) zB) w3.heap.size 0 (ints X)
        have r3 := World.rangeAt_setCells_apart (rangeAt_alloc (range_below r2 hb3) zB) w3.heap.size 0 (ints X) (.inl (by have := z3; omega))
        have c3 := rangeAt_setCells_same (w3.alloc zB) w3.heap.size 0 (ints X) (by rw [hX19]; exact t3)
        have HB3 := hid (below_cells (ints X) (w3.alloc zB) w3.heap.size 0 (Below.alc (Below.chain HB2.out hb3) zB) (by omega))
        have u4 := there_setCells u3 w3.heap.size 0 (ints X)
        have r4 := World.rangeAt_setCells_apart r3 w3.heap.size 0 (ints X) (.inl (by have := z3; omega))
        have r3b := csC_bench r3 hb
        have t4 := there_setCells t3 w3.heap.size 0 (ints X)
        have c4 := rangeAt_setCells_same ((w3.alloc zB).setCells w3.heap.size 0 (ints X)) w3.heap.size 0 (ints X) (by rw [hX19]; exact t4)
        have HB4 := hid (below_cells (ints X) ((w3.alloc zB).setCells w3.heap.size 0 (ints X)) w3.heap.size 0 HB3.out (by omega))
        clear r2 t2 hb3 HX r2b HB2 l2 hc21 hts HTS HSY HSN u3 c3 HB3 r3
        unfold zB zBA at *
        go_upto_region 10 with (first | (refine wpList_storeB rfl _ _ rfl _ X rfl rfl t3 hXl ?_) | (refine wpList_loadB rfl _ rfl _ rfl X r3b hXl ?_) | (refine wpList_storeB rfl _ _ rfl _ X rfl rfl t4 hXl ?_))
        clear t3 t4 r3b
        generalize w3.heap.size = g6 at *
        generalize World.setCells _ _ _ _ = w4 at *
        have l4 := csC_log r4 hb
        have hl4a : w4.cell? ⟨w.heap.size, 19, none⟩ = some (.string d) := l4 0 _ rfl
        have hl4b : w4.cell? ⟨w.heap.size, 20, none⟩ = some (.string p) := l4 1 _ rfl
        have hl4c : w4.cell? ⟨w.heap.size, 21, none⟩ = some (.int .i64 n) := l4 2 _ rfl
        go_wp2_with (refine wpList_loadL rfl _ rfl _ _ rfl d p n l4 ?_)
        refine (HAP.out _ (HT.out.on (by have hb := HB4.out; (repeat (first | exact Below.refl _ _ | exact (Below.refl _ _).drew | assumption | exact below_one _ | refine Below.chain ?_ (by assumption) | refine Below.drew ?_ | refine Below.alc ?_ _ | refine below_drewN ?_ | (refine Below.setCell ?_ ?_ _) | exact Nat.le_refl _ | (simp; done) | (simp; omega)))))).mono ?_
        rintro e w5 ⟨rfl, hb5⟩
        have c5 := rangeAt_alloc (range_below c4 hb5) (.cells #[.string d, .string P, .int .i64 (n + 1)] 29)
        have u5 := World.there_alloc (there_below u4 hb5) (.cells #[.string d, .string P, .int .i64 (n + 1)] 29)
        have HB5 := hid (Below.alc (Below.chain HB4.out hb5) (.cells #[.string d, .string P, .int .i64 (n + 1)] 29))
        have K5 := loadVarC (rangeAt_setCells_same _ (w.heap.size + 1) 0 (csC X d P (n + 1)) (by rw [csC_len hXl]; exact u5)) hXl
        have K6 := below_cells (csC X d P (n + 1)) _ (w.heap.size + 1) 0 HB5.out (by omega)
        clear hl4a hl4b hl4c l4 hb5 HAP
        go_wp2_with (first | (refine wpList_loadB rfl _ rfl _ rfl X c5 hXl ?_) | (refine wpList_storeC rfl _ _ rfl _ X d P (n + 1) rfl rfl u5 hXl ?_))
        exact bodyPost_ret (v := .tuple #[consV X d P (n + 1), .string (bs [63])]) (res_cell2 Tryz.results13 rfl K5) rfl (HF.out _ K6)
theorem grow_cells : ∀ (vs : List Value) (w : World) (g o : Nat), w.grownBy (w.setCells g o vs) (some g)
 | [], w, g, o => ⟨rfl, rfl, rfl, Nat.le_refl _, fun _ _ _ => rfl⟩
 | v :: t, w, g, o => by
  have h1 : w.grownBy (w.setCell ⟨g, o, none⟩ v) (some g) := ⟨rfl, rfl, rfl, by simp [World.setCell], fun k hk hne => Below.heap_setCell _ _ _ _ (fun e => hne (by rw [e]))⟩
  have h2 := grow_cells t (w.setCell ⟨g, o, none⟩ v) g (o + 1)
  exact ⟨h2.os.trans h1.os, h2.tape.trans h1.tape, h2.output.trans h1.output, Nat.le_trans h1.size h2.size, fun i hi hr => (h2.block i (lt_of_lt_of_le hi h1.size) hr).trans (h1.block i hi hr)⟩
def newC (b : List Int) : Cst := ⟨b, ⟨#[]⟩, ⟨#[]⟩, 0⟩
theorem newC_ok {b : List Int} (hg : goodB b = true) : (newC b).ok := ⟨hg, [], ⟨(show (0 : Nat) ≤ 30000 by omega), (fun e he => by cases he), (show (0 : Nat) ≤ 60 by omega), rfl, .inl rfl, rfl⟩⟩
def RepOut (b : List Int) (d p : ByteArray) (n : Int) (w : World) (e : Ending) (w' : World) : Prop :=
 ∃ (ok : Bool) (k : Nat), e = .returned (.tuple #[.int .i64 (k : Int), .bool ok]) ∧ (ok = true ↔ (goodB b = true ∧ ∃ es, ValidL d.data.toList p.data.toList n es)) ∧ (ok = false → k = 0) ∧
  (∀ es, ok = true → ValidL d.data.toList p.data.toList n es → k = repI (newC b) es) ∧ Below w.heap.size w w'
theorem repOut_no {b : List Int} {d p : ByteArray} {n : Int} {w w' : World} (h : ¬ (goodB b = true ∧ ∃ es, ValidL d.data.toList p.data.toList n es)) (hb : Below w.heap.size w w') : RepOut b d p n w (.returned (.tuple #[.int .i64 0, .bool false])) w' :=
 ⟨false, 0, rfl, ⟨(fun h2 => by cases h2), fun h2 => absurd h2 h⟩, fun _ => rfl, (fun es h2 => by cases h2), hb⟩
theorem repOut_yes {b : List Int} {d p : ByteArray} {n : Int} {w w' : World} {es : List (Bs × Bs)} {k : Nat} (hg : goodB b = true) (hv : ValidL d.data.toList p.data.toList n es) (hk : k = repI (newC b) es) (hb : Below w.heap.size w w') : RepOut b d p n w (.returned (.tuple #[.int .i64 (k : Int), .bool true])) w' :=
 ⟨true, k, rfl, ⟨fun _ => ⟨hg, es, hv⟩, fun _ => rfl⟩, (fun h2 => by cases h2), fun es' _ hv' => by rw [hv'.uniq hv]; exact hk, hb⟩
theorem rep_det (b : List Int) (d p : ByteArray) (n : Int) : ∃ (ok : Bool) (k : Nat), (ok = true ↔ (goodB b = true ∧ ∃ es, ValidL d.data.toList p.data.toList n es)) ∧ (∀ es, ok = true → ValidL d.data.toList p.data.toList n es → k = repI (newC b) es) ∧ ∀ w e w', RepOut b d p n w e w' → e = .returned (.tuple #[.int .i64 (k : Int), .bool ok]) ∧ Below w.heap.size w w' := by
 by_cases h : goodB b = true ∧ ∃ es, ValidL d.data.toList p.data.toList n es
 · obtain ⟨hg, es, hv⟩ := id h
   refine ⟨true, repI (newC b) es, ⟨fun _ => h, fun _ => rfl⟩, fun es' _ hv' => by rw [hv'.uniq hv], fun w e w' ho => ?_⟩
   obtain ⟨ok, k, rfl, h1, h2, h3, h4⟩ := ho
   have := h1.2 h
   subst this
   rw [h3 es rfl hv]; exact ⟨rfl, h4⟩
 · refine ⟨false, 0, ⟨(fun h2 => by cases h2), fun h2 => absurd h2 h⟩, (fun es h2 => by cases h2), fun w e w' ho => ?_⟩
   obtain ⟨ok, k, rfl, h1, h2, h3, h4⟩ := ho
   cases ok with
   | true => exact absurd (h1.1 rfl) h
   | false => rw [h2 rfl]; exact ⟨rfl, h4⟩
set_option maxHeartbeats 20000000 in
theorem ReplayLog_c (b : List Int) (d p : ByteArray) (n : Int) (w : World) (hb : b.length = 19) (hd : d.size ≤ 1048576) (hp : p.size ≤ 1048576) (ht : TabC w) :
 Calls Tryz.prog 27 #[aggI b, logV d p n] w (RepOut b d p n w) := by
 have HT := hid ht
 clear ht
 have r0 := rangeAt_alloc (range_new w (ints b) 26) (.cells #[.string d, .string p, .int .i64 n] 29)
 have l0 := range_new (w.alloc (.cells (ints b).toArray 26)) (lgC d p n) 29
 rw [World.size_alloc] at l0
 have hb0 : Below w.heap.size w ((w.alloc (.cells (ints b).toArray 26)).alloc (.cells #[.string d, .string p, .int .i64 n] 29)) := qBl
 have hsz : w.heap.size + 1 < ((w.alloc (.cells (ints b).toArray 26)).alloc (.cells #[.string d, .string p, .int .i64 n] 29)).heap.size := by simp
 have HN := hid (fun W => NewConsole_c b W hb)
 have hBl : (ncB b).length = 19 := by unfold ncB; split; exact hb; simp [zeroI]
 obtain ⟨B, hB⟩ : ∃ B, ncB b = B := ⟨_, rfl⟩
 have HBN := hid (show goodB b = true → B = b from fun h => by rw [← hB]; unfold ncB; rw [if_pos h])
 unfold ncV at HN
 rw [hB] at HN hBl
 have HRC := hid (fun W h => records_c d p n W hd hp h)
 unfold logV at HRC ⊢
 unfold aggI at *
 clear hB
 go_enter Tryz.func27, Tryz.ntmps27
 go_wp2_with (refine wpList_loadB rfl _ rfl _ rfl b r0 hb ?_)
 refine (HN.out _).mono ?_
 rintro e w1 ⟨rfl, hb1⟩
 have l1 := range_below l0 hb1
 have z1 := lt_of_lt_of_le hsz hb1.size
 have t2 := there_new w1 zCA 31 (n := 22) (by decide)
 have l2 := World.rangeAt_setCells_apart (rangeAt_alloc l1 (.cells zCA 31)) w1.heap.size 0 (csC B ByteArray.empty ByteArray.empty 0) (.inl (by omega))
 have c2 := rangeAt_setCells_same (w1.alloc (.cells zCA 31)) w1.heap.size 0 (csC B ByteArray.empty ByteArray.empty 0) (by rw [csC_len hBl]; exact t2)
 have u2 := there_setCells t2 w1.heap.size 0 (csC B ByteArray.empty ByteArray.empty 0)
 have HB2 := hid (below_cells (csC B ByteArray.empty ByteArray.empty 0) (w1.alloc (.cells zCA 31)) w1.heap.size 0 (Below.alc (Below.chain hb0 hb1) (.cells zCA 31)) (by omega))
 have z2 : w1.heap.size < ((w1.alloc (.cells zCA 31)).setCells w1.heap.size 0 (csC B ByteArray.empty ByteArray.empty 0)).heap.size := lt_of_lt_of_le (by simp) (grow_cells (csC B ByteArray.empty ByteArray.empty 0) (w1.alloc (.cells zCA 31)) w1.heap.size 0).size
 clear r0 l0 hb0 hb1 hsz l1 HN
 unfold zCA at *
 go_upto_region 2 with (refine wpList_storeC rfl _ _ rfl _ B ByteArray.empty ByteArray.empty 0 rfl rfl t2 hBl ?_)
 clear t2
 generalize w1.heap.size = g6 at *
 generalize World.setCells _ _ _ _ = w2 at *
 go_wp2_with (refine wpList_loadL rfl _ rfl _ _ rfl d p n l2 ?_)
 refine (HRC.out _ (HT.out.on HB2.out).pow).mono ?_
 rintro e w3 ⟨v, es, ok, rfl, ho, hok1, hok2, hb3⟩
 obtain ⟨va, vc, rfl, hvm, HP⟩ := (Sl.of_own ho).parts2
 have hvb : ∀ vb vo, va = some ⟨vb, vo, none⟩ → g6 < vb := fun vb vo h => by
  subst h
  exact lt_of_lt_of_le z2 (ho.lt vb rfl).1
 have HRW : Hid (∀ k e, es[k]? = some e → ∃ vb vo, va = some ⟨vb, vo, none⟩ ∧ g6 < vb ∧ w3.cell? ⟨vb, vo + k * 2, none⟩ = some (.string (bs e.1)) ∧ w3.cell? ⟨vb, vo + k * 2 + 1, none⟩ = some (.string (bs e.2))) := fun k e he => by
  obtain ⟨vb, vo, h1, h2, h3⟩ := HP.out k (List.getElem?_eq_some_iff.1 he).1
  rw [(flatR_at he).1] at h2
  rw [(flatR_at he).2] at h3
  exact ⟨vb, vo, h1, hvb vb vo h1, h2, h3⟩
 have c3 := range_below c2 hb3
 have u3 := there_below u2 hb3
 have HB3 := hid (Below.chain HB2.out hb3)
 clear c2 u2 l2 HB2 hb3 ho HP hvb HRC
 rcases hg : goodB b with _ | _
 · as_aux_lemma =>
    have HF := hid (fun w' => repOut_no (b := b) (d := d) (p := p) (n := n) (w := w) (w' := w') (fun h => by rw [hg] at h; exact absurd h.1 (by simp)))
    clear hg
    go_wp2
    exact bodyPost_ret (v := .tuple #[.int .i64 0, .bool false]) (by simp [results, Tryz.results27, go_sem]) rfl (HF.out _ HB3.out)
 cases ok with
 | false =>
  as_aux_lemma =>
   have HF := hid (fun w' => repOut_no (b := b) (d := d) (p := p) (n := n) (w := w) (w' := w') (fun h => by obtain ⟨es', hv'⟩ := h.2; exact hok2.out rfl es' hv'))
   clear hg hok1 hok2
   go_wp2
   exact bodyPost_ret (v := .tuple #[.int .i64 0, .bool false]) (by simp [results, Tryz.results27, go_sem]) rfl (HF.out _ HB3.out)
 | true =>
  have HV := hid (hok1.out rfl)
  have HG := hid hg
  have HBe := hid (HBN.out hg)
  obtain ⟨m, hm⟩ : ∃ m, es.length = m := ⟨_, rfl⟩
  have HM := hid hm
  rw [hm] at hvm ⊢
  clear hg hm HBN
  go_wp2
  go_loopw [32] (fun i wr => ∃ (k : Nat) (S : Cst), k ≤ m ∧ i = .int .i64 (k : Int) ∧ Hid (RepAt (newC b) es k S) ∧ Hid (S.b.length = 19) ∧ Hid S.ok ∧ wr.rangeAt g6 0 (csC S.b S.d S.p S.n) ∧ wr.there g6 0 22 ∧ Hid (∀ k e, es[k]? = some e → ∃ vb vo, va = some ⟨vb, vo, none⟩ ∧ g6 < vb ∧ wr.cell? ⟨vb, vo + k * 2, none⟩ = some (.string (bs e.1)) ∧ wr.cell? ⟨vb, vo + k * 2 + 1, none⟩ = some (.string (bs e.2))) ∧ Below w.heap.size w wr) (fun i _ => m + 1 - (intOf i).toNat)
  case atStart =>
   refine ⟨0, newC b, by omega, rfl, RepAt.zero _ _, ?_, newC_ok HG.out, ?_, u3, HRW, HB3.out⟩
   · show b.length = 19; exact hb
   · have h := HBe.out
     rw [h] at c3; exact c3
  case round =>
   obtain ⟨k, S, hk, rfl, HRA, HSb, HSo, rk, tk, HRK, hbk⟩ := hrel
   have HB := hid hbk
   clear hbk c3 u3 HB3 HRW
   by_cases hlt : k < m
   · have hd2 : decide ((k : Int) < (m : Int)) = true := by simp; omega
     have hki : (k : Int) < (m : Int) := by omega
     obtain ⟨e, hee⟩ := elem_at (show k < es.length by rw [HM.out]; exact hlt)
     obtain ⟨vb, vo, rfl, hvb, h0, h1⟩ := HRK.out k e hee.out
     have hSb := HSb.out
     have hSfit := ok_fit HSb.out HSo.out
     have hel : e.1.length ≤ 160 := (HV.out.ok e (List.mem_of_getElem? hee.out)).l2
     have hNok := stepV_ok (bs e.1) HSb.out HSo.out
     have HSTOP := hid (fun h => HRA.out.stop hee.out h)
     have HNEXT := hid (fun h => HRA.out.next hee.out h)
     have HEX := hid (fun (W : World) (h : TabC W) => (ExecuteCommand_c S (bs e.1) W hSfit (by rw [bs_size]; omega) h).mono fun e w' h => ex_yes HSo.out h)
     obtain ⟨N, hN⟩ : ∃ N, (stepV true S (bs e.1)).1 = N := ⟨_, rfl⟩
     obtain ⟨T, hT⟩ : ∃ T, (stepV true S (bs e.1)).2 = T := ⟨_, rfl⟩
     simp only [hN, hT] at hNok HEX HSTOP HNEXT
     have hNb : N.b.length = 19 := hNok.1
     have HNO := hid hNok.2
     unfold Cst.val consV at HEX
     have HTE : Hid (T = e.2 ↔ bs T = bs e.2) := ⟨fun h => by rw [h], fun h => bs_inj h⟩
     clear hN hT hee hSfit hNok HRA HSo HSb hel
     obtain ⟨c1, hc1⟩ : ∃ c1, bs e.1 = c1 := ⟨_, rfl⟩
     obtain ⟨c2, hc2⟩ : ∃ c2, bs e.2 = c2 := ⟨_, rfl⟩
     obtain ⟨TT, hTT⟩ : ∃ TT, bs T = TT := ⟨_, rfl⟩
     rw [hc1] at h0 HEX
     rw [hc2] at h1 HTE
     rw [hTT] at HEX HTE
     clear hc1 hc2 hTT
     as_aux_lemma =>
      have rk1 := rangeAt_alloc rk (.cells #[.string c1, .string c2] 76)
      have tk1 := World.there_alloc tk (.cells #[.string c1, .string c2] 76)
      have q0 : (wr.alloc (.cells #[.string c1, .string c2] 76)).cell? ⟨wr.heap.size, 0, none⟩ = some (.string c1) := (Bk.new wr 76 #[.string c1, .string c2]).cell 0
      have q1 : (wr.alloc (.cells #[.string c1, .string c2] 76)).cell? ⟨wr.heap.size, 1, none⟩ = some (.string c2) := (Bk.new wr 76 #[.string c1, .string c2]).cell 1
      have hBa := below_one (w := wr) (.cells #[.string c1, .string c2] 76)
      have HBa := hid (Below.chain HB.out hBa)
      have zg : g6 < wr.heap.size := World.block_lt_of_cell? _ _ (csC_bench rk hSb 0 _ (by simp [ints, show 0 < S.b.length by omega]; rfl))
      clear rk tk
      go_upto_region 8 with fail
      generalize World.alloc _ _ = wa at *
      go_wp2_with (refine wpList_loadC rfl _ rfl _ rfl S.b S.d S.p S.n rk1 hSb ?_)
      refine (HEX.out _ (HT.out.on HBa.out)).mono ?_
      rintro e2 w4 ⟨rfl, hb4⟩
      have t4 := there_new w4 zCA 31 (n := 22) (by decide)
      have z4 := hb4.size
      have zga : wr.heap.size < wa.heap.size := World.block_lt_of_cell? _ _ q0
      have tk4 := there_setCells (World.there_alloc (there_below tk1 hb4) (.cells zCA 31)) w4.heap.size 0 (csC N.b N.d N.p N.n)
      have c4 := rangeAt_setCells_same (w4.alloc (.cells zCA 31)) w4.heap.size 0 (csC N.b N.d N.p N.n) (by rw [csC_len hNb]; exact t4)
      have q14 := cell_far2 (g2 := w4.heap.size) (o2 := 0) (vs := csC N.b N.d N.p N.n) (cell_later (below_one (.cells zCA 31)) (cell_later hb4 q1)) (by omega)
      have hBx : Below wa.heap.size wa ((w4.alloc (.cells zCA 31)).setCells w4.heap.size 0 (csC N.b N.d N.p N.n)) := below_cells (csC N.b N.d N.p N.n) (w4.alloc (.cells zCA 31)) w4.heap.size 0 (Below.alc hb4 (.cells zCA 31)) (by omega)
      have HBX := hid hBx
      unfold zCA at *
      clear rk1 hb4 HEX h0 h1 hBx
      go_upto_region 9 with (refine wpList_storeC rfl _ _ rfl _ N.b N.d N.p N.n rfl rfl t4 hNb ?_)
      clear t4 q0 q1
      generalize w4.heap.size = g12 at *
      generalize World.setCells (World.alloc w4 _) _ _ _ = w4b at *
      have hBy := hBa
      have HBW := hid (hBy.trans (HBX.out.mono hBy.size))
      by_cases hTe : T = e.2
      · as_aux_lemma =>
         have hse := str_eq (HTE.out.1 hTe)
         have hsn : (TT.toList != c2.toList) = false := by rw [bne, hse]; rfl
         have HN2 := hid (HNEXT.out hTe)
         have HBk := hid (Below.chain HB.out HBW.out)
         have HRK4 : Hid (∀ k e, es[k]? = some e → ∃ vb2 vo2, (some ⟨vb, vo, none⟩ : Option Addr) = some ⟨vb2, vo2, none⟩ ∧ g6 < vb2 ∧ (w4b.setCells g6 0 (csC N.b N.d N.p N.n)).cell? ⟨vb2, vo2 + k * 2, none⟩ = some (.string (bs e.1)) ∧ (w4b.setCells g6 0 (csC N.b N.d N.p N.n)).cell? ⟨vb2, vo2 + k * 2 + 1, none⟩ = some (.string (bs e.2))) := fun k e he => by
          obtain ⟨vb2, vo2, h1, h2, h3, h4⟩ := HRK.out k e he
          exact ⟨vb2, vo2, h1, h2, cell_far2 (g2 := g6) (o2 := 0) (vs := csC N.b N.d N.p N.n) (cell_later HBW.out h3) (by omega), cell_far2 (g2 := g6) (o2 := 0) (vs := csC N.b N.d N.p N.n) (cell_later HBW.out h4) (by omega)⟩
         have R5 := hid (rangeAt_setCells_same w4b g6 0 (csC N.b N.d N.p N.n) (by rw [csC_len hNb]; exact tk4))
         have T5 := hid (there_setCells tk4 g6 0 (csC N.b N.d N.p N.n))
         have HB5 := hid (below_cells (csC N.b N.d N.p N.n) w4b g6 0 HBk.out (by omega))
         clear HTE HSTOP HNEXT hTe HB HBW HRK HBk
         go_wp2_with (first | (refine wpList_loadC rfl _ rfl _ rfl N.b N.d N.p N.n c4 hNb ?_) | (refine wpList_storeC rfl _ _ rfl _ N.b N.d N.p N.n rfl rfl tk4 hNb ?_))
         go_roundw
         case rel => exact ⟨k + 1, N, by omega, by go_num, HN2.out, hNb, HNO.out, R5.out, T5.out, HRK4, HB5.out⟩
         case measure => first | (simp [intOf]; done) | (simp [intOf]; omega)
      · as_aux_lemma =>
         have hse := str_ne (fun h => hTe (HTE.out.2 h))
         have hsn : (TT.toList != c2.toList) = true := by rw [bne, hse]; rfl
         have HF := hid (fun w' => repOut_yes (w := w) (w' := w') HG.out HV.out (HSTOP.out hTe).symm)
         have HBk := hid (Below.chain HB.out HBW.out)
         clear HTE HSTOP HNEXT hTe c4 tk4
         go_wp2
         exact bodyPost_ret (v := .tuple #[.int .i64 (k : Int), .bool true]) (by simp [results, Tryz.results27, go_sem]) rfl (HF.out _ HBk.out)
   · obtain rfl : k = m := by omega
     have hd2 : decide ((k : Int) < (k : Int)) = false := by simp
     as_aux_lemma =>
     have hend : k = repI (newC b) es := by
      have h := HRA.out
      rw [← HM.out] at h
      rw [← HM.out]; exact h.done.symm
     have HF := hid (fun w' => repOut_yes (w := w) (w' := w') HG.out HV.out hend)
     clear hend
     go_wp2
     exact bodyPost_ret (v := .tuple #[.int .i64 (k : Int), .bool true]) (by simp [results, Tryz.results27, go_sem]) rfl (HF.out _ HB.out)
end Go.Proofs.YtohgjfdbnkjefaaGreatDoor
