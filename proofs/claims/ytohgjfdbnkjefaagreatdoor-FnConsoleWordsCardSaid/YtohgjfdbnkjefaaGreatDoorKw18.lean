/- Texts of this claim, gathered: Dwc, Cwz, Dwi, Draw, DrawJ, Tk2, Bnp, NewB. -/
import Derived.Test.YtohgjfdbnkjefaaGreatDoorKw17
import Derived.Deep.DeepCutAuto
import Derived.Deep.CutBlock
import Derived.Laws.IdiomCopy
import Derived.Lib.SlBuf
namespace Go.Proofs.YtohgjfdbnkjefaaGreatDoor
open Go.RowKit
set_option linter.unusedVariables false
set_option linter.unusedSimpArgs false
set_option maxRecDepth 100000
theorem cmdB_len {line : ByteArray} (h : cmdB line = true) : line.size ≤ 160 := by
 unfold cmdB at h
 simp only [Bool.and_eq_true] at h
 have := inB_true h.1
 omega
theorem build_cons2_x (x0 x1 x2 x3 x4 x5 x6 x7 x8 x9 x10 x11 x12 x13 x14 x15 x16 x17 x18 : Int) (d p : ByteArray) (n : Int) :
 (((List.foldl (fun (cs : Array Value) (x : Value × Nat) => cs.setIfInBounds x.snd x.fst) zCA (ints [x0, x1, x2, x3, x4, x5, x6, x7, x8, x9, x10, x11, x12, x13, x14, x15, x16, x17, x18]).zipIdx).setIfInBounds 19 (.string d)).setIfInBounds 20 (.string p)).setIfInBounds 21 (.int .i64 n) = (csC [x0, x1, x2, x3, x4, x5, x6, x7, x8, x9, x10, x11, x12, x13, x14, x15, x16, x17, x18] d p n).toArray := by kernel_rfl
theorem build_cons2 {b : List Int} (hb : b.length = 19) (d p : ByteArray) (n : Int) :
 (((List.foldl (fun (cs : Array Value) (x : Value × Nat) => cs.setIfInBounds x.snd x.fst) zCA (ints b).zipIdx).setIfInBounds 19 (.string d)).setIfInBounds 20 (.string p)).setIfInBounds 21 (.int .i64 n) = (csC b d p n).toArray := by
 match b, hb with
 | [x0, x1, x2, x3, x4, x5, x6, x7, x8, x9, x10, x11, x12, x13, x14, x15, x16, x17, x18], _ => exact build_cons2_x x0 x1 x2 x3 x4 x5 x6 x7 x8 x9 x10 x11 x12 x13 x14 x15 x16 x17 x18 d p n
theorem build_small {b : List Int} (hb : b.length = 19) : ((List.foldl (fun (cs : Array Value) (x : Value × Nat) => cs.setIfInBounds x.snd x.fst) zCA (ints b).zipIdx).size < 22) = False := by
 rw [build_cons hb, List.size_toArray, csC_len hb]; simp
theorem exOut_mk {c : Cst} {line : ByteArray} {w w' : World} {X : Cst} {T : Bs} (ok : Bool) (h1 : ok = true ↔ c.ok) (h2 : stepV ok c line = (X, T)) (h3 : Below w.heap.size w w') : ExOut c line w (.returned (.tuple #[X.val, .string (bs T)])) w' :=
 ⟨ok, by rw [h2], h1, h3⟩
set_option maxHeartbeats 20000000 in
theorem ExecuteCommand_c (c : Cst) (line : ByteArray) (w : World) (hf : c.fit) (hl : line.size ≤ 1048576) (ht : TabC w) :
 Calls Tryz.prog 13 #[c.val, .string line] w (ExOut c line w) := by
 obtain ⟨b, d, p, n⟩ := c
 obtain ⟨hb, hd, hp⟩ := hf
 have hb : b.length = 19 := hb
 have hd : d.size ≤ 1048576 := hd
 have hp : p.size ≤ 1048576 := hp
 have HT := Lib.hid ht
 clear ht
 have hv : Cst.val ⟨b, d, p, n⟩ = .agg (csC b d p n).toArray := rfl
 rw [hv]
 have r0 := World.rangeAt_alloc (range_new w (csC b d p n) 31) (.cells zCA 31)
 have t0 := there_new (w.alloc (.cells (csC b d p n).toArray 31)) zCA 31 (n := 22) (by decide)
 have hb0 : Below w.heap.size w ((w.alloc (.cells (csC b d p n).toArray 31)).alloc (.cells zCA 31)) := by (repeat (first | exact Below.refl _ _ | exact (Below.refl _ _).drew | assumption | exact below_one _ | refine Below.chain ?_ (by assumption) | refine Below.drew ?_ | refine Below.alc ?_ _ | refine below_drewN ?_ | (refine Below.setCell ?_ ?_ _) | exact Nat.le_refl _ | (simp; done) | (simp; omega)))
 simp only [World.size_alloc] at t0
 have hsz : w.heap.size + 1 < ((w.alloc (.cells (csC b d p n).toArray 31)).alloc (.cells zCA 31)).heap.size := by simp
 have HV := Lib.hid (fun W h => IsValidConsole_c b d p n W hb hd hp h)
 unfold ConsOut consV at HV
 have HK : Hid (∀ ok : Bool, (ok = true ↔ (goodB b = true ∧ ∃ es, ValidL d.data.toList p.data.toList n es)) → (ok = true ↔ Cst.ok ⟨b, d, p, n⟩)) := fun ok h => h
 unfold zCA at *
 clear hv
 go_enter Tryz.func13, Tryz.ntmps13
 go_wp2_with (refine wpList_loadC rfl _ rfl _ rfl b d p n r0 hb ?_)
 refine (HV.out _ (HT.out.on hb0).pow).mono ?_
 rintro e w1 ⟨ok, rfl, hok, hb1⟩
 have HOK := Lib.hid (HK.out ok hok)
 have HOK2 := Lib.hid hok
 have r1 := range_below r0 hb1
 have t1 := there_below t0 hb1
 have HB1 := Lib.hid (Below.chain hb0 hb1)
 have z1 := Nat.lt_of_lt_of_le hsz hb1.size
 clear r0 t0 hb0 hb1 hsz hok HV HK
 cases ok with
 | false =>
  as_aux_lemma =>
   have HF := Lib.hid (fun w' => exOut_mk (w := w) (w' := w') (line := line) false HOK.out stepV_no)
   have K5 := loadVarC (World.rangeAt_setCells_same _ (w.heap.size + 1) 0 (csC b d p n) (by rw [csC_len hb]; exact t1)) hb
   have K6 := below_cells (csC b d p n) _ (w.heap.size + 1) 0 HB1.out (by omega)
   go_wp2_with (first | (refine wpList_loadC rfl _ rfl _ rfl b d p n r1 hb ?_) | (refine wpList_storeC rfl _ _ rfl _ b d p n rfl rfl t1 hb ?_))
   exact bodyPost_ret (v := .tuple #[consV b d p n, .string (bs tNo)]) (res_cell2 Tryz.results13 rfl K5) rfl (HF.out _ K6)
 | true =>
  have HOKT : Hid (Cst.ok ⟨b, d, p, n⟩) := HOK.out.1 rfl
  clear HOK HOK2
  cases hc : cmdB line with
  | false =>
   as_aux_lemma =>
    have HF := Lib.hid (fun w' => exOut_mk (w := w) (w' := w') true ⟨fun _ => HOKT.out, fun _ => rfl⟩ (stepV_bad hc))
    have HC := Lib.hid hc
    clear hc
    go_wp2_with fail
    refine (isCommand_c line _ (by omega)).mono ?_
    rintro e _ ⟨rfl, rfl⟩
    rw [HC.out]
    have K5 := loadVarC (World.rangeAt_setCells_same _ (w.heap.size + 1) 0 (csC b d p n) (by rw [csC_len hb]; exact t1)) hb
    have K6 := below_cells (csC b d p n) _ (w.heap.size + 1) 0 HB1.out (by omega)
    go_wp2_with (first | (refine wpList_loadC rfl _ rfl _ rfl b d p n r1 hb ?_) | (refine wpList_storeC rfl _ _ rfl _ b d p n rfl rfl t1 hb ?_))
    exact bodyPost_ret (v := .tuple #[consV b d p n, .string (bs tBad)]) (res_cell2 Tryz.results13 rfl K5) rfl (HF.out _ K6)
  | true =>
   have HC := Lib.hid hc
   have hl160 := cmdB_len hc
   clear hc
   go_wp2_with fail
   refine (isCommand_c line _ (by omega)).mono ?_
   rintro e _ ⟨rfl, rfl⟩
   rw [HC.out]
   have r2 := r1
   have t2 := t1
   have HB2 := HB1
   have z2 := z1
   generalize w1 = w2 at *
   clear r1 t1 HB1 z1
   have l2 := csC_log r2 hb
   have hc21 : w2.cell? ⟨w.heap.size, 21, none⟩ = some (.int .i64 n) := l2 2 _ rfl
   by_cases hn : n = 60
   · as_aux_lemma =>
      have HF := Lib.hid (fun w' => exOut_mk (w := w) (w' := w') true ⟨fun _ => HOKT.out, fun _ => rfl⟩ (stepV_full HC.out (show (Cst.mk b d p n).n = 60 from hn)))
      have hne : (n == 60) = true := by rw [hn]; rfl
      clear hn
      have K5 := loadVarC (World.rangeAt_setCells_same _ (w.heap.size + 1) 0 (csC b d p n) (by rw [csC_len hb]; exact t2)) hb
      have K6 := below_cells (csC b d p n) _ (w.heap.size + 1) 0 HB2.out (by omega)
      go_wp2_with (first | (refine wpList_loadC rfl _ rfl _ rfl b d p n r2 hb ?_) | (refine wpList_storeC rfl _ _ rfl _ b d p n rfl rfl t2 hb ?_))
      exact bodyPost_ret (v := .tuple #[consV b d p n, .string (bs tFull)]) (res_cell2 Tryz.results13 rfl K5) rfl (HF.out _ K6)
   · as_aux_lemma =>
      have hne : (n == 60) = false := by simp [hn]
      obtain ⟨hg, es, hes⟩ := HOKT.out
      have hg : goodB b = true := hg
      have hes : ValidL d.data.toList p.data.toList n es := hes
      have hsm := sayM_rp hb hg line.data.toList
      have hXl := (execM_ok hb hg line.data.toList).1.1
      have HREC := Lib.hid (recB_of HC.out hsm)
      have HS : Hid (stepV true ⟨b, d, p, n⟩ line = (doneC ⟨b, d, p, n⟩ line, sayO (execM b line.data.toList).2)) := stepV_done HC.out hn
      have HDC : Hid (doneC ⟨b, d, p, n⟩ line = ⟨(execM b line.data.toList).1, d, p ++ bs (lineS n line.data.toList (sayO (execM b line.data.toList).2)), n + 1⟩) := rfl
      have HX := Lib.hid (fun W h => execute_c b line W hb hg hl160 h)
      unfold ExeI at HX
      have HSY : Hid (∀ t : ByteArray, (∀ s, (execM b line.data.toList).2 = some s → t = bs s) → (execM b line.data.toList).2.isSome = true → t = bs (sayO (execM b line.data.toList).2)) := fun t h1 h2 => by
       cases ho : (execM b line.data.toList).2 with
       | none => rw [ho] at h2; cases h2
       | some s => exact h1 s ho
      have HSN : Hid ((execM b line.data.toList).2.isSome = false → (execM b line.data.toList).1 = b ∧ sayO (execM b line.data.toList).2 = [63]) := fun h => by
       have h2 := (execM_ok hb hg line.data.toList).2.2
       cases ho : (execM b line.data.toList).2 with
       | none => rw [ho] at h2; exact ⟨h2 rfl, rfl⟩
       | some s => rw [ho] at h; cases h
      obtain ⟨X, hX⟩ : ∃ X, (execM b line.data.toList).1 = X := ⟨_, rfl⟩
      obtain ⟨T, hTT⟩ : ∃ T, sayO (execM b line.data.toList).2 = T := ⟨_, rfl⟩
      obtain ⟨so, hso⟩ : ∃ so, (execM b line.data.toList).2.isSome = so := ⟨_, rfl⟩
      rw [hX] at hXl HDC HX HSN
      rw [hTT] at hsm HREC HS HDC HSY HSN
      rw [hso] at HX HSY HSN
      have HAP : Hid (∀ W, TabC W → Calls Tryz.prog 55 #[logV d p n, recV line (bs T)] W fun e w' => e = .returned (.tuple #[logV d (p ++ bs (lineS n line.data.toList T)) (n + 1), .int .i64 0]) ∧ Below W.heap.size W w') := fun W h =>
       (AppendRecord_c d p n line (bs T) W hd hp hl (by rw [bs_size]; have := hsm.len; omega) h.pow).mono fun e w' ⟨ok2, he, hi, hbb⟩ => by
        have : ok2 = true := hi.2 ⟨es, hes⟩
        subst this
        rw [HREC.out, appV_yes hn, bs_list] at he
        exact ⟨he, hbb⟩
      obtain ⟨P, hP⟩ : ∃ P, p ++ bs (lineS n line.data.toList T) = P := ⟨_, rfl⟩
      rw [hP] at HAP HDC
      have HF := Lib.hid (fun w' => exOut_mk (w := w) (w' := w') true ⟨fun _ => HOKT.out, fun _ => rfl⟩ (by rw [HS.out, HDC.out]))
      have hbu := build_cons2 hXl d P (n + 1)
      have hX19 : (ints X).length = 19 := by simp [ints, hXl]
      have r2b := csC_bench r2 hb
      unfold logV recV at HAP
      unfold aggI at HX
      have hbs := build_small hXl
      unfold zCA at hbu hbs
      clear hX hTT hP HS HDC HREC hsm HOKT hes hg HC hn hso
      go_upto_region 7 with fail
      go_wp2_with (refine wpList_loadB rfl _ rfl _ rfl b r2b hb ?_)
      refine (HX.out _ (HT.out.on HB2.out)).mono ?_
      rintro e w3 ⟨t, rfl, hts, hb3⟩
      have HTS := Lib.hid (HSY.out t hts)
      have z3 := Nat.lt_of_lt_of_le z2 hb3.size
      cases so with
      | true =>
       as_aux_lemma =>
        have hte := HTS.out rfl
        subst hte
        have t3 := there_new w3 zBA 26 (n := 19) (by decide)
        have u3 := World.there_setCells (World.there_alloc (there_below t2 hb3) zB) w3.heap.size 0 (ints X)
        have r3 := World.rangeAt_setCells_apart (World.rangeAt_alloc (range_below r2 hb3) zB) w3.heap.size 0 (ints X) (.inl (by have := z3; omega))
        have c3 := World.rangeAt_setCells_same (w3.alloc zB) w3.heap.size 0 (ints X) (by rw [hX19]; exact t3)
        have HB3 := Lib.hid (below_cells (ints X) (w3.alloc zB) w3.heap.size 0 (Below.alc (Below.chain HB2.out hb3) zB) (by omega))
        clear r2 t2 hb3 HX r2b HB2 l2 hc21 hts HTS HSY HSN
        unfold zB zBA at *
        go_upto_region 10 with (refine wpList_storeB rfl _ _ rfl _ X rfl rfl t3 hXl ?_)
        clear t3
        generalize w3.heap.size = g6 at *
        generalize World.setCells _ _ _ _ = w4 at *
        have l4 := csC_log r3 hb
        have hl4a : w4.cell? ⟨w.heap.size, 19, none⟩ = some (.string d) := l4 0 _ rfl
        have hl4b : w4.cell? ⟨w.heap.size, 20, none⟩ = some (.string p) := l4 1 _ rfl
        have hl4c : w4.cell? ⟨w.heap.size, 21, none⟩ = some (.int .i64 n) := l4 2 _ rfl
        go_wp2_with (refine wpList_loadL rfl _ rfl _ _ rfl d p n l4 ?_)
        refine (HAP.out _ (HT.out.on (by have hb := HB3.out; (repeat (first | exact Below.refl _ _ | exact (Below.refl _ _).drew | assumption | exact below_one _ | refine Below.chain ?_ (by assumption) | refine Below.drew ?_ | refine Below.alc ?_ _ | refine below_drewN ?_ | (refine Below.setCell ?_ ?_ _) | exact Nat.le_refl _ | (simp; done) | (simp; omega)))))).mono ?_
        rintro e w5 ⟨rfl, hb5⟩
        have c5 := World.rangeAt_alloc (range_below c3 hb5) (.cells #[.string d, .string P, .int .i64 (n + 1)] 29)
        have u5 := World.there_alloc (there_below u3 hb5) (.cells #[.string d, .string P, .int .i64 (n + 1)] 29)
        have HB5 := Lib.hid (Below.alc (Below.chain HB3.out hb5) (.cells #[.string d, .string P, .int .i64 (n + 1)] 29))
        have K5 := loadVarC (World.rangeAt_setCells_same _ (w.heap.size + 1) 0 (csC X d P (n + 1)) (by rw [csC_len hXl]; exact u5)) hXl
        have K6 := below_cells (csC X d P (n + 1)) _ (w.heap.size + 1) 0 HB5.out (by omega)
        clear hl4a hl4b hl4c l4 hb5 HAP
        go_wp2_with (first | (refine wpList_loadB rfl _ rfl _ rfl X c5 hXl ?_) | (refine wpList_storeC rfl _ _ rfl _ X d P (n + 1) rfl rfl u5 hXl ?_))
        exact bodyPost_ret (v := .tuple #[consV X d P (n + 1), .string (bs T)]) (res_cell2 Tryz.results13 rfl K5) rfl (HF.out _ K6)
      | false =>
       as_aux_lemma =>
        obtain ⟨hXb, hTq⟩ := HSN.out rfl
        subst hXb hTq
        have t3 := there_new w3 zBA 26 (n := 19) (by decide)
        have u3 := World.there_setCells (World.there_alloc (there_below t2 hb3) zB) w3.heap.size 0 (ints X)
        have r3 := World.rangeAt_setCells_apart (World.rangeAt_alloc (range_below r2 hb3) zB) w3.heap.size 0 (ints X) (.inl (by have := z3; omega))
        have c3 := World.rangeAt_setCells_same (w3.alloc zB) w3.heap.size 0 (ints X) (by rw [hX19]; exact t3)
        have HB3 := Lib.hid (below_cells (ints X) (w3.alloc zB) w3.heap.size 0 (Below.alc (Below.chain HB2.out hb3) zB) (by omega))
        have u4 := World.there_setCells u3 w3.heap.size 0 (ints X)
        have r4 := World.rangeAt_setCells_apart r3 w3.heap.size 0 (ints X) (.inl (by have := z3; omega))
        have r3b := csC_bench r3 hb
        have t4 := World.there_setCells t3 w3.heap.size 0 (ints X)
        have c4 := World.rangeAt_setCells_same ((w3.alloc zB).setCells w3.heap.size 0 (ints X)) w3.heap.size 0 (ints X) (by rw [hX19]; exact t4)
        have HB4 := Lib.hid (below_cells (ints X) ((w3.alloc zB).setCells w3.heap.size 0 (ints X)) w3.heap.size 0 HB3.out (by omega))
        clear r2 t2 hb3 HX r2b HB2 l2 hc21 hts HTS HSY HSN u3 c3 HB3 r3
        unfold zB zBA at *
        go_upto_region 10 with (first | (refine wpList_storeB rfl _ _ rfl _ X rfl rfl t3 hXl ?_) | (refine wpList_loadB rfl _ rfl _ rfl X r3b hXl ?_) | (refine wpList_storeB rfl _ _ rfl _ X rfl rfl t4 hXl ?_))
        clear t3 t4 r3b
        generalize w3.heap.size = g6 at *
        generalize World.setCells _ _ _ _ = w4 at *
        have l4 := csC_log r4 hb
        have hl4a : w4.cell? ⟨w.heap.size, 19, none⟩ = some (.string d) := l4 0 _ rfl
        have hl4b : w4.cell? ⟨w.heap.size, 20, none⟩ = some (.string p) := l4 1 _ rfl
        have hl4c : w4.cell? ⟨w.heap.size, 21, none⟩ = some (.int .i64 n) := l4 2 _ rfl
        go_wp2_with (refine wpList_loadL rfl _ rfl _ _ rfl d p n l4 ?_)
        refine (HAP.out _ (HT.out.on (by have hb := HB4.out; (repeat (first | exact Below.refl _ _ | exact (Below.refl _ _).drew | assumption | exact below_one _ | refine Below.chain ?_ (by assumption) | refine Below.drew ?_ | refine Below.alc ?_ _ | refine below_drewN ?_ | (refine Below.setCell ?_ ?_ _) | exact Nat.le_refl _ | (simp; done) | (simp; omega)))))).mono ?_
        rintro e w5 ⟨rfl, hb5⟩
        have c5 := World.rangeAt_alloc (range_below c4 hb5) (.cells #[.string d, .string P, .int .i64 (n + 1)] 29)
        have u5 := World.there_alloc (there_below u4 hb5) (.cells #[.string d, .string P, .int .i64 (n + 1)] 29)
        have HB5 := Lib.hid (Below.alc (Below.chain HB4.out hb5) (.cells #[.string d, .string P, .int .i64 (n + 1)] 29))
        have K5 := loadVarC (World.rangeAt_setCells_same _ (w.heap.size + 1) 0 (csC X d P (n + 1)) (by rw [csC_len hXl]; exact u5)) hXl
        have K6 := below_cells (csC X d P (n + 1)) _ (w.heap.size + 1) 0 HB5.out (by omega)
        clear hl4a hl4b hl4c l4 hb5 HAP
        go_wp2_with (first | (refine wpList_loadB rfl _ rfl _ rfl X c5 hXl ?_) | (refine wpList_storeC rfl _ _ rfl _ X d P (n + 1) rfl rfl u5 hXl ?_))
        exact bodyPost_ret (v := .tuple #[consV X d P (n + 1), .string (bs [63])]) (res_cell2 Tryz.results13 rfl K5) rfl (HF.out _ K6)
theorem exec_one {b : List Int} {w : Bs} (h : splitS 32 w = [w]) (hk : kindM w = none) : execM b w = (b, tellM b w) := by
 have hn : numsM [] = some [] := rfl
 simp [execM, h, hn, hk, askM]
theorem exec_two {b : List Int} {s w x : Bs} {n : Int} (h : splitS 32 s = [w, x]) (hx : rdO x = some n) (hk : kindM w = none) (hw : w ≠ wBulbs) : execM b s = (b, placeM b w n) := by
 have hn : numsM [x] = some [n] := by unfold numsM; simp [hx]
 simp [execM, h, hn, hk, askM, hw]
def newC (b : List Int) : Cst := ⟨b, ⟨#[]⟩, ⟨#[]⟩, 0⟩
theorem newC_ok {b : List Int} (hg : goodB b = true) : (newC b).ok := ⟨hg, [], ⟨(show (0 : Nat) ≤ 30000 by omega), (fun e he => by cases he), (show (0 : Nat) ≤ 60 by omega), rfl, .inl rfl, rfl⟩⟩
theorem newC_fit {b : List Int} (hb : b.length = 19) : (newC b).fit := ⟨hb, by show 0 ≤ _; omega, by show 0 ≤ _; omega⟩
theorem newC_say {b : List Int} {line : ByteArray} (h : cmdB line = true) : (stepV true (newC b) line).2 = sayO (execM b line.data.toList).2 := by
 rw [stepV_done h (by show (0 : Int) ≠ 60; decide)]; rfl
theorem rd_digit (k : Nat) (h : k ≤ 9) : rdO [UInt8.ofNat (48 + k)] = some (k : Int) := by
 rw [rdO_iff]
 refine ⟨by omega, by omega, ?_⟩
 rw [itoa_nat, Lib.decDigits, dif_pos (by omega)]
theorem words_row (b : List Int) : sayO (execM b [114, 111, 119]).2 = rowTx (showR b) := by
 show sayO (execM b wRow).2 = _
 rw [exec_one (w := wRow) (by decide) (by decide)]; rfl
theorem words_sent (b : List Int) : sayO (execM b [115, 101, 110, 116]).2 = rowTx (b.take 6) := by
 show sayO (execM b wSent).2 = _
 rw [exec_one (w := wSent) (by decide) (by decide)]; rfl
theorem words_number (b : List Int) : sayO (execM b [110, 117, 109, 98, 101, 114]).2 = sayO ((numO (showR b)).map Lib.decDigits) := by
 show sayO (execM b wNumber).2 = _
 rw [exec_one (w := wNumber) (by decide) (by decide)]; rfl
theorem words_bars (b : List Int) : sayO (execM b [98, 97, 114, 115]).2 = Lib.decDigits (litL (showR b)) := by
 show sayO (execM b wBars).2 = _
 rw [exec_one (w := wBars) (by decide) (by decide)]; rfl
theorem words_told (b : List Int) : sayO (execM b [116, 111, 108, 100, 32, 48]).2 = listT (tdL (bF b 0).1 (bF b 0).2) := by
 rw [exec_two (w := wTold) (x := [48]) (n := 0) (by decide) (rd_digit 0 (by decide)) (by decide) (by decide)]; rfl
theorem words_images (b : List Int) : sayO (execM b [105, 109, 97, 103, 101, 115, 32, 53]).2 = Lib.decDigits (grpL (bF b 5).1 (bF b 5).2).length := by
 rw [exec_two (w := wImages) (x := [53]) (n := 5) (by decide) (rd_digit 5 (by decide)) (by decide) (by decide)]; rfl
theorem RowText_c (v : Value) (xs : List Int) (w : World) (hv : Ints w v xs) (hl : xs.length ≤ 1000) (hx : ∀ x ∈ xs, 0 ≤ x ∧ x ≤ 127) (hr : rowB xs = true) :
 Calls Tryz.prog 16 #[v] w fun e w' => e = .returned (.tuple #[.string (bs (rowTx xs)), .bool true]) ∧ Below w.heap.size w w' := by
 have HR := Lib.hid (IsRow_c v xs w hv)
 rw [hr] at HR
 have HV := Lib.hid hv
 have HX := Lib.hid hx
 obtain ⟨a, c, rfl, _, _, _⟩ := hv.parts
 clear hv hx
 go_enter Tryz.func16, Tryz.ntmps16
 go_wp2_with fail
 refine HR.out.mono ?_
 rintro e w1 ⟨rfl, hb1⟩
 go_wp2_with fail
 refine (rowText_c _ xs _ (HV.out.below hb1) hl HX.out).mono ?_
 rintro e w2 ⟨rfl, hb2⟩
 have HB := Lib.hid (Below.chain hb1 hb2)
 clear hb1 hb2
 go_wp2
 exact bodyPost_ret (v := .tuple #[.string (bs (rowTx xs)), .bool true]) (by simp [results, Tryz.results16, go_sem]) rfl ⟨rfl, HB.out⟩
theorem FormatInt_c (n : Nat) (hn : n ≤ 999999) (w : World) (ht : Tab w) :
 Calls Tryz.prog 64 #[.int .i64 (n : Int)] w fun e w' => e = .returned (.tuple #[.string (bs (Lib.decDigits n)), .bool true]) ∧ Below w.heap.size w w' := by
 have hin : inB (n : Int) (-999999) 999999 = true := inB_mk (by omega) (by omega)
 have HI := Lib.hid (fun W h => ItoaN_c n hn W h)
 have HT := Lib.hid ht
 clear ht
 go_enter Tryz.func64, Tryz.ntmps64
 go_wp2_with fail
 refine (within_c _ _ _ _).mono ?_
 rintro e _ ⟨rfl, rfl⟩
 rw [hin]
 go_wp2_with fail
 refine (HI.out _ HT.out).mono ?_
 rintro e w2 ⟨rfl, hb2⟩
 go_wp2
 exact bodyPost_ret (v := .tuple #[.string (bs (Lib.decDigits n)), .bool true]) (by simp [results, Tryz.results64, go_sem]) rfl ⟨rfl, hb2⟩
def wordT (n : Nat) (ok : Bool) : Bs := if ok then Lib.decDigits n else [63]
theorem vWord_c (n : Nat) (ok : Bool) (hn : n ≤ 999999) (w : World) (ht : Tab w) :
 Calls Tryz.prog 21 #[.int .i64 (n : Int), .bool ok] w fun e w' => e = .returned (.string (bs (wordT n ok))) ∧ Below w.heap.size w w' := by
 cases ok with
 | false =>
  go_enter Tryz.func21, Tryz.ntmps21
  go_wp2
  go_ret
  exact ⟨rfl, Below.refl _ _⟩
 | true =>
  have HI := Lib.hid (FormatInt_c n hn w ht)
  go_enter Tryz.func21, Tryz.ntmps21
  go_wp2_with fail
  refine HI.out.mono ?_
  rintro e w2 ⟨rfl, hb2⟩
  go_wp2
  go_ret
  exact ⟨rfl, hb2⟩
theorem no32 {x : Bs} (h : (32 : UInt8) ∉ x) : standsB (bs x) 32 = false := by
 rw [Bool.eq_false_iff]
 intro h2
 rw [stands_iff, bs_list] at h2
 exact h h2
def lenS (ps : List Bs) (k : Nat) : Nat := ((ps.take k).map List.length).sum
theorem lenS_succ {ps : List Bs} {k : Nat} {x : Bs} (h : ps[k]? = some x) : lenS ps (k + 1) = lenS ps k + x.length := by
 unfold lenS
 rw [take_snoc h, List.map_append, List.sum_append]; simp
theorem lenS_le {ps : List Bs} (h : ∀ x ∈ ps, x.length ≤ 100) : ∀ k, k ≤ ps.length → lenS ps k ≤ 100 * k
 | 0, _ => by simp [lenS]
 | k + 1, hk => by
  obtain ⟨x, hx⟩ := elem_at (show k < ps.length by omega)
  rw [lenS_succ hx.out]
  have h1 := lenS_le h k (by omega)
  have h2 := h x (List.mem_of_getElem? hx.out)
  omega
set_option maxHeartbeats 2000000 in
theorem JoinStrings_c (v : Value) (ps : List Bs) (w : World) (hv : Sl w 1 v ps.length (strsV ps)) (hl : ps.length ≤ 30) (hx : ∀ x ∈ ps, x.length ≤ 100) (hno : ∀ x ∈ ps, (32 : UInt8) ∉ x) :
 Calls Tryz.prog 22 #[v, .string ⟨#[32]⟩] w fun e w' => (∃ ok, e = .returned (.tuple #[.string (bs (joinS ps)), .bool ok])) ∧ Below w.heap.size w w' := by
 have HJ := Lib.hid (Join_c v ps w hv (by omega) (fun x hx' => by have := hx x hx'; omega))
 have HLE := Lib.hid (fun k hk => lenS_le hx k hk)
 obtain ⟨a, c, rfl, h1, h2, h3, h4⟩ := hv
 obtain ⟨m, hm⟩ : ∃ m, ps.length = m := ⟨_, rfl⟩
 have HM := Lib.hid hm
 have HX := Lib.hid hx
 have HNO := Lib.hid hno
 have HC : Hid (∀ k x, ps[k]? = some x → ∃ b off, a = some ⟨b, off, none⟩ ∧ w.cell? ⟨b, off + k, none⟩ = some (.string (bs x))) := fun k x hk => by
  have hlt := (List.getElem?_eq_some_iff.1 hk).1
  obtain ⟨b, off, rfl, hc⟩ := h4 (by omega)
  refine ⟨b, off, rfl, ?_⟩
  rw [hc k (by omega)]
  unfold strsV
  rw [List.getElem?_map, hk]; rfl
 by_cases hz : ps = []
 · subst hz
   rw [show ([] : List Bs).length = 0 from rfl] at *
   clear hx hno hm h3 h4
   go_enter Tryz.func22, Tryz.ntmps22
   go_wp2
   exact bodyPost_ret (v := .tuple #[.string (bs (joinS [])), .bool false]) (by simp [results, Tryz.results22, go_sem] <;> rfl) rfl ⟨⟨_, rfl⟩, Below.refl _ _⟩
 · have hm1 : 1 ≤ m := by
    rw [← hm]
    cases ps with
    | nil => exact absurd rfl hz
    | cons x t => simp
   have hmz : ((m : Int) == 0) = false := by simp; omega
   rw [hm] at HJ hl h1 ⊢
   clear hx hno h3 h4 hz hm
   go_enter Tryz.func22, Tryz.ntmps22
   go_wp2
   go_loopw [6, 22] (fun s i wr => ∃ k : Nat, k ≤ m ∧ i = .int .i64 (k : Int) ∧ s = .int .i64 ((m : Int) - 1 + (lenS ps k : Nat)) ∧ w = wr) (fun _ i _ => m + 1 - (intOf i).toNat)
   case atStart => exact ⟨0, by omega, rfl, by simp [lenS], rfl⟩
   case round =>
    obtain ⟨k, hk, rfl, rfl, rfl⟩ := hrel
    by_cases hlt : k < m
    · have hd : decide ((k : Int) < (m : Int)) = true := by simp; omega
      obtain ⟨x, hxx⟩ := elem_at (show k < ps.length by rw [HM.out]; exact hlt)
      obtain ⟨b, off, rfl, hcell⟩ := HC.out k x hxx.out
      have HS := Lib.hid (lenS_succ hxx.out)
      have hle := HLE.out (k + 1) (by have := HM.out; omega)
      rw [HS.out] at hle
      have hxs : (bs x).size = x.length := bs_size x
      have HN := Lib.hid (no32 (HNO.out x (List.mem_of_getElem? hxx.out)))
      obtain ⟨q, hq⟩ : ∃ q, lenS ps k = q := ⟨_, rfl⟩
      rw [hq] at hle HS ⊢
      clear hq hxx
      obtain ⟨y, hy⟩ : ∃ y, x.length = y := ⟨_, rfl⟩
      rw [hy] at hxs hle HS
      clear hy
      generalize bs x = X at *
      have h40 : decide ((4000 : Int) < (m : Int) - 1 + (q : Int) + (y : Int)) = false := by simp; omega
      go_wp2_with fail
      refine (Contains_c X 32 _).mono ?_
      rintro e _ ⟨rfl, rfl⟩
      rw [HN.out]
      go_wp2
      go_roundw
      case rel => exact ⟨k + 1, by omega, by go_num, by rw [HS.out]; go_num, by trivial⟩
      case measure => first | (simp [intOf]; done) | (simp [intOf]; omega)
    · obtain rfl : k = m := by omega
      have hd : decide ((k : Int) < (k : Int)) = false := by simp
      go_wp2_with fail
      refine HJ.out.mono ?_
      rintro e w2 ⟨rfl, hb2⟩
      go_wp2
      exact bodyPost_ret (v := .tuple #[.string (bs (joinS ps)), .bool true]) (by simp [results, Tryz.results22, go_sem]) rfl ⟨⟨_, rfl⟩, hb2⟩
theorem cell_c (g m : Nat) (w : World) (h : CurAt w g m) (hm : m + 20 < 4611686018427387904) :
 Calls Tryz.prog 91 #[.pointer (some ⟨g, 0, none⟩)] w (DrawI w g (m + 20) fun _ => True) := by
 have HC := Lib.hid h
 clear h
 go_enter Tryz.func91, Tryz.ntmps91
 go_wp2_with fail
 refine (pick_c 40 g m _ HC.out (by omega)).mono ?_
 rintro e w1 ⟨x, rfl, hx, hs⟩
 have HS := Lib.hid hs
 clear hs hx
 have A1 := Lib.hid (fun xs hp hl => amongL_c xs g (m + 2) w1 _ rfl HS.out.cur (by omega) hp hl)
 have O1 := Lib.hid (fun n => one_c n g (m + 2) w1 HS.out.cur (by omega))
 by_cases e0 : x = 0
 · subst e0
   go_wp2_with fail
   refine (A1.out [-1, 128, 4611686018427387904] (by decide) (by decide)).mono ?_
   rintro e w2 ⟨y, rfl, hy, hs⟩
   have HS2 := Lib.hid (HS.out.trans hs)
   clear hs hy
   go_wp2
   go_ret
   exact ⟨_, rfl, trivial, HS2.out.mono (by omega)⟩
 · by_cases e1 : x = 1 ∨ x = 2 ∨ x = 3
   · rcases e1 with rfl | rfl | rfl <;>
     · go_wp2_with fail
       refine (A1.out [0, 127, 64] (by decide) (by decide)).mono ?_
       rintro e w2 ⟨y, rfl, hy, hs⟩
       have HS2 := Lib.hid (HS.out.trans hs)
       clear hs hy
       go_wp2
       go_ret
       exact ⟨_, rfl, trivial, HS2.out.mono (by omega)⟩
   · have e1' : ¬ x = 1 := fun h => e1 (.inl h)
     have e2' : ¬ x = 2 := fun h => e1 (.inr (.inl h))
     have e3' : ¬ x = 3 := fun h => e1 (.inr (.inr h))
     clear e1
     go_wp2_with fail
     refine (O1.out 3).mono ?_
     rintro e w2 ⟨b, rfl, hs⟩
     have HS2 := Lib.hid (HS.out.trans hs)
     clear hs
     cases b with
     | true =>
      go_wp2_with fail
      refine (pick_c 128 g (m + 4) _ HS2.out.cur (by omega)).mono ?_
      rintro e w3 ⟨y, rfl, hy, hs⟩
      have HS3 := Lib.hid (HS2.out.trans hs)
      clear hs hy
      go_wp2
      go_ret
      exact ⟨_, rfl, trivial, HS3.out.mono (by omega)⟩
     | false =>
      go_wp2_with fail
      refine (pick_c 10 g (m + 4) _ HS2.out.cur (by omega)).mono ?_
      rintro e w3 ⟨y, rfl, hy, hs⟩
      have HS3 := Lib.hid (HS2.out.trans hs)
      have y0 := hy.1
      have y1 := hy.2 (by omega)
      clear hs hy
      go_wp2_with fail
      refine (l2Digit_c y y0 (by omega) _).mono ?_
      rintro e w4 ⟨rfl, hb⟩
      have HS4 := Lib.hid (HS3.out.below hb)
      clear hb
      go_wp2_with fail
      refine (one_c 5 g (m + 6) _ HS4.out.cur (by omega)).mono ?_
      rintro e w5 ⟨b, rfl, hs⟩
      have HS5 := Lib.hid (HS4.out.trans hs)
      clear hs
      cases b with
      | false =>
       go_wp2
       go_ret
       exact ⟨_, rfl, trivial, HS5.out.mono (by omega)⟩
      | true =>
       go_wp2_with fail
       refine (pick_c 7 g (m + 8) _ HS5.out.cur (by omega)).mono ?_
       rintro e w6 ⟨z, rfl, hz, hs⟩
       have HS6 := Lib.hid (HS5.out.trans hs)
       obtain ⟨k, rfl⟩ := Int.eq_ofNat_of_zero_le hz.1
       have z1 : k < 7 := by have := hz.2 (by omega); omega
       clear hs hz
       go_wp2
       go_ret
       exact ⟨_, rfl, trivial, HS6.out.mono (by omega)⟩
def DrawS (w : World) (g m n : Nat) (e : Ending) (w' : World) : Prop :=
 ∃ (v : Value) (xs : List Int), e = .returned v ∧ xs.length ≤ n ∧ w'.ownsRow w.heap.size 3 1 v xs.length (xs.map (Value.int .i64)) ∧ CStep w w' g m
theorem DrawS.mono {w : World} {g m m' n n' : Nat} {e : Ending} {w' : World} (h : DrawS w g m n e w') (hm : m ≤ m') (hn : n ≤ n') : DrawS w g m' n' e w' := by
 obtain ⟨v, xs, h1, h2, h3, h4⟩ := h
 exact ⟨v, xs, h1, by omega, h3, h4.mono hm⟩
theorem CStep.grown {a b c : World} {g m : Nat} {r : Option Nat} (h : CStep a b g m) (hg : b.grownBy c r) (hga : g < a.heap.size) (hr : ∀ k, r = some k → a.heap.size ≤ k) : CStep a c g m :=
 ⟨⟨hg.os.trans h.gr.os, hg.tape.trans h.gr.tape, hg.output.trans h.gr.output, Nat.le_trans h.gr.size hg.size, fun i hi hne => (hg.block i (Nat.lt_of_lt_of_le hi h.gr.size) (fun e => by
   have := hr i e.symm; omega)).trans (h.gr.block i hi hne)⟩, h.cur.grown hg (fun k hk => by have := hr k hk; omega)⟩
theorem row_start (w : World) (lo : Nat) (h : lo ≤ w.heap.size) : (w.alloc (.cells #[] 3)).ownsRow lo 3 1 (.slice (some ⟨w.heap.size, 0, none⟩) 0 0) ([] : List Int).length (([] : List Int).map (Value.int .i64)) :=
 World.ownsRow_lit (e := 3) (size := 1) (base := lo) w #[] 0 h (by decide) rfl
set_option maxHeartbeats 1000000 in
theorem row_c (g m : Nat) (w : World) (h : CurAt w g m) (hm : m + 150 < 4611686018427387904) :
 Calls Tryz.prog 140 #[.pointer (some ⟨g, 0, none⟩)] w (DrawS w g (m + 150) 7) := by
 have HC := Lib.hid h
 have hga := h.lt
 obtain ⟨i, hi, hz0, hz1, hz2⟩ := info_parts info_int
 have HO := Lib.hid (row_start w w.heap.size (Nat.le_refl _))
 clear h
 go_enter Tryz.func140, Tryz.ntmps140
 go_wp2_with fail
 refine (amongL_c [2, 3, 1, 4, 6, 0, 5, 2, 3] g m _ _ (by simp) (HC.out.alloc (.cells #[] 3)) (by omega) (by decide) (by decide)).mono ?_
 rintro e w1 ⟨x, rfl, hx, hs⟩
 have HS := Lib.hid ((((CStep.refl HC.out).alloc (.cells #[] 3)).trans hs))
 have ho := hs.row HO.out hga
 obtain ⟨x0, x1⟩ : 0 ≤ x ∧ x ≤ 6 := by
  simp only [List.mem_cons, List.not_mem_nil, or_false] at hx; omega
 obtain ⟨k, rfl⟩ := Int.eq_ofNat_of_zero_le x0
 have hk : k ≤ 6 := by omega
 clear hs hx x0 x1 HO
 go_wp2
 go_loopw [3, 4] (fun o j wr => ∃ (k : Nat) (xs : List Int), k ≤ 6 ∧ j = .int .i64 (k : Int) ∧ xs.length + k ≤ 6 ∧ wr.ownsRow w.heap.size 3 1 o xs.length (xs.map (Value.int .i64)) ∧ CStep w wr g (m + 2 + 20 * (6 - k))) (fun _ j _ => (intOf j).toNat)
 case atStart => exact ⟨k, [], hk, rfl, by simpa using hk, ho, HS.out.mono (by omega)⟩
 case round =>
  obtain ⟨k, xs, hk, rfl, hl, ho, hs⟩ := hrel
  have HS := Lib.hid hs
  have HO := Lib.hid ho
  clear hs ho
  by_cases hk0 : 0 < k
  · have hd : decide (0 < (k : Int)) = true := by simp; omega
    go_wp2_with fail
    refine (cell_c g _ _ HS.out.cur (by omega)).mono ?_
    rintro e w2 ⟨x, rfl, _, hs⟩
    have HS2 := Lib.hid (HS.out.trans hs)
    have HO2 := Lib.hid (hs.row HO.out hga)
    clear hs
    go_wp2_with (at_builtin; refine wpList_append_own_at _ rfl _ _ 37 rfl w.heap.size 3 i (.int .i64 0) 1 8 Tryz.underlying37 hi hz0 hz1 hz2 rfl (by decide) _ xs.length (xs.map (Value.int .i64)) rfl (HO2.out.alloc _) ⟨w2.heap.size, 0, none⟩ 1 1 [.int .i64 x] rfl rfl (news_new _ [.int .i64 x] _) (by simp [Value.oneCell']) (by unfold maxLen; omega) (by omega) (by have := HS2.out.gr.size; simp; omega) ?_)
    intro v' w3 ho5 hg5 _ _
    have HS3 := Lib.hid ((HS2.out.alloc _).grown hg5 hga (fun k hk => ((HO2.out.alloc (.cells #[.int .i64 x] 3)).lt k hk).1))
    have HO3 := Lib.hid ho5
    clear ho5 hg5
    go_wp2
    go_roundw
    case rel => exact ⟨k - 1, xs ++ [x], by omega, by go_num, by simp; omega, ownsRow_cast HO3.out (by simp) (ints_snoc _ _).symm, HS3.out.mono (by omega)⟩
    case measure => simp [intOf]; omega
  · obtain rfl : k = 0 := by omega
    clear hk0
    go_wp2_with fail
    refine (one_c 40 g _ _ HS.out.cur (by omega)).mono ?_
    rintro e w2 ⟨b, rfl, hs⟩
    have HS2 := Lib.hid (HS.out.trans hs)
    have HO2 := Lib.hid (hs.row HO.out hga)
    clear hs
    cases b with
    | false =>
     go_wp2
     go_ret
     exact ⟨_, xs, rfl, by omega, HO2.out, HS2.out.mono (by omega)⟩
    | true =>
     go_wp2
     go_ret
     exact ⟨_, [6, 6, 6, 6, 6, 6, 6], rfl, by decide, World.ownsRow_lit (e := 3) (size := 1) (base := w.heap.size) w2 #[.int .i64 6, .int .i64 6, .int .i64 6, .int .i64 6, .int .i64 6, .int .i64 6, .int .i64 6] 7 HS2.out.gr.size (by decide) rfl, (HS2.out.alloc _).mono (by omega)⟩
set_option maxHeartbeats 1000000 in
theorem digits_d (g m : Nat) (w : World) (h : CurAt w g m) (hm : m + 200 < 4611686018427387904) :
 Calls Tryz.prog 88 #[.pointer (some ⟨g, 0, none⟩)] w (DrawS w g (m + 200) 7) := by
 have HC := Lib.hid h
 have hga := h.lt
 obtain ⟨i, hi, hz0, hz1, hz2⟩ := info_parts info_int
 clear h
 go_enter Tryz.func88, Tryz.ntmps88
 go_wp2_with fail
 refine (one_c 6 g m _ HC.out (by omega)).mono ?_
 rintro e w1 ⟨b, rfl, hs⟩
 have HS := Lib.hid hs
 clear hs
 cases b with
 | true =>
  go_wp2_with fail
  refine (row_c g (m + 2) _ HS.out.cur (by omega)).mono ?_
  rintro e w2 ⟨v, xs, rfl, hl, ho, hs⟩
  have HS2 := Lib.hid (HS.out.trans hs)
  have HO2 := Lib.hid (own_lo ho HS.out.gr.size)
  clear hs ho
  go_wp2
  go_ret
  exact ⟨_, xs, rfl, hl, HO2.out, HS2.out.mono (by omega)⟩
 | false =>
  have HO := Lib.hid (row_start w1 w.heap.size HS.out.gr.size)
  have HS1 := Lib.hid (HS.out.alloc (.cells #[] 3))
  go_wp2_with fail
  refine (amongL_c [2, 3, 1, 4, 6] g (m + 2) _ _ (by simp) HS1.out.cur (by omega) (by decide) (by decide)).mono ?_
  rintro e w2 ⟨x, rfl, hx, hs⟩
  have HS2 := Lib.hid (HS1.out.trans hs)
  have ho := hs.row HO.out hga
  obtain ⟨x0, x1⟩ : 0 ≤ x ∧ x ≤ 6 := by
   simp only [List.mem_cons, List.not_mem_nil, or_false] at hx; omega
  obtain ⟨k, rfl⟩ := Int.eq_ofNat_of_zero_le x0
  have hk : k ≤ 6 := by omega
  clear hs hx x0 x1 HO HS1 HS
  go_wp2
  go_loopw [3, 4] (fun o j wr => ∃ (k : Nat) (xs : List Int), k ≤ 6 ∧ j = .int .i64 (k : Int) ∧ xs.length + k ≤ 6 ∧ wr.ownsRow w.heap.size 3 1 o xs.length (xs.map (Value.int .i64)) ∧ CStep w wr g (m + 4 + 20 * (6 - k))) (fun _ j _ => (intOf j).toNat)
  case atStart => exact ⟨k, [], hk, rfl, by simpa using hk, ho, HS2.out.mono (by omega)⟩
  case round =>
   obtain ⟨k, xs, hk, rfl, hl, ho, hs⟩ := hrel
   have HS := Lib.hid hs
   have HO := Lib.hid ho
   clear hs ho
   by_cases hk0 : 0 < k
   · have hd : decide (0 < (k : Int)) = true := by simp; omega
     go_wp2_with fail
     refine (amongL_c [0, 1, 2, 5, 6, 8, 9, 3, 4, 7] g _ _ _ (by simp) HS.out.cur (by omega) (by decide) (by decide)).mono ?_
     rintro e w2 ⟨x, rfl, hx, hs⟩
     obtain ⟨x0, x1⟩ : 0 ≤ x ∧ x ≤ 9 := by
      simp only [List.mem_cons, List.not_mem_nil, or_false] at hx; omega
     have HS2 := Lib.hid (HS.out.trans hs)
     have HO2 := Lib.hid (hs.row HO.out hga)
     clear hs hx
     go_wp2_with fail
     refine (l2Digit_c x x0 x1 _).mono ?_
     rintro e w3 ⟨rfl, hb⟩
     have HS3 := Lib.hid (HS2.out.below hb)
     have HO3 := Lib.hid (own_keep HO2.out hb)
     clear hb
     go_wp2_with (at_builtin; refine wpList_append_own_at _ rfl _ _ 37 rfl w.heap.size 3 i (.int .i64 0) 1 8 Tryz.underlying37 hi hz0 hz1 hz2 rfl (by decide) _ xs.length (xs.map (Value.int .i64)) rfl (HO3.out.alloc _) ⟨w3.heap.size, 0, none⟩ 1 1 [.int .i64 (dg x)] rfl rfl (news_new _ [.int .i64 (dg x)] _) (by simp [Value.oneCell']) (by unfold maxLen; omega) (by omega) (by have := HS3.out.gr.size; simp; omega) ?_)
     intro v' w4 ho5 hg5 _ _
     have HS4 := Lib.hid ((HS3.out.alloc _).grown hg5 hga (fun k hk => ((HO3.out.alloc (.cells #[.int .i64 (dg x)] 3)).lt k hk).1))
     have HO4 := Lib.hid ho5
     clear ho5 hg5
     go_wp2
     go_roundw
     case rel => exact ⟨k - 1, xs ++ [dg x], by omega, by go_num, by simp; omega, ownsRow_cast HO4.out (by simp) (ints_snoc _ _).symm, HS4.out.mono (by omega)⟩
     case measure => simp [intOf]; omega
   · obtain rfl : k = 0 := by omega
     clear hk0
     go_wp2
     go_ret
     exact ⟨_, xs, rfl, by omega, HO.out, HS.out.mono (by omega)⟩
theorem CStep.store {a b : World} {g m : Nat} (h : CStep a b g m) (hga : g < a.heap.size) {p : Addr} (hp : a.heap.size ≤ p.block) (v : Value) : CStep a (b.setCell p v) g m :=
 ⟨⟨h.gr.os, h.gr.tape, h.gr.output, by have := h.gr.size; simp [World.setCell]; exact this, fun k hk hne => (Below.heap_setCell _ _ _ _ (by omega)).trans (h.gr.block k hk hne)⟩, h.cur.blocks fun k hk => Below.heap_setCell _ _ _ _ (by omega)⟩
theorem Bk.step {a b : World} {g m k t : Nat} {cs : Array Value} (h : Bk a k t cs) (hs : CStep a b g m) (hk : k ≠ g) : Bk b k t cs := h.keep (hs.gr.block k h.lt (fun e => hk (by cases e; rfl)))
theorem loadVarJ {w : World} {g t : Nat} {k a v : Int} (h : Bk w g t #[.int .i64 k, .int .i64 a, .int .i64 v]) : (loadVar 123 ⟨g, 0, none⟩).run Tryz.prog w = .ok (.agg #[.int .i64 k, .int .i64 a, .int .i64 v]) w :=
 run_loadVar_mid w g 0 _ [.int .i64 k, .int .i64 a, .int .i64 v] _ (fun j u hu => by rw [Nat.zero_add, h.cell j]; simpa using hu) Tryz.underlying123 rfl (by kernel_rfl)
def DrawJ (w : World) (g m : Nat) (e : Ending) (w' : World) : Prop := ∃ k a v : Int, e = .returned (jobV k a v) ∧ CStep w w' g m
theorem DrawJ.mono {w : World} {g m m' : Nat} {e : Ending} {w' : World} (h : DrawJ w g m e w') (hm : m ≤ m') : DrawJ w g m' e w' := by
 obtain ⟨k, a, v, rfl, hs⟩ := h; exact ⟨k, a, v, rfl, hs.mono hm⟩
structure JSt (w wx : World) (g m B J : Nat) (k a v : Int) : Prop where
 cs : CStep w wx g m
 rb : Bk wx B 123 #[.int .i64 0, .int .i64 0, .int .i64 0]
 jb : Bk wx J 123 #[.int .i64 k, .int .i64 a, .int .i64 v]
 hg : g < B
 hB : B < J
 h0 : w.heap.size = B
theorem JSt.step {w wx wy : World} {g m m' B J : Nat} {k a v : Int} (h : JSt w wx g m B J k a v) (hs : CStep wx wy g m') : JSt w wy g m' B J k a v :=
 ⟨h.cs.trans hs, h.rb.step hs (by have := h.hg; omega), h.jb.step hs (by have := h.hg; have := h.hB; omega), h.hg, h.hB, h.h0⟩
theorem JSt.put {w wx : World} {g m B J : Nat} {k a v k' a' v' : Int} (h : JSt w wx g m B J k a v) (i : Nat) (x : Value) (he : (#[.int .i64 k, .int .i64 a, .int .i64 v] : Array Value).setIfInBounds i x = #[.int .i64 k', .int .i64 a', .int .i64 v']) : JSt w (wx.setCell ⟨J, i, none⟩ x) g m B J k' a' v' :=
 ⟨h.cs.store (by have := h.hg; have := h.h0; omega) (by show w.heap.size ≤ J; have := h.h0; have := h.hB; omega) x, h.rb.other (by show B ≠ J; have := h.hB; omega) x, he ▸ h.jb.set i x, h.hg, h.hB, h.h0⟩
theorem JSt.mono {w wx : World} {g m m' B J : Nat} {k a v : Int} (h : JSt w wx g m B J k a v) (hm : m ≤ m') : JSt w wx g m' B J k a v := ⟨h.cs.mono hm, h.rb, h.jb, h.hg, h.hB, h.h0⟩
set_option maxHeartbeats 8000000 in
theorem job12_c (g m : Nat) (w : World) (h : CurAt w g m) (hm : m + 20 < 4611686018427387904) :
 Calls Tryz.prog 90 #[.pointer (some ⟨g, 0, none⟩)] w (DrawJ w g (m + 20)) := by
 have hga := h.lt
 have B0 := Lib.hid (Bk.new w 123 #[.int .i64 0, .int .i64 0, .int .i64 0])
 have HC := Lib.hid ((CStep.refl h).alloc (.cells #[.int .i64 0, .int .i64 0, .int .i64 0] 123))
 clear h
 unfold jobV DrawJ at *
 go_enter Tryz.func90, Tryz.ntmps90
 go_wp2_with fail
 refine (amongL_c [1, 1, 1, 2, 3, 3, 4, 5, 6, 7] g m _ _ (by simp) HC.out.cur (by omega) (by decide) (by decide)).mono ?_
 rintro e w1 ⟨k, rfl, hx, hs⟩
 have HJ : Hid (JSt w (w1.alloc (.cells #[.int .i64 k, .int .i64 0, .int .i64 0] 123)) g (m + 2) w.heap.size w1.heap.size k 0 0) :=
  ⟨(HC.out.trans hs).alloc _, (B0.out.step hs (by omega)).alloc _, Bk.new w1 123 _, hga, by have := hs.gr.size; simp at this; omega, rfl⟩
 clear hs hx HC B0
 go_upto_block 0 with fail
 generalize hW : w1.alloc (.cells #[.int .i64 k, .int .i64 0, .int .i64 0] 123) = wj at *
 clear hW
 generalize hJJ : w1.heap.size = J at *
 clear hJJ
 go_cut [] (fun wx => ∃ k' a' v', JSt w wx g (m + 6) w.heap.size J k' a' v')
 case first =>
  go_wp2_with fail
  all_goals first
   | (go_meet; exact ⟨_, _, _, HJ.out.mono (by omega)⟩)
   | (refine (pick_c 6 g _ _ HJ.out.cs.cur (by omega)).mono ?_
      rintro e w2 ⟨x, rfl, _, hs⟩
      have H2 := HJ.out.step hs
      have z : w2.cell? ⟨J, 1, none⟩ = some (.int .i64 0) := H2.jb.cell 1
      have f : w2.frozen? ⟨J, 1, none⟩ = false := H2.jb.frozen 1
      replace HJ := Lib.hid (H2.put (k' := k) (a' := x) (v' := 0) 1 (.int .i64 x) rfl)
      clear hs H2
      go_wp2_with fail
      first
       | (go_meet; exact ⟨_, _, _, HJ.out.mono (by omega)⟩)
       | (first
           | (have hq := ‹(k == 1) = true›; refine (pick_c 10 g _ _ HJ.out.cs.cur (by omega)).mono ?_)
           | refine (pick_c 7 g _ _ HJ.out.cs.cur (by omega)).mono ?_
          rintro e w3 ⟨y, rfl, _, hs⟩
          have H3 := HJ.out.step hs
          have z : w3.cell? ⟨J, 2, none⟩ = some (.int .i64 0) := H3.jb.cell 2
          have f : w3.frozen? ⟨J, 2, none⟩ = false := H3.jb.frozen 2
          replace HJ := Lib.hid (H3.put (k' := k) (a' := x) (v' := y) 2 (.int .i64 y) rfl)
          clear hs H3
          go_wp2_with fail
          go_meet
          exact ⟨_, _, _, HJ.out.mono (by omega)⟩))
 case rest =>
  obtain ⟨k', a', v', hj⟩ := hcut
  clear HJ
  go_wp2_with fail
  refine (pick_c 40 g _ _ hj.cs.cur (by omega)).mono ?_
  rintro e w3 ⟨y, rfl, _, hs⟩
  have HJ := Lib.hid (hj.step hs)
  clear hs hj
  go_upto_block 1 with fail
  go_cut [] (fun wx => ∃ k' a' v', JSt w wx g (m + 10) w.heap.size J k' a' v')
  case first =>
   go_wp2_with fail
   all_goals first
    | (go_meet; exact ⟨_, _, _, HJ.out.mono (by omega)⟩)
    | (first
        | (have hq := ‹(y == 0) = true›; refine (amongL_c [-1, 6, 1] g _ _ _ (by simp) HJ.out.cs.cur (by omega) (by decide) (by decide)).mono ?_)
        | (have hq := ‹(y == 1) = true›; refine (amongL_c [-1, 7, 10, 1] g _ _ _ (by simp) HJ.out.cs.cur (by omega) (by decide) (by decide)).mono ?_)
        | refine (amongL_c [0, 8, -1] g _ _ _ (by simp) HJ.out.cs.cur (by omega) (by decide) (by decide)).mono ?_
       rintro e w4 ⟨x, rfl, _, hs⟩
       have H2 := HJ.out.step hs
       have z0 : w4.cell? ⟨J, 0, none⟩ = some (.int .i64 k') := H2.jb.cell 0
       have f0 : w4.frozen? ⟨J, 0, none⟩ = false := H2.jb.frozen 0
       have z1 : w4.cell? ⟨J, 1, none⟩ = some (.int .i64 a') := H2.jb.cell 1
       have f1 : w4.frozen? ⟨J, 1, none⟩ = false := H2.jb.frozen 1
       have z2 : w4.cell? ⟨J, 2, none⟩ = some (.int .i64 v') := H2.jb.cell 2
       have f2 : w4.frozen? ⟨J, 2, none⟩ = false := H2.jb.frozen 2
       have P0 := Lib.hid (H2.put 0 (.int .i64 x) rfl)
       have P1 := Lib.hid (H2.put 1 (.int .i64 x) rfl)
       have P2 := Lib.hid (H2.put 2 (.int .i64 x) rfl)
       clear hs H2 HJ
       go_wp2_with fail
       go_meet
       first | exact ⟨_, _, _, P0.out.mono (by omega)⟩ | exact ⟨_, _, _, P1.out.mono (by omega)⟩ | exact ⟨_, _, _, P2.out.mono (by omega)⟩)
  case rest =>
   obtain ⟨k', a', v', hj⟩ := hcut
   clear HJ
   have q0 : _ = some (Value.int .i64 k') := hj.jb.cell 0
   have q1 : _ = some (Value.int .i64 a') := hj.jb.cell 1
   have q2 : _ = some (Value.int .i64 v') := hj.jb.cell 2
   have p0 : _ = some (Value.int .i64 0) := hj.rb.cell 0
   have p1 : _ = some (Value.int .i64 0) := hj.rb.cell 1
   have p2 : _ = some (Value.int .i64 0) := hj.rb.cell 2
   have e0 := hj.rb.frozen 0
   have e1 := hj.rb.frozen 1
   have e2 := hj.rb.frozen 2
   have CS := Lib.hid (hj.cs.mono (show m + 10 ≤ m + 20 by omega))
   have RB := Lib.hid (loadVarJ (((hj.rb.set 0 (.int .i64 k')).set 1 (.int .i64 a')).set 2 (.int .i64 v')))
   clear hj
   go_wp2
   exact bodyPost_ret (v := .agg #[.int .i64 k', .int .i64 a', .int .i64 v']) (res_cell Tryz.results90 rfl RB.out) rfl ⟨_, _, _, rfl, ((CS.out.store hga (by simp) _).store hga (by simp) _).store hga (by simp) _⟩
end Go.Proofs.YtohgjfdbnkjefaaGreatDoor
namespace Go.Proofs.YtohgjfdbnkjefaaGreatDoor
open Go.RowKit
section
variable {P : Program} {ops : Array Oper} {Q : Exit → Act → World → Prop} {md : Region.Mode} {S : World → Prop}
theorem tkZ (i : Nat) {oi : Oper} {v : Value} {fuel : Nat} {listed l' : Array Bool} {a a' : Act} {w : World} (hS : S w)
 (h : wpAnyH P md ops Q S fuel l' a' w) (hi : ops[i]? = some oi := by (simp only [xeA, xeB, xeC]; exact rfl))
 (hs : Region.noSelect ops = true := by kernel_rfl) (hf : Region.free md ops listed i = true := by kernel_rfl) (hr : (Region.ready md ops listed).contains i = true := by decide +kernel)
 (hQ : ∀ c a w, Q (.panic c) (a.put oi.dst v) w → Q (.panic c) a w := by exact fun _ _ _ h => h)
 (hy : YieldsIf P ops S oi v a := by exact Or.inl ⟨by rfl, by (intro w hSw; (try dsimp only at hSw); go_simp; first | done | with_reducible rfl)⟩)
 (el : listed.setIfInBounds i true = l' := by ((try simp only [xqA, xqB, xqC]); first | done | exact rfl))
 (ea : a.put oi.dst v = a' := by ((try simp only [Act.put, xqA, xqB, xqC]); first | done | exact rfl)) : wpAnyH P md ops Q S (fuel + 1) listed a w := by
 subst el ea
 exact wpAnyH_take hi hs hf hr hQ hy hS h
theorem tkL (i : Nat) {oi : Oper} {fuel : Nat} {listed l' : Array Bool} {a a' : Act} {w : World} (hS : S w) {ty : TypeId} {x : Operand} {b o : Nat} {cs : List Value} {d : TypeDesc}
 (hl : ∀ w, S w → w.rangeAt b o cs) (hu : P.underlying ty = some d) (hz : (P.info? ty).map (·.size) = some cs.length)
 (h : wpAnyH P md ops Q S fuel l' a' w) (hi : ops[i]? = some oi := by (simp only [xeA, xeB, xeC]; exact rfl))
 (hs : Region.noSelect ops = true := by kernel_rfl) (hf : Region.free md ops listed i = true := by kernel_rfl) (hr : (Region.ready md ops listed).contains i = true := by decide +kernel)
 (hd : d.isRow = true := by rfl) (ho : oi.op = .load ty x := by rfl) (hx : a.eval x = .pointer (some ⟨b, o, none⟩) := by rfl) (hw : Region.wanted oi (yielded ops a.tmps) = true := by rfl)
 (hQ : ∀ c a w, Q (.panic c) (a.put oi.dst (.agg cs.toArray)) w → Q (.panic c) a w := by exact fun _ _ _ h => h)
 (el : listed.setIfInBounds i true = l' := by ((try simp only [xqA, xqB, xqC]); first | done | exact rfl))
 (ea : a.put oi.dst (.agg cs.toArray) = a' := by ((try simp only [Act.put, xqA, xqB, xqC]); first | done | exact rfl)) : wpAnyH P md ops Q S (fuel + 1) listed a w := by
 subst el ea
 exact wpAnyH_take hi hs hf hr hQ (yieldsIf_load_mid hw ty x ho b o hx cs d hl hu hd hz) hS h
theorem nrm {fuel : Nat} {listed l' : Array Bool} {a a' : Act} {w : World} (h : wpAnyH P md ops Q S fuel l' a' w)
 (el : listed = l' := by ((try simp only [xqA, xqB, xqC]); first | done | exact rfl)) (ea : a = a' := by ((try simp only [Act.put, xqA, xqB, xqC]); first | done | exact rfl)) : wpAnyH P md ops Q S fuel listed a w := by
 subst el ea
 exact h
theorem rdy {fuel : Nat} {listed : Array Bool} {a : Act} {w : World} {i : Nat} {o : Oper} {rs : List Nat}
 (h : ∀ K' : Act → World → Prop, Shut (∀ a w, S w → (S w → wpAnyH P md ops Q S fuel (listed.setIfInBounds i true) a w) → K' a w) → if Region.wanted o (yielded ops a.tmps) = true then Oper.wp P o a w K' Q else K' (a.put o.dst undef) w)
 (hs : AllReadyH P md ops Q S fuel listed a w rs) (ho : ops[i]? = some o := by (simp only [xeA, xeB, xeC]; exact rfl)) : AllReadyH P md ops Q S fuel listed a w (i :: rs) := AllReadyH.cons ho h hs
theorem rdyS (rs : List Nat) {fuel : Nat} {listed : Array Bool} {a : Act} {w : World} (h : AllReadyH P md ops Q S fuel listed a w rs)
 (hr : Region.ready md ops listed = rs := by decide +kernel) (hne : rs ≠ [] := by simp) : wpAnyH P md ops Q S (fuel + 1) listed a w := wpAnyH_ready hr hne h
end
end Go.Proofs.YtohgjfdbnkjefaaGreatDoor
namespace Go.Proofs.YtohgjfdbnkjefaaGreatDoor
set_option linter.unusedVariables false
set_option linter.unusedSimpArgs false
def padB (r : List Int) : List Int := r ++ List.replicate (19 - r.length) 0
def nbB (r : List Int) : List Int := if rowB r then padB r else zeroI
theorem rowB_len {r : List Int} (h : rowB r = true) : r.length ≤ 6 := by
 unfold rowB at h; simp only [Bool.and_eq_true, decide_eq_true_eq] at h; exact h.1
theorem padB_len {r : List Int} (h : r.length ≤ 6) : (padB r).length = 19 := by simp [padB]; omega
theorem nbB_len (r : List Int) : (nbB r).length = 19 := by
 unfold nbB
 split
 · exact padB_len (rowB_len ‹_›)
 · simp [zeroI]
theorem bg_pad_hi {r : List Int} (h : r.length ≤ 6) {j : Nat} (hj : r.length ≤ j) (hj2 : j < 19) : bg (padB r) j = 0 := by
 unfold bg padB
 rw [List.getD_eq_getElem?_getD, List.getElem?_append_right hj, List.getElem?_replicate]
 split <;> rfl
theorem bg_pad_lo {r : List Int} {j : Nat} (hj : j < r.length) : bg (padB r) j = bg r j := by
 unfold bg padB
 rw [List.getD_eq_getElem?_getD, List.getElem?_append_left hj, List.getD_eq_getElem?_getD]
theorem nbB_good {r : List Int} (h : rowB r = true) : goodB (nbB r) = true := by
 have hl := rowB_len h
 unfold nbB
 rw [if_pos h, goodB_all]
 refine ⟨fun j hj => ?_, by rw [bg_pad_hi hl (by omega) (by omega)]; rfl⟩
 have hf : faultB (bg (padB r) (6 + j)) (bg (padB r) (12 + j)) = true := by rw [bg_pad_hi hl (by omega) (by omega), bg_pad_hi hl (by omega) (by omega)]; rfl
 by_cases hj2 : j < r.length
 · have hc := rowB_cell h (List.getElem?_eq_getElem hj2)
   have e : bg (padB r) j = r[j] := by rw [bg_pad_lo hj2]; simp [bg, hj2]
   exact goodAt_mk (by rw [e]; exact hc.1) (by rw [e]; exact hc.2) hf
 · exact goodAt_mk (by rw [bg_pad_hi hl (by omega) (by omega)]; decide) (by rw [bg_pad_hi hl (by omega) (by omega)]; decide) hf
open Go.RowKit
set_option maxRecDepth 100000
theorem size_setCells : ∀ (vs : List Value) (w : World) (b o : Nat), (w.setCells b o vs).heap.size = w.heap.size
 | [], _, _, _ => rfl
 | v :: r, w, b, o => (size_setCells r _ b (o + 1)).trans (by simp [World.setCell])
theorem zero_len : zeroI.length = 19 := by simp [zeroI]
def padTo (r : List Int) (k : Nat) : List Int := r.take k ++ List.replicate (19 - k) 0
theorem padTo_zero (r : List Int) : padTo r 0 = zeroI := by simp [padTo, zeroI]
theorem padTo_all (r : List Int) : padTo r r.length = padB r := by simp [padTo, padB]
theorem padTo_len {r : List Int} {k : Nat} (h : k ≤ r.length) (h6 : r.length ≤ 6) : (padTo r k).length = 19 := by simp [padTo]; omega
theorem padTo_succ {r : List Int} {k : Nat} {x : Int} (hx : r[k]? = some x) (h6 : r.length ≤ 6) : (padTo r k).set k x = padTo r (k + 1) := by
 have hk := (List.getElem?_eq_some_iff.1 hx).1
 unfold padTo
 rw [take_snoc hx, List.set_append, if_neg (by rw [List.length_take]; omega), show 19 - k = (19 - (k + 1)) + 1 by omega, List.replicate_succ]
 have e : k - (r.take k).length = 0 := by rw [List.length_take]; omega
 rw [e]
 simp
set_option maxHeartbeats 1600000 in
theorem sNewBench_c (v : Value) (xs : List Int) (w : World) (hv : Ints w v xs) :
 Calls Tryz.prog 87 #[v] w fun e w' => e = .returned (mkV (nbB xs) (rowB xs)) ∧ Below w.heap.size w w' := by
 have HV := Lib.hid hv
 obtain ⟨a, c, rfl, _, _, _⟩ := hv.parts
 have HR := Lib.hid (fun w h => l2Row_c (.slice a xs.length c) xs w h)
 have t0 : ((w.alloc zB).alloc zB).there w.heap.size 0 19 := World.there_alloc (there_new w zBA 26 (n := 19) (by decide)) zB
 have u0 : ((w.alloc zB).alloc zB).there (w.heap.size + 1) 0 19 := by
  have := there_new (w.alloc zB) zBA 26 (n := 19) (by decide)
  rw [World.size_alloc] at this
  exact this
 have hzl : (ints zeroI).length = 19 := by simp [ints, zero_len]
 have hb0 : Below w.heap.size w ((w.alloc zB).alloc zB) := by (repeat (first | exact Below.refl _ _ | exact (Below.refl _ _).drew | assumption | exact below_one _ | refine Below.chain ?_ (by assumption) | refine Below.drew ?_ | refine Below.alc ?_ _ | refine below_drewN ?_ | (refine Below.setCell ?_ ?_ _) | exact Nat.le_refl _ | (simp; done) | (simp; omega)))
 have hz := zero_len
 have HV0 := Lib.hid (HV.out.below hb0)
 have r0 := World.rangeAt_setCells_same ((w.alloc zB).alloc zB) (w.heap.size + 1) 0 (ints zeroI) (by rw [hzl]; exact u0)
 have t1 := World.there_setCells t0 (w.heap.size + 1) 0 (ints zeroI)
 have u1 := World.there_setCells u0 (w.heap.size + 1) 0 (ints zeroI)
 have hb1 := below_cells (ints zeroI) ((w.alloc zB).alloc zB) (w.heap.size + 1) 0 hb0 (by omega)
 have HV1 : Hid (Ints (((w.alloc zB).alloc zB).setCells (w.heap.size + 1) 0 (ints zeroI)) (.slice a xs.length c) xs) := HV.out.below hb1
 clear hv HV0
 have hs1 : w.heap.size + 1 < (((w.alloc zB).alloc zB).setCells (w.heap.size + 1) 0 (ints zeroI)).heap.size := by rw [size_setCells]; simp
 unfold mkV aggI
 unfold zB at *
 try unfold zBA at *
 rcases hq : rowB xs with _ | _
 · have HF := Lib.hid (show nbB xs = zeroI by simp [nbB, hq])
   have HQ := Lib.hid hq; clear hq
   go_enter Tryz.func87, Tryz.ntmps87
   go_wp2_with (refine wpList_storeB rfl _ _ rfl _ zeroI rfl rfl ?_ hz ?_; exact u0)
   refine (HR.out _ HV1.out).mono ?_
   rintro e w1 ⟨rfl, hb2⟩
   rw [HQ.out]
   have r2 := range_below r0 hb2
   have t2 := there_below t1 hb2
   have hb3 := Below.chain hb1 hb2
   have K5 := loadVarB (World.rangeAt_setCells_same w1 w.heap.size 0 (ints zeroI) (by simpa [hz] using t2)) hz
   have K6 := below_cells (ints zeroI) w1 w.heap.size 0 hb3 (by omega)
   clear t0 u0 hb0 r0 t1 u1 hb1 hb2 hs1
   go_wp2_with (first | (refine wpList_loadB rfl _ rfl _ rfl _ r2 hz ?_) | (refine wpList_storeB rfl _ _ rfl _ zeroI rfl rfl t2 hz ?_))
   exact bodyPost_ret (v := mkV zeroI false) (res_cell2 Tryz.results87 rfl K5) rfl ⟨by rw [HF.out]; rfl, K6⟩
 · have HF := Lib.hid (show nbB xs = padB xs by simp [nbB, hq])
   have HQ := Lib.hid hq
   have h6 := rowB_len hq
   have hpl := padB_len h6
   clear hq
   go_enter Tryz.func87, Tryz.ntmps87
   go_wp2_with (refine wpList_storeB rfl _ _ rfl _ zeroI rfl rfl ?_ hz ?_; exact u0)
   refine (HR.out _ HV1.out).mono ?_
   rintro e w1 ⟨rfl, hb2⟩
   rw [HQ.out]
   have r2 := range_below r0 hb2
   have t2 := there_below t1 hb2
   have u2 := there_below u1 hb2
   have hb3 := Below.chain hb1 hb2
   have HV2 := Lib.hid (HV1.out.below hb2)
   have hs2 := Nat.lt_of_lt_of_le hs1 hb2.size
   clear t0 u0 hb0 r0 t1 u1 hb1 hb2 hs1 HV1
   go_wp2
   go_loopw [5] (fun j wr => ∃ k : Nat, k ≤ xs.length ∧ j = .int .i64 (k : Int) ∧ wr.rangeAt (w.heap.size + 1) 0 (ints (padTo xs k)) ∧ wr.there w.heap.size 0 19 ∧ wr.there (w.heap.size + 1) 0 19 ∧ Below w.heap.size w wr) (fun j _ => 7 - (intOf j).toNat)
   case atStart => exact ⟨0, by omega, rfl, by rw [padTo_zero]; exact r2, t2, u2, hb3⟩
   case round =>
    obtain ⟨k, hk, rfl, hr, ht, hu, hb⟩ := hrel
    by_cases hlt : k < xs.length
    · have hd : decide ((k : Int) < (xs.length : Int)) = true := by simp; omega
      obtain ⟨x, hxx⟩ := elem_at hlt
      obtain ⟨_, _, he, _, _, H2⟩ := (HV.out.below hb).parts
      simp only [Value.slice.injEq, true_and] at he
      obtain ⟨rfl, rfl⟩ := he
      obtain ⟨b, off, rfl, hc⟩ := H2.out k x hxx.out
      have n0 : (0 : Int) ≤ (k : Int) := by omega
      have n1 : (k : Int) < 6 := by omega
      have g0 := there_froz hu (j := k) (by omega)
      obtain ⟨z0, g1⟩ := there_some hu (j := k) (by omega)
      have R : Hid ((wr.setCell ⟨w.heap.size + 1, k, none⟩ (.int .i64 x)).rangeAt (w.heap.size + 1) 0 (ints (padTo xs (k + 1)))) := by
       show World.rangeAt _ _ _ _
       rw [← padTo_succ hxx.out h6]
       exact range_set hr x (by rw [padTo_len hk h6]; omega)
      have T1 := Lib.hid (there_set ht (w.heap.size + 1) k (.int .i64 x))
      have T2 := Lib.hid (there_set hu (w.heap.size + 1) k (.int .i64 x))
      have BW := Lib.hid (hb.setCell (p := ⟨w.heap.size + 1, k, none⟩) (by simp) (.int .i64 x))
      clear hr ht hu hb H2
      go_wp2
      go_roundw
      case rel => exact ⟨k + 1, by omega, by go_num, R.out, T1.out, T2.out, BW.out⟩
      case measure => simp [intOf]; omega
    · obtain rfl : k = xs.length := by omega
      rw [padTo_all] at hr
      have K5 := loadVarB (World.rangeAt_setCells_same wr w.heap.size 0 (ints (padB xs)) (by simpa [hpl] using ht)) hpl
      have K6 := below_cells (ints (padB xs)) wr w.heap.size 0 hb (by omega)
      go_wp2_with (first | (refine wpList_loadB rfl _ rfl _ rfl _ hr hpl ?_) | (refine wpList_storeB rfl _ _ rfl _ (padB xs) rfl rfl ht hpl ?_))
      exact bodyPost_ret (v := mkV (padB xs) true) (res_cell2 Tryz.results87 rfl K5) rfl ⟨by rw [HF.out]; rfl, K6⟩
end Go.Proofs.YtohgjfdbnkjefaaGreatDoor
