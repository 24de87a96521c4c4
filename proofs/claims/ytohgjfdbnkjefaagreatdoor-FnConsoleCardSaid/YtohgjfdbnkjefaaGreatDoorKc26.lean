import Derived.Test.YtohgjfdbnkjefaaGreatDoorKc25
import Derived.DeepKeys
import Derived.ChangeKeysEq
import Derived.Laws.StructEq
import Derived.Deep.RegionHeld3
import Derived.Deep.DeepCutAuto
open Go.Lib (hid)
namespace Go.Proofs.YtohgjfdbnkjefaaGreatDoor
open Go.RowKit
set_option linter.unusedVariables false
set_option linter.unusedSimpArgs false
set_option maxRecDepth 100000
theorem csC_18 {b : List Int} {d p : ByteArray} {n : Int} (hb : b.length = 19) (x : Int) : (csC b d p n).toArray.setIfInBounds 18 (.int .i64 x) = (csC (b.set 18 x) d p n).toArray := by
 unfold csC lgC ints; simp [List.set_append, hb]
theorem csC_19 {b : List Int} {d p : ByteArray} {n : Int} (hb : b.length = 19) (x : ByteArray) : (csC b d p n).toArray.setIfInBounds 19 (.string x) = (csC b x p n).toArray := by
 unfold csC lgC ints; simp [List.set_append, hb]
theorem csC_20 {b : List Int} {d p : ByteArray} {n : Int} (hb : b.length = 19) (x : ByteArray) : (csC b d p n).toArray.setIfInBounds 20 (.string x) = (csC b d x n).toArray := by
 unfold csC lgC ints; simp [List.set_append, hb]
theorem csC_21 {b : List Int} {d p : ByteArray} {n : Int} (hb : b.length = 19) (x : Int) : (csC b d p n).toArray.setIfInBounds 21 (.int .i64 x) = (csC b d p x).toArray := by
 unfold csC lgC ints; simp [List.set_append, hb]
def DrawC (w : World) (g m : Nat) (e : Ending) (w' : World) : Prop := ∃ c : Cst, c.fit ∧ e = .returned (.agg (csC c.b c.d c.p c.n).toArray) ∧ CStep w w' g m
structure CSt (w wx : World) (g m O : Nat) (R : List (Nat × Nat × Array Value)) (c : Cst) : Prop where
 cs : CStep w wx g m
 rs : ∀ x ∈ R, Bk wx x.1 x.2.1 x.2.2
 cb : Bk wx O 31 (csC c.b c.d c.p c.n).toArray
 hr : ∀ x ∈ R, x.1 ≠ g ∧ x.1 < O
 hO : w.heap.size ≤ O
 hg : g < w.heap.size
 hf : c.fit
section
variable {w wx wy : World} {g m m' O : Nat} {R : List (Nat × Nat × Array Value)} {c : Cst}
theorem CSt.step (h : CSt w wx g m O R c) (hs : CStep wx wy g m') : CSt w wy g m' O R c :=
 ⟨h.cs.trans hs, fun x hx => (h.rs x hx).step hs (by have := h.hr x hx; omega), h.cb.step hs (by have := h.hg; have := h.hO; omega), h.hr, h.hO, h.hg, h.hf⟩
theorem CSt.below (h : CSt w wx g m O R c) (hb : Below wx.heap.size wx wy) : CSt w wy g m O R c := h.step ((CStep.refl h.cs.cur).below hb)
theorem CSt.alloc (h : CSt w wx g m O R c) (o : Obj) : CSt w (wx.alloc o) g m O R c := h.below (below_one o)
theorem CSt.drew (h : CSt w wx g m O R c) : CSt w wx.drew g m O R c := h.step (CStep.refl h.cs.cur).drew
theorem CSt.far (h : CSt w wx g m O R c) {q : Nat} (hq : O < q) (o : Nat) (vs : List Value) : CSt w (wx.setCells q o vs) g m O R c :=
 ⟨h.cs.puts vs o h.hg (by have := h.hO; omega), fun x hx => (h.rs x hx).far vs o (by have := h.hr x hx; omega), h.cb.far vs o (by omega), h.hr, h.hO, h.hg, h.hf⟩
theorem CSt.one (h : CSt w wx g m O R c) (i : Nat) (x : Value) {c' : Cst} (hc : (csC c.b c.d c.p c.n).toArray.setIfInBounds i x = (csC c'.b c'.d c'.p c'.n).toArray) (hf : c'.fit) : CSt w (wx.setCell ⟨O, i, none⟩ x) g m O R c' :=
 ⟨h.cs.store h.hg (p := ⟨O, i, none⟩) h.hO _, fun y hy => (h.rs y hy).other (p := ⟨O, i, none⟩) (by show y.1 ≠ O; have := h.hr y hy; omega) _, hc ▸ h.cb.set i x, h.hr, h.hO, h.hg, hf⟩
theorem CSt.put (h : CSt w wx g m O R c) {c' : Cst} (hf : c'.fit) : CSt w (wx.setCells O 0 (csC c'.b c'.d c'.p c'.n)) g m O R c' :=
 ⟨h.cs.puts _ 0 h.hg h.hO, fun x hx => (h.rs x hx).far _ 0 (by have := h.hr x hx; omega), h.cb.putC h.hf.hb hf.hb, h.hr, h.hO, h.hg, hf⟩
theorem CSt.mono (h : CSt w wx g m O R c) (hm : m ≤ m') : CSt w wx g m' O R c := ⟨h.cs.mono hm, h.rs, h.cb, h.hr, h.hO, h.hg, h.hf⟩
theorem CSt.log (h : CSt w wx g m O R c) {d' p' : ByteArray} {n' : Int} (hf : (⟨c.b, d', p', n'⟩ : Cst).fit) : CSt w (((wx.setCell ⟨O, 19, none⟩ (.string d')).setCell ⟨O, 20, none⟩ (.string p')).setCell ⟨O, 21, none⟩ (.int .i64 n')) g m O R ⟨c.b, d', p', n'⟩ :=
 ((h.one 19 (.string d') (c' := ⟨c.b, d', c.p, c.n⟩) (csC_19 h.hf.hb d') ⟨hf.hb, hf.hd, h.hf.hp⟩).one 20 (.string p') (c' := ⟨c.b, d', p', c.n⟩) (csC_20 hf.hb p') ⟨hf.hb, hf.hd, hf.hp⟩).one 21 (.int .i64 n') (csC_21 hf.hb n') hf
theorem CSt.c18 (h : CSt w wx g m O R c) : ∃ u, wx.cell? ⟨O, 18, none⟩ = some u := there_some (h.cb.there (n := 22) (by simp [csC_len h.hf.hb])) (by omega)
theorem csC_at (hb : c.b.length = 19) : (csC c.b c.d c.p c.n)[19]? = some (.string c.d) ∧ (csC c.b c.d c.p c.n)[20]? = some (.string c.p) ∧ (csC c.b c.d c.p c.n)[21]? = some (.int .i64 c.n) := by
 unfold csC lgC ints; simp [List.getElem?_append, hb]
theorem CSt.c19 (h : CSt w wx g m O R c) : wx.cell? ⟨O, 19, none⟩ = some (.string c.d) := by rw [h.cb.cell 19, List.getElem?_toArray]; exact (csC_at h.hf.hb).1
theorem CSt.c20 (h : CSt w wx g m O R c) : wx.cell? ⟨O, 20, none⟩ = some (.string c.p) := by rw [h.cb.cell 20, List.getElem?_toArray]; exact (csC_at h.hf.hb).2.1
theorem CSt.c21 (h : CSt w wx g m O R c) : wx.cell? ⟨O, 21, none⟩ = some (.int .i64 c.n) := by rw [h.cb.cell 21, List.getElem?_toArray]; exact (csC_at h.hf.hb).2.2
end
theorem exS_let (c : Cst) (hf : c.fit) (line : ByteArray) (hl : line.size ≤ 1048576) : ∃ c' : Cst, c'.fit ∧ ∀ W, Calls Tryz.prog 29 #[.agg (csC c.b c.d c.p c.n).toArray, .string line] W fun e w' => ∃ s, e = .returned (.tuple #[.agg (csC c'.b c'.d c'.p c'.n).toArray, .string s]) ∧ Below W.heap.size W w' := by
 obtain ⟨ok, hi, hd⟩ := ex_det c line
 exact ⟨_, stepV_fit line hf hi.1, fun W => (ExecuteCommandS_c c line W hf hl).mono fun e w' h => ⟨_, hd W e w' h⟩⟩
theorem apS_let (b : List Int) (d p : ByteArray) (n : Int) (hf : (⟨b, d, p, n⟩ : Cst).fit) (c r : ByteArray) (hc : c.size ≤ 1048576) (hr : r.size ≤ 1048576) : ∃ (d' p' : ByteArray) (n' st : Int), (⟨b, d', p', n'⟩ : Cst).fit ∧ (st = 0 → 0 ≤ n ∧ n' = n + 1 ∧ n' ≤ 60) ∧
 ∀ W, Calls Tryz.prog 73 #[.agg #[.string d, .string p, .int .i64 n], .agg #[.string c, .string r]] W fun e w' => e = .returned (.tuple #[.agg #[.string d', .string p', .int .i64 n'], .int .i64 st]) ∧ Below W.heap.size W w' := by
 obtain ⟨d', p', n', st, hD, hdet⟩ := app_det d p n c r
 refine ⟨d', p', n', st, ?_, fun h => ?_, fun W => (AppendRecordS_c d p n c r W hf.hd hf.hp hc hr).mono fun e w' h => hdet W e w' h⟩
 · by_cases h : st = 0
   · obtain ⟨es, _, hv⟩ := hD.yes h
     have := hv.sz
     rw [List.length_append, ba_len, ba_len] at this
     exact ⟨hf.hb, by show d'.size ≤ _; omega, by show p'.size ≤ _; omega⟩
   · obtain ⟨rfl, rfl, rfl⟩ := hD.no h
     exact hf
 · obtain ⟨es, h1, h2⟩ := hD.yes h
   have a := h1.cnt
   have b := h2.cnt
   have c := h2.le
   rw [List.length_append] at b c
   simp only [List.length_cons, List.length_nil] at b c
   omega
set_option maxHeartbeats 16000000 in
theorem console_c (g m : Nat) (w : World) (h : CurAt w g m) (hm : m + 1000 < 4611686018427387904) :
 Calls Tryz.prog 79 #[.pointer (some ⟨g, 0, none⟩)] w (DrawC w g (m + 1000)) := by
 have hga := h.lt
 have T0 : Hid (Bk (w.alloc (.cells zCA 31)) w.heap.size 31 (csC zeroI ByteArray.empty ByteArray.empty 0).toArray) := Bk.new w 31 zCA
 have HC := hid ((CStep.refl h).alloc (.cells zCA 31))
 clear h
 unfold DrawC
 unfold zCA at *
 go_enter Tryz.func79, Tryz.ntmps79
 go_wp2_with fail
 refine (bench_c g m _ HC.out.cur (by omega)).mono ?_
 rintro e w1 ⟨b0, hb0, rfl, hs⟩
 replace HC := hid (HC.out.trans hs)
 replace T0 := hid (T0.out.step hs (by omega))
 clear hs
 go_wp2_with fail
 refine (sNewConsole_c b0 _ hb0).mono ?_
 rintro e w2 ⟨rfl, hb⟩
 have hl : (ncB b0).length = 19 := by unfold ncB; split; exact hb0; exact zero_len
 unfold ncV
 generalize ncB b0 = b1 at *
 generalize goodB b0 = okb at *
 have R2 : Bk (w2.alloc (.cells zCA 31)) w2.heap.size 31 (csC zeroI ByteArray.empty ByteArray.empty 0).toArray := Bk.new w2 31 zCA
 have rt := R2.there (n := 22) (by simp [csC_len zero_len])
 have HB : Hid (CSt w ((w2.alloc (.cells zCA 31)).setCells w2.heap.size 0 (csC b1 ByteArray.empty ByteArray.empty 0)) g (m + 420) w2.heap.size [(w.heap.size, 31, (csC zeroI ByteArray.empty ByteArray.empty 0).toArray)] ⟨b1, ByteArray.empty, ByteArray.empty, 0⟩) := by
  have h2 := (T0.out.below hb).lt
  exact ⟨((HC.out.below hb).alloc _).puts _ 0 hga (by omega), fun x hx => by rw [List.mem_singleton] at hx; subst hx; exact ((T0.out.below hb).alloc _).far _ 0 (by omega), R2.putC zero_len hl, fun x hx => by rw [List.mem_singleton] at hx; subst hx; exact ⟨by show w.heap.size ≠ g; omega, h2⟩, by omega, hga, ⟨hl, by show 0 ≤ _; omega, by show 0 ≤ _; omega⟩⟩
 clear hb HC T0 R2
 have HRB := hid (fun (wx : World) (m' O' : Nat) (c' : Cst) (h : CSt w wx g m' O' [(w.heap.size, 31, (csC zeroI ByteArray.empty ByteArray.empty 0).toArray)] c') => h.rs _ (List.mem_singleton.2 rfl))
 generalize [(w.heap.size, 31, (csC zeroI ByteArray.empty ByteArray.empty 0).toArray)] = R at *
 unfold zCA at *
 go_wp2_with (refine wpList_storeC rfl _ _ rfl _ b1 ByteArray.empty ByteArray.empty 0 rfl rfl ?_ hl ?_; exact rt)
 generalize hO : w2.heap.size = O at *
 generalize World.setCells _ O 0 _ = w3 at *
 clear rt hO
 refine (pick_c 6 g _ _ HB.out.cs.cur (by omega)).mono ?_
 rintro e w4 ⟨x, rfl, hx, hs⟩
 replace HB := hid (HB.out.step hs)
 obtain ⟨n, rfl⟩ := Int.eq_ofNat_of_zero_le hx.1
 have hn : n ≤ 5 := by have := hx.2 (by omega); omega
 clear hs hx
 go_upto_block 0 with fail
 go_cut [5] (fun s5 wx => ∃ c, CSt w wx g (m + 600) O R c)
 case first =>
  go_wp2
  go_loopw [5] (fun j wr => ∃ (k : Nat) (c : Cst), k ≤ 5 ∧ j = .int .i64 (k : Int) ∧ Hid (CSt w wr g (m + 430 + 30 * (5 - k)) O R c)) (fun j _ => (intOf j).toNat)
  case atStart => exact ⟨n, _, hn, rfl, HB.out.mono (by omega)⟩
  case round =>
   obtain ⟨k, c, hk, rfl, HR⟩ := hrel
   clear HB
   rcases hgo : (decide (0 < k) && okb) with _ | _
   rotate_left
   · simp only [Bool.and_eq_true, decide_eq_true_eq] at hgo
     obtain ⟨hk0, rfl⟩ := hgo
     have hl := HR.out.hf.hb
     have hd : decide (0 < (k : Int)) = true := by simp; omega
     have HJ := hid (fun M W h1 h2 => line12_c g M W h1 h2)
     have HD := hid (fun (t : ByteArray) (ht : t.size ≤ 100) => exS_let c HR.out.hf t (by omega))
     unfold DrawTx at HJ
     go_upto_region 5 with fail
     go_cut [6, 7] (fun s6 s7 wx => ∃ (q : Nat) (s : ByteArray) (c' : Cst), s6 = .pointer (some ⟨q, 0, none⟩) ∧ s7 = .string s ∧ c'.fit ∧ Hid (Bk wx q 31 (csC c'.b c'.d c'.p c'.n).toArray) ∧ Hid (CSt w wx g (m + 430 + 30 * (5 - (k - 1))) O R c))
     case first =>
      have F := HR.out.drew
      clear HR
      refine wp_region_held_drew (S := fun w' : World => Bk w' O 31 (csC c.b c.d c.p c.n).toArray) (by kernel_rfl) F.cb (fun hHeld => ?_)
      generalize World.drew _ = wd at *
      refine' tkL 0 hHeld (cs := csC c.b c.d c.p c.n) (fun w' (h : Bk w' O 31 (csC c.b c.d c.p c.n).toArray) => h.range) Tryz.underlying31 (by rw [csC_len hl]; kernel_rfl) ?_
      refine' tkZ 1 hHeld ?_
      repeat' first
       | refine' tkZ 4 hHeld ?_
       | refine' tkZ 5 hHeld ?_
       | refine' tkZ 6 hHeld ?_
       | refine' tkZ 9 hHeld ?_
       | (refine wpAnyH_done (by decide +kernel) ?_ _
          go_wp2_with fail
          go_meet
          exact ⟨_, _, _, rfl, rfl, hY, A, F.mono (by omega)⟩)
       | (refine rdyS [8] (rdy ?_ .nil)
          intro K hK
          rw [if_pos (by rfl)]
          refine wp_store_mid _ _ _ rfl _ _ (csC c'.b c'.d c'.p c'.n).toArray rfl rfl (A.there (by simp [csC_len hY.hb, csC_len zero_len])) (by simp only [List.size_toArray, csC_len hY.hb]; kernel_rfl) (all_oneCell_toArray csC_one) ?_
          rw [List.toList_toArray]
          replace A := A.putC (b := zeroI) (d2 := c'.d) (p2 := c'.p) (n2 := c'.n) zero_len hY.hb
          replace F := F.far hq 0 (csC c'.b c'.d c'.p c'.n)
          generalize World.setCells _ _ _ _ = wd at *
          refine hK.out _ _ F.cb fun hHeld => nrm ?_
          clear hK K)
       | ((first
            | refine rdyS [2, 7] (rdy ?_ (rdy ?_ .nil))
            | refine rdyS [3, 7] (rdy ?_ (rdy ?_ .nil))
            | refine rdyS [7] (rdy ?_ .nil)
            | refine rdyS [2] (rdy ?_ .nil)
            | refine rdyS [3] (rdy ?_ .nil)) <;>
          (intro K hK
           go_simp
           first
            | (with_reducible refine (HJ.out _ _ F.cs.cur ?_).mono ?_
               · omega
               rintro e wd ⟨t, rfl, ht, hs⟩
               replace F := F.step hs
               try replace A := A.step hs (by have := F.hg; have := F.hO; omega))
            | (obtain ⟨c', hY, HC⟩ := HD.out t ht
               with_reducible refine (HC _).mono ?_
               clear HC
               rintro e wd ⟨s, rfl, hb2⟩
               replace F := F.below hb2
               try replace A := A.below hb2)
            | (have A : Bk (wd.alloc (.cells zCA 31)) wd.heap.size 31 (csC zeroI ByteArray.empty ByteArray.empty 0).toArray := Bk.new wd 31 zCA
               have hq := F.cb.lt
               replace F := F.alloc (.cells zCA 31)
               unfold zCA at *
               generalize wd.heap.size = q at *
               generalize World.alloc _ _ = wd at *)
           refine hK.out _ _ F.cb fun hHeld => nrm ?_
           clear hK K))
     case rest =>
      obtain ⟨q, s, c', rfl, rfl, hY, AC, HF⟩ := hcut
      clear HR HJ HD
      have ar := AC.out.range
      have rt := HF.out.cb.there (n := 22) (by simp [csC_len hl])
      have HF2 := hid (HF.out.put hY)
      have hYb := hY.hb
      go_wp2_with (first | (refine wpList_loadC rfl _ rfl _ rfl _ _ _ _ ar hYb ?_) | (refine wpList_storeC rfl _ _ rfl _ c'.b c'.d c'.p c'.n rfl rfl rt hYb ?_))
      go_roundw
      case rel => exact ⟨k - 1, c', by omega, by go_num, HF2.out⟩
      case measure => simp [intOf]; omega
   · have HF : Hid (∃ c, CSt w wr g (m + 600) O R c) := ⟨c, HR.out.mono (by omega)⟩
     clear HR
     go_wp2_with fail
     all_goals first | (go_meet; exact HF.out) | (exfalso; simp_all; done)
 case rest =>
  obtain ⟨c, hb⟩ := hcut
  replace HB := hid hb
  clear hb
  go_wp2_with fail
  refine (pick_c 40 g _ _ HB.out.cs.cur (by omega)).mono ?_
  rintro e w5 ⟨y, rfl, _, hs⟩
  replace HB := hid (HB.out.step hs)
  clear hs
  go_upto_block 2 with fail
  go_cut [8, 9] (fun s8 s9 wx => ∃ c, CSt w wx g (m + 900) O R c)
  case first =>
   have z19 := HB.out.c19
   have z20 := HB.out.c20
   have z21 := HB.out.c21
   obtain ⟨u18, z18⟩ := HB.out.c18
   have f18 := HB.out.cb.frozen 18
   have f19 := HB.out.cb.frozen 19
   have f20 := HB.out.cb.frozen 20
   have f21 := HB.out.cb.frozen 21
   go_wp2_with fail
   all_goals first
    | (go_meet; exact ⟨_, HB.out.mono (by omega)⟩)
    | (go_meet; exact ⟨_, (HB.out.one 18 (.int .i64 (-1)) (c' := ⟨c.b.set 18 (-1), c.d, c.p, c.n⟩) (csC_18 HB.out.hf.hb _) ⟨by show (c.b.set 18 (-1)).length = 19; rw [List.length_set]; exact HB.out.hf.hb, HB.out.hf.hd, HB.out.hf.hp⟩).mono (by omega)⟩)
    | (go_meet; exact ⟨_, (HB.out.log (d' := ⟨#[]⟩) (p' := ⟨#[]⟩) (n' := 0) ⟨HB.out.hf.hb, by show 0 ≤ _; omega, by show 0 ≤ _; omega⟩).mono (by omega)⟩)
    | (go_meet; exact ⟨_, (HB.out.one 21 (.int .i64 (wrap64 (c.n + 1))) (c' := ⟨c.b, c.d, c.p, wrap64 (c.n + 1)⟩) (csC_21 HB.out.hf.hb _) ⟨HB.out.hf.hb, HB.out.hf.hd, HB.out.hf.hp⟩).mono (by omega)⟩)
    | skip
   obtain rfl : y = 3 := by simpa using ‹(y == 3) = true›
   go_loopw [8, 9] (fun _ _ wr => ∃ (j : Nat) (c : Cst), (j = 0 ∨ ((j : Int) ≤ c.n ∧ c.n ≤ 60)) ∧ Hid (CSt w wr g (m + 602 + 2 * j) O R c)) (fun _ _ wr => (60 - intOf ((wr.cell? ⟨O, 21, none⟩).getD (.int .i64 60))).toNat)
   case atStart => exact ⟨0, c, .inl rfl, HB.out⟩
   case round =>
    clear z18 z19 z20 z21 f18 f19 f20 f21 HB
    obtain ⟨j, c, hj, HR⟩ := hrel
    have hj2 : j ≤ 60 := by omega
    have zwr := HR.out.c21
    have z21 := zwr
    go_upto_region 15 with fail
    have F := HR.out.drew
    refine wp_region_held_drew (S := fun w' : World => w'.cell? ⟨O, 21, none⟩ = some (.int .i64 c.n)) (by kernel_rfl) z21 (fun hHeld => ?_)
    clear HR
    generalize World.drew _ = wd at *
    refine' tkZ 0 hHeld ?_
    refine' tkZ 1 hHeld ?_
    refine' tkZ 2 hHeld ?_
    refine' tkZ 3 hHeld ?_
    refine rdyS [4] (rdy ?_ .nil)
    intro K hK
    go_simp
    refine (pick_c 2 g _ _ F.cs.cur (by omega)).mono ?_
    rintro e w6 ⟨x, rfl, hx, hs⟩
    have HF := hid (F.step hs)
    have x0 := hx.1
    have x1 := hx.2 (by omega)
    have z21 := HF.out.c21
    clear F hs hx
    refine hK.out _ _ z21 fun hHeld => nrm ?_
    clear hK K
    refine' tkZ 5 hHeld ?_
    refine' tkZ 6 hHeld ?_
    refine wpAnyH_done (by decide +kernel) ?_ _
    have z19 := HF.out.c19
    have z20 := HF.out.c20
    obtain ⟨d', p', n', st, hf', hst, HA⟩ := apS_let c.b c.d c.p c.n HF.out.hf ⟨#[98, 97, 114, 115]⟩ ⟨#[63]⟩ (by decide) (by decide)
    replace HA := hid HA
    go_wp2_with fail
    all_goals first
     | (go_meet; exact ⟨_, HF.out.mono (by omega)⟩)
     | skip
    refine (HA.out _).mono ?_
    rintro e w7 ⟨rfl, hb⟩
    have H8 := hid ((HF.out.below hb).alloc (.cells #[.string d', .string p', .int .i64 n'] 29))
    clear hb HA z19 z20 z21 HF
    have z19 := H8.out.c19
    have z20 := H8.out.c20
    have z21 := H8.out.c21
    have f19 := H8.out.cb.frozen 19
    have f20 := H8.out.cb.frozen 20
    have f21 := H8.out.cb.frozen 21
    rcases hs0 : (st == 0) with _ | _
    · have hs1 : (st != 0) = true := by simp [bne, hs0]
      go_wp2_with fail
      go_meet
      exact ⟨_, H8.out.mono (by omega)⟩
    · obtain rfl : st = 0 := by simpa using hs0
      replace hst := hid (hst rfl)
      have H9 := hid (H8.out.log hf')
      have y21 := hid H9.out.c21
      clear H8
      go_wp2
      go_roundw
      case rel =>
       (repeat apply Exists.intro)
       exact ⟨⟨j + 1, ⟨c.b, d', p', n'⟩, .inr (by show ((j + 1 : Nat) : Int) ≤ n' ∧ n' ≤ 60; have := hst.out; omega), H9.out.mono (by omega)⟩, rfl⟩
      case measure =>
       rw [y21.out, zwr]
       show (60 - n').toNat < (60 - c.n).toNat
       have := hst.out
       omega
  case rest =>
   obtain ⟨c, hb⟩ := hcut
   have ra := hb.cb.range
   have HRB2 := HRB.out _ _ _ _ hb
   have rt := HRB2.there (n := 22) (by simp [csC_len zero_len])
   have rc := loadVarC (HRB2.putC (b2 := c.b) (d2 := c.d) (p2 := c.p) (n2 := c.n) zero_len hb.hf.hb).range hb.hf.hb
   have rd := hid (hb.cs.puts (csC c.b c.d c.p c.n) (g2 := w.heap.size) 0 hga (by omega))
   have hf := hb.hf
   have hfb := hf.hb
   clear hb HB HRB2 HRB
   go_wp2_with (first | (refine wpList_loadC rfl _ rfl _ rfl c.b c.d c.p c.n ?_ hfb ?_; exact ra) | (refine wpList_storeC rfl _ _ rfl _ c.b c.d c.p c.n rfl rfl ?_ hfb ?_; exact rt))
   exact bodyPost_ret (v := .agg (csC c.b c.d c.p c.n).toArray) (res_cell Tryz.results79 rfl rc) rfl ⟨c, hf, rfl, rd.out.mono (by omega)⟩
end Go.Proofs.YtohgjfdbnkjefaaGreatDoor
namespace Go.Proofs.YtohgjfdbnkjefaaGreatDoor
open Go.RowKit
set_option linter.unusedVariables false
set_option linter.unusedSimpArgs false
set_option maxRecDepth 100000
def zerC : List Value := csC zeroI ByteArray.empty ByteArray.empty 0
theorem zerC_len : zerC.length = 22 := csC_len zero_len _ _ _
theorem Bk.newC (w : World) : Bk (w.alloc (.cells zCA 31)) w.heap.size 31 zerC.toArray := Bk.new w 31 zCA
theorem Bk.putZ {w : World} {g t : Nat} (h : Bk w g t zerC.toArray) {c : Cst} (hf : c.fit) : Bk (w.setCells g 0 (csC c.b c.d c.p c.n)) g t (csC c.b c.d c.p c.n).toArray := Bk.putC h zero_len hf.hb
theorem Bk.thereZ {w : World} {g t : Nat} (h : Bk w g t zerC.toArray) : w.there g 0 22 := h.there (by simp [zerC_len])
set_option maxHeartbeats 4000000 in
theorem DrawIsValidConsole_c (v : Value) (xs : List Nat) (w : World) (h : Code w v xs) :
 Calls Tryz.prog 39 #[v] w fun e w' => ∃ c : Cst, c.fit ∧ e = .returned (.agg (csC c.b c.d c.p c.n).toArray) ∧ Below w.heap.size w w' := by
 have B0 := below_one (w := w) (.cells zCA 31)
 have HK := hid (cur_new (h.below B0))
 have BW := hid B0
 obtain ⟨a, c, rfl, _⟩ := h
 have R1 := hid ((Bk.newC w).alloc (.cells #[.slice a xs.length c, .int .i64 0, .int .u64 0] 83))
 simp only [World.size_alloc] at HK
 clear B0
 unfold zCA at *
 go_enter Tryz.func39, Tryz.ntmps39
 go_wp2_with fail
 refine (console_c (w.heap.size + 1) 0 _ HK.out (by omega)).mono ?_
 rintro e w1 ⟨c, hf, rfl, hs⟩
 have HB : Hid (Below w.heap.size w w1) := BW.out.trans (((below_one (w := w.alloc (.cells zCA 31)) _).mono (by first | (simp; done) | (simp; omega))).trans (hs.low (by omega) (by first | (simp; done) | (simp; omega))))
 have R2 := R1.out.step hs (by omega)
 have rt := R2.thereZ
 have L1 := loadVarC (R2.putZ hf).range hf.hb
 have HB2 := hid (below_cells (csC c.b c.d c.p c.n) w1 w.heap.size 0 HB.out (Nat.le_refl _))
 have hfb := hf.hb
 clear hs R1 R2 HK BW
 go_wp2_with (refine wpList_storeC rfl _ _ rfl _ c.b c.d c.p c.n rfl rfl ?_ hfb ?_; exact rt)
 exact bodyPost_ret (v := .agg (csC c.b c.d c.p c.n).toArray) (res_cell Tryz.results39 rfl L1) rfl ⟨c, hf, rfl, HB2.out⟩
set_option maxHeartbeats 2000000 in
theorem DrawNewConsole_c (v : Value) (xs : List Nat) (w : World) (h : Code w v xs) :
 Calls Tryz.prog 37 #[v] w fun e w' => ∃ b : List Int, b.length = 19 ∧ e = .returned (.agg (ints b).toArray) ∧ Below w.heap.size w w' := by
 have B0 := below_one (w := w) (.cells zBA 26)
 have HK := hid (h.below B0)
 have BW := hid B0
 have R1 := hid (Bk.new w 26 zBA)
 obtain ⟨a, c, rfl, _⟩ := h
 clear B0
 unfold zBA at *
 go_enter Tryz.func37, Tryz.ntmps37
 go_wp2_with fail
 refine (DrawIsBench_c _ xs _ HK.out).mono ?_
 rintro e w1 ⟨b, hl, rfl, hb⟩
 have HB := Below.chain BW.out hb
 have R2 := R1.out.below hb
 have rt := R2.there (n := 19) (by decide)
 have L1 := loadVarB (R2.putB (b := zeroI) zero_len hl).range hl
 have HB2 := hid (below_cells (ints b) w1 w.heap.size 0 HB (Nat.le_refl _))
 clear hb R1 R2 HK BW HB
 unfold aggI
 go_wp2_with (refine wpList_storeB rfl _ _ rfl _ b rfl rfl ?_ hl ?_; exact rt)
 exact bodyPost_ret (v := .agg (ints b).toArray) (res_cell Tryz.results37 rfl L1) rfl ⟨b, hl, rfl, HB2.out⟩
theorem CSt.start {w w1 : World} {g m : Nat} {c : Cst} (hf : c.fit) (hs : CStep w w1 g m) (hg : g < w.heap.size) {R : List (Nat × Nat × Array Value)} (hR : ∀ x ∈ R, x.1 ≠ g ∧ Bk w1 x.1 x.2.1 x.2.2) : CSt w ((w1.alloc (.cells zCA 31)).setCells w1.heap.size 0 (csC c.b c.d c.p c.n)) g m w1.heap.size R c :=
 ⟨(hs.alloc _).puts _ 0 hg hs.gr.size, fun x hx => ((hR x hx).2.alloc _).far _ 0 (by have := (hR x hx).2.lt; omega), (Bk.newC w1).putZ hf, fun x hx => ⟨(hR x hx).1, (hR x hx).2.lt⟩, hs.gr.size, hg, hf⟩
set_option maxHeartbeats 4000000 in
theorem DrawRunScript_c (v : Value) (xs : List Nat) (w : World) (h : Code w v xs) :
 Calls Tryz.prog 46 #[v] w fun e w' => ∃ (c : Cst) (s : ByteArray), c.fit ∧ s.size ≤ 10000 ∧ e = .returned (.tuple #[.agg (csC c.b c.d c.p c.n).toArray, .string s]) ∧ Below w.heap.size w w' := by
 have B0 := below_one (w := w) (.cells zCA 31)
 have HK := hid (cur_new (h.below B0))
 have BW := hid B0
 obtain ⟨a, c, rfl, _⟩ := h
 have R1 := hid ((Bk.newC w).alloc (.cells #[.slice a xs.length c, .int .i64 0, .int .u64 0] 83))
 simp only [World.size_alloc] at HK
 have HBW := hid (Below.chain BW.out (below_one (w := w.alloc (.cells zCA 31)) (.cells #[.slice a xs.length c, .int .i64 0, .int .u64 0] 83)))
 have hsz := hid (show ((w.alloc (.cells zCA 31)).alloc (.cells #[.slice a xs.length c, .int .i64 0, .int .u64 0] 83)).heap.size = w.heap.size + 2 by simp)
 clear B0 BW
 go_enter Tryz.func46, Tryz.ntmps46
 go_upto_region 2 with fail
 unfold zCA at *
 generalize World.alloc _ (.cells #[.slice a xs.length c, .int .i64 0, .int .u64 0] 83) = W0 at *
 go_wp2_with fail
 refine (console_c (w.heap.size + 1) 0 W0 HK.out (by omega)).mono ?_
 rintro e w1 ⟨c, hf, rfl, hs⟩
 have HC := hid (CSt.start (R := [(w.heap.size, 31, zerC.toArray)]) hf hs (by have := hsz.out; omega) (fun x hx => by rw [List.mem_singleton] at hx; subst hx; exact ⟨by show w.heap.size ≠ w.heap.size + 1; omega, R1.out.step hs (by omega)⟩))
 have HRB := hid (fun (wx : World) (m' O' : Nat) (c' : Cst) (h : CSt W0 wx (w.heap.size + 1) m' O' [(w.heap.size, 31, zerC.toArray)] c') => h.rs _ (List.mem_singleton.2 rfl))
 generalize [(w.heap.size, 31, zerC.toArray)] = R at *
 have rt := (Bk.newC w1).thereZ
 have hfb := hf.hb
 clear hs HK R1
 unfold zCA at *
 go_wp2_with (refine wpList_storeC rfl _ _ rfl _ c.b c.d c.p c.n rfl rfl ?_ hfb ?_; exact rt)
 generalize hO : w1.heap.size = O at *
 generalize World.setCells _ O 0 _ = w2 at *
 clear rt hO
 refine (line12_c _ _ _ HC.out.cs.cur (by omega)).mono ?_
 rintro e w3 ⟨s, rfl, hl, hs⟩
 replace HC := hid (HC.out.step hs)
 clear hs
 have HI := hid (ints_lit w3 [0, 1, 2, 3, 4, 5, 6, 7, 30] (by decide))
 have hgw := HC.out.cs.cur.lt
 replace HC := hid (HC.out.alloc (.cells #[.int .i64 0, .int .i64 1, .int .i64 2, .int .i64 3, .int .i64 4, .int .i64 5, .int .i64 6, .int .i64 7, .int .i64 30] 3))
 go_wp2_with fail
 refine (pick_c 24 _ _ _ HC.out.cs.cur (by omega)).mono ?_
 rintro e w4 ⟨x, rfl, hx, hs⟩
 replace HC := hid (HC.out.step hs)
 replace HI := hid (HI.out.grown hs.gr (.inr (by simp [Value.ownBlock]; omega)))
 obtain ⟨k, rfl⟩ := Int.eq_ofNat_of_zero_le hx.1
 have hk : k < 24 := by have := hx.2 (by omega); omega
 clear hs hx
 go_wp2_with fail
 have HI2 := hid (Ints.take HI.out (k := 8 + k / 23) (by show 8 + k / 23 ≤ 9; omega))
 have hlen : (([0, 1, 2, 3, 4, 5, 6, 7, 30] : List Int).take (8 + k / 23)).length = 8 + k / 23 := by rw [List.length_take]; show min (8 + k / 23) 9 = _; omega
 have HA := hid (among_c _ _ _ _ _ HC.out.cs.cur (by omega) HI2.out (by simp [Value.ownBlock]; omega) (by rw [hlen]; omega))
 clear hlen HI2 HI
 refine HA.out.mono ?_
 rintro e w5 ⟨x, rfl, hx, hs⟩
 replace HC := hid (HC.out.step hs)
 have hx2 : 0 ≤ x ∧ x ≤ 30 := by
  have := List.mem_of_mem_take hx
  simp only [List.mem_cons, List.not_mem_nil, or_false] at this
  omega
 obtain ⟨n, rfl⟩ := Int.eq_ofNat_of_zero_le hx2.1
 have hn : n ≤ 30 := by omega
 clear hs hx hx2 HA
 go_wp2
 go_loopw [6, 7] (fun t j wr => ∃ (k : Nat) (tx : ByteArray), k ≤ 30 ∧ j = .int .i64 (k : Int) ∧ t = .string tx ∧ tx.size ≤ 100 + 101 * (30 - k) ∧ Hid (CSt W0 wr (w.heap.size + 1) (1034 + 30 * (30 - k)) O R c)) (fun _ j _ => (intOf j).toNat)
 case atStart => exact ⟨n, s, hn, rfl, rfl, by omega, HC.out.mono (by omega)⟩
 case round =>
  obtain ⟨k, tx, hk, rfl, rfl, hsz2, HR⟩ := hrel
  clear HC
  by_cases hk0 : 0 < k
  · have hd : decide (0 < (k : Int)) = true := by simp; omega
    go_wp2_with fail
    refine (line12_c _ _ _ HR.out.cs.cur (by omega)).mono ?_
    rintro e w6 ⟨u, rfl, hu, hs⟩
    replace HR := hid (HR.out.step hs)
    clear hs
    go_wp2
    go_roundw
    case rel => exact ⟨k - 1, _, by omega, by go_num, rfl, by simp only [ByteArray.size_append, sizeL, List.size_toArray, List.length_cons, List.length_nil]; omega, HR.out.mono (by omega)⟩
    case measure => simp [intOf]; omega
  · have hd : decide (0 < (k : Int)) = false := by simp; omega
    have ra := HR.out.cb.range
    have HRB2 := HRB.out _ _ _ _ HR.out
    have rt := HRB2.thereZ
    have L1 := loadVarC (HRB2.putZ hf).range hfb
    have HB2 := hid (below_cells (csC c.b c.d c.p c.n) wr w.heap.size 0 (HBW.out.trans (HR.out.cs.low (by omega) (by have := hsz.out; omega))) (Nat.le_refl _))
    clear HR HRB2 HRB
    go_wp2_with (first | (refine wpList_loadC rfl _ rfl _ rfl c.b c.d c.p c.n ?_ hfb ?_; exact ra) | (refine wpList_storeC rfl _ _ rfl _ c.b c.d c.p c.n rfl rfl ?_ hfb ?_; exact rt))
    exact bodyPost_ret (v := .tuple #[.agg (csC c.b c.d c.p c.n).toArray, .string tx]) (res_cell2 Tryz.results46 rfl L1) rfl ⟨c, tx, hf, by omega, rfl, HB2.out⟩
set_option maxHeartbeats 4000000 in
theorem DrawExecuteCommand_c (v : Value) (xs : List Nat) (w : World) (h : Code w v xs) :
 Calls Tryz.prog 41 #[v] w fun e w' => ∃ (c : Cst) (s : ByteArray), c.fit ∧ s.size ≤ 100 ∧ e = .returned (.tuple #[.agg (csC c.b c.d c.p c.n).toArray, .string s]) ∧ Below w.heap.size w w' := by
 have B0 := below_one (w := w) (.cells zCA 31)
 have HK := hid (cur_new (h.below B0))
 have BW := hid B0
 obtain ⟨a, c, rfl, _⟩ := h
 have R1 := hid ((Bk.newC w).alloc (.cells #[.slice a xs.length c, .int .i64 0, .int .u64 0] 83))
 simp only [World.size_alloc] at HK
 have HBW := hid (Below.chain BW.out (below_one (w := w.alloc (.cells zCA 31)) (.cells #[.slice a xs.length c, .int .i64 0, .int .u64 0] 83)))
 have hsz := hid (show ((w.alloc (.cells zCA 31)).alloc (.cells #[.slice a xs.length c, .int .i64 0, .int .u64 0] 83)).heap.size = w.heap.size + 2 by simp)
 clear B0 BW
 go_enter Tryz.func41, Tryz.ntmps41
 go_upto_region 2 with fail
 unfold zCA at *
 generalize World.alloc _ (.cells #[.slice a xs.length c, .int .i64 0, .int .u64 0] 83) = W0 at *
 go_wp2_with fail
 refine (console_c (w.heap.size + 1) 0 W0 HK.out (by omega)).mono ?_
 rintro e w1 ⟨c, hf, rfl, hs⟩
 have HC := hid (CSt.start (R := [(w.heap.size, 31, zerC.toArray)]) hf hs (by have := hsz.out; omega) (fun x hx => by rw [List.mem_singleton] at hx; subst hx; exact ⟨by show w.heap.size ≠ w.heap.size + 1; omega, R1.out.step hs (by omega)⟩))
 have HRB := hid (fun (wx : World) (m' O' : Nat) (c' : Cst) (h : CSt W0 wx (w.heap.size + 1) m' O' [(w.heap.size, 31, zerC.toArray)] c') => h.rs _ (List.mem_singleton.2 rfl))
 generalize [(w.heap.size, 31, zerC.toArray)] = R at *
 have rt := (Bk.newC w1).thereZ
 have hfb := hf.hb
 clear hs HK R1
 unfold zCA at *
 go_upto_region 3 with (refine wpList_storeC rfl _ _ rfl _ c.b c.d c.p c.n rfl rfl ?_ hfb ?_; exact rt)
 generalize hO : w1.heap.size = O at *
 generalize World.setCells _ O 0 _ = w2 at *
 clear rt hO
 have F := HC.out.drew
 clear HC
 refine wp_region_held_drew (S := fun w' : World => Bk w' O 31 (csC c.b c.d c.p c.n).toArray) (by kernel_rfl) F.cb (fun hHeld => ?_)
 generalize World.drew _ = wd at *
 refine' tkL 0 hHeld (cs := csC c.b c.d c.p c.n) (fun w' (h : Bk w' O 31 (csC c.b c.d c.p c.n).toArray) => h.range) Tryz.underlying31 (by rw [csC_len hfb]; kernel_rfl) ?_
 refine' tkZ 1 hHeld ?_
 refine rdyS [2] (rdy ?_ .nil)
 intro K hK
 go_simp
 refine (line12_c _ _ _ F.cs.cur (by omega)).mono ?_
 rintro e w3 ⟨s, rfl, hl, hs⟩
 replace F := F.step hs
 refine hK.out _ _ F.cb fun hHeld => nrm ?_
 clear hK K hs
 have RB := HRB.out _ _ _ _ F
 have hBO := RB.lt
 have L1 := loadVarC (RB.putZ hf).range hfb
 have HB2 := hid (below_cells (csC c.b c.d c.p c.n) w3 w.heap.size 0 (HBW.out.trans (F.cs.low (by omega) (by have := hsz.out; omega))) (Nat.le_refl _))
 have hne : w.heap.size < O := by have := F.hO; have := hsz.out; omega
 have FC := F.cb.far (csC c.b c.d c.p c.n) (g2 := w.heap.size) 0 (by omega)
 refine rdyS [3] (rdy ?_ .nil)
 intro K hK
 rw [if_pos (by rfl)]
 refine wp_store_mid _ _ _ rfl _ _ (csC c.b c.d c.p c.n).toArray rfl rfl (RB.there (by simp [csC_len hfb, zerC_len])) (by simp only [List.size_toArray, csC_len hfb]; kernel_rfl) (all_oneCell_toArray csC_one) ?_
 rw [List.toList_toArray]
 refine hK.out _ _ FC fun hHeld => nrm ?_
 clear hK K F RB
 refine' tkZ 4 hHeld ?_
 refine wpAnyH_done (by decide +kernel) ?_ _
 go_wp2
 exact bodyPost_ret (v := .tuple #[.agg (csC c.b c.d c.p c.n).toArray, .string s]) (res_cell2 Tryz.results41 rfl L1) rfl ⟨c, s, hf, hl, rfl, HB2.out⟩
theorem cons_guard : Tryz.prog.eqGuardType Tryz.prog.depth 31 = false := by kernel_rfl
theorem items_sameD (D : Nat) (xs : Array Value) (w : World) : ∀ is : List Nat, (∀ i ∈ is, ∃ x : Int, xs[i]? = some (.int .i64 x)) → (Op.eqItems (D + 1) 3 (Tryz.prog.cellsOf 3) xs xs is).run Tryz.prog w = .ok true w
 | [], _ => rfl
 | i :: is, h => by
  obtain ⟨x, hx⟩ := h i (by simp)
  have hc : Tryz.prog.cellsOf 3 = 1 := by kernel_rfl
  have hp : (part 3 xs (i * Tryz.prog.cellsOf 3)).run Tryz.prog w = .ok (.int .i64 x) w := by
   rw [hc, Nat.mul_one]; exact run_part_plain w (by kernel_rfl) hx
  have he : (Op.equalIn (D + 1) 3 (.int .i64 x) (.int .i64 x)).run Tryz.prog w = .ok (x == x) w := run_equalIn_int w D 3 .i64 .i64 x x Tryz.underlying3
  have ih := items_sameD D xs w is (fun j hj => h j (by simp [hj]))
  simp only [Op.eqItems, Sem.run_bind, hp, Result.andThen_ok, he, beq_self_eq_true, Bool.not_true, Bool.false_eq_true, if_false, ih]
theorem cons_equal {b : List Int} {d p : ByteArray} {n : Int} (hb : b.length = 19) (w : World) : (Op.equalIn 10000 31 (.agg (csC b d p n).toArray) (.agg (csC b d p n).toArray)).run Tryz.prog w = .ok true w := by
 match b, hb with
 | [x0, x1, x2, x3, x4, x5, x6, x7, x8, x9, x10, x11, x12, x13, x14, x15, x16, x17, x18], _ =>
  have hA := fun (d : Nat) (xs ys : Array Value) (w : World) => run_equalIn_array (P := Tryz.prog) w d xs ys (t := 24) Tryz.underlying24 (e := 3) (i := _) rfl
  have hI : ∀ (y0 y1 y2 y3 y4 y5 : Int) (w : World), (Op.eqItems 9997 3 (Tryz.prog.cellsOf 3) #[.int .i64 y0, .int .i64 y1, .int .i64 y2, .int .i64 y3, .int .i64 y4, .int .i64 y5] #[.int .i64 y0, .int .i64 y1, .int .i64 y2, .int .i64 y3, .int .i64 y4, .int .i64 y5] [0, 1, 2, 3, 4, 5]).run Tryz.prog w = .ok true w :=
   fun y0 y1 y2 y3 y4 y5 w => items_sameD 9996 _ w _ (fun i hi => by
    simp only [List.mem_cons, List.not_mem_nil, or_false] at hi
    rcases hi with rfl | rfl | rfl | rfl | rfl | rfl <;> exact ⟨_, rfl⟩)
  simp only [csC, lgC, ints, List.map_cons, List.map_nil, List.cons_append, List.nil_append]
  go_simp
theorem vConsole_c (b : List Int) (d p : ByteArray) (n : Int) (w : World) (hb : b.length = 19) :
 Calls Tryz.prog 42 #[.agg (csC b d p n).toArray, .agg (csC b d p n).toArray] w fun e w' => e = .returned (.bool true) ∧ Below w.heap.size w w' := by
 have r0 := World.rangeAt_alloc (range_new w (csC b d p n) 31) (.cells (csC b d p n).toArray 31)
 have r1 := range_new (w.alloc (.cells (csC b d p n).toArray 31)) (csC b d p n) 31
 have B0 := hid (Below.alc (below_one (w := w) (.cells (csC b d p n).toArray 31)) (.cells (csC b d p n).toArray 31))
 simp only [World.size_alloc] at r1
 have eqC := fun W => cons_equal (b := b) (d := d) (p := p) (n := n) hb W
 have eqG := cons_guard
 go_enter Tryz.func42, Tryz.ntmps42
 go_wp2_with (first | (refine wpList_loadC rfl _ rfl w.heap.size rfl b d p n r0 hb ?_) | (refine wpList_loadC rfl _ rfl (w.heap.size + 1) rfl b d p n r1 hb ?_))
 go_ret
 exact ⟨rfl, B0.out⟩
def SpsOut (t : Bs) (w : World) (e : Ending) (w' : World) : Prop :=
 ∃ v, e = .returned (.tuple #[v, .bool true]) ∧ w'.ownsRow w.heap.size 9 1 v (splitS 10 t).length ((splitS 10 t).map strV) ∧ Below w.heap.size w w'
theorem SplitString_c (s : ByteArray) (w : World) (hs : s.size ≤ 4000) (ht : TabC w) :
 Calls Tryz.prog 48 #[.string s, .string ⟨#[10]⟩] w (SpsOut s.data.toList w) := by
 have HS := hid (Split_c s 10 w (by omega) ht)
 unfold SplOut at HS
 have h40 : decide ((4000 : Int) < (s.size : Int)) = false := by simp; omega
 have h41 : ¬ (4000 : Int) < (s.size : Int) := by omega
 clear ht hs
 go_enter Tryz.func48, Tryz.ntmps48
 go_wp2_with fail
 refine HS.out.mono ?_
 rintro e w1 ⟨v, rfl, ho, hb⟩
 have HO := hid ho
 obtain ⟨a, c, rfl, _⟩ := (Sl.of_own ho).slice
 clear ho
 go_wp2
 exact bodyPost_ret (v := .tuple #[.slice a _ c, .bool true]) (by simp [results, Tryz.results48, go_sem] <;> rfl) rfl ⟨_, rfl, HO.out, hb⟩
theorem Sl.partsT {w : World} {v : Value} {n : Nat} {xs : List Value} (h : Sl w 1 v n xs) : ∃ a c, v = .slice a n c ∧ n ≤ 9223372036854775807 ∧
 Hid (∀ k, k < n → ∃ b off, a = some ⟨b, off, none⟩ ∧ w.cell? ⟨b, off + k, none⟩ = xs[k]?) := by
 obtain ⟨a, c, rfl, h1, h2, h3, h4⟩ := h
 refine ⟨a, c, rfl, by unfold maxLen at h2; omega, fun k hk => ?_⟩
 obtain ⟨b, off, rfl, hc⟩ := h4 (by omega)
 exact ⟨b, off, rfl, hc k (by omega)⟩
set_option maxHeartbeats 1000000 in
theorem vTexts_c (v1 v2 : Value) (es : List Bs) (w : World) (h1 : Sl w 1 v1 es.length (es.map strV)) (h2 : Sl w 1 v2 es.length (es.map strV)) :
 Calls Tryz.prog 47 #[v1, v2] w fun e w' => e = .returned (.bool true) ∧ Below w.heap.size w w' := by
 obtain ⟨a1, c1, rfl, hm1, H1⟩ := h1.partsT
 obtain ⟨a2, c2, rfl, _, H2⟩ := h2.partsT
 obtain ⟨m, hm⟩ : ∃ m, es.length = m := ⟨_, rfl⟩
 have HM := hid hm
 have hlb : ((m : Int) != (m : Int)) = false := by simp
 rw [hm] at H1 H2 hm1 ⊢
 clear h1 h2 hm
 go_enter Tryz.func47, Tryz.ntmps47
 go_wp2
 go_loopw [5] (fun i wr => ∃ k : Nat, k ≤ m ∧ i = .int .i64 k ∧ Below w.heap.size w wr) (fun i _ => m - (intOf i).toNat)
 case atStart => exact ⟨0, by omega, rfl, Below.refl _ _⟩
 case round =>
  obtain ⟨k, hk, rfl, hb⟩ := hrel
  by_cases hlt : k < m
  · have hd : decide ((k : Int) < (m : Int)) = true := by simp; omega
    obtain ⟨e, he⟩ := elem_at (show k < es.length by rw [HM.out]; exact hlt)
    obtain ⟨b1, o1, rfl, f1⟩ := H1.out k hlt
    obtain ⟨b2, o2, rfl, f2⟩ := H2.out k hlt
    rw [List.getElem?_map, he.out] at f1 f2
    have g1 := cell_later hb (show w.cell? ⟨b1, o1 + k, none⟩ = some (.string (bs e)) from f1)
    have g2 := cell_later hb (show w.cell? ⟨b2, o2 + k, none⟩ = some (.string (bs e)) from f2)
    have hb2 := hb.drew
    clear f1 f2 he
    generalize bs e = X at *
    have hse := str_eq (rfl : X = X)
    have hsn : (X.toList != X.toList) = false := by simp
    go_wp2
    go_region
    go_wp2
    go_roundw
    case rel => exact ⟨k + 1, by omega, by go_num, hb2⟩
    case measure => simp [intOf]; omega
  · obtain rfl : k = m := by omega
    have hd : decide ((k : Int) < (k : Int)) = false := by simp
    go_wp2
    go_ret
    exact ⟨rfl, hb⟩
theorem grow_cells : ∀ (vs : List Value) (w : World) (g o : Nat), w.grownBy (w.setCells g o vs) (some g)
 | [], w, g, o => ⟨rfl, rfl, rfl, Nat.le_refl _, fun _ _ _ => rfl⟩
 | v :: t, w, g, o => by
  have h1 : w.grownBy (w.setCell ⟨g, o, none⟩ v) (some g) := ⟨rfl, rfl, rfl, by simp [World.setCell], fun k hk hne => Below.heap_setCell _ _ _ _ (fun e => hne (by rw [e]))⟩
  have h2 := grow_cells t (w.setCell ⟨g, o, none⟩ v) g (o + 1)
  exact ⟨h2.os.trans h1.os, h2.tape.trans h1.tape, h2.output.trans h1.output, Nat.le_trans h1.size h2.size, fun i hi hr => (h2.block i (Nat.lt_of_lt_of_le hi h1.size) hr).trans (h1.block i hi hr)⟩
theorem own_far {w : World} {lo n size : Nat} {e : TypeId} {v : Value} {xs : List Value} (h : w.ownsRow lo e size v n xs) (g o : Nat) (vs : List Value) (hg : g < lo) : (w.setCells g o vs).ownsRow lo e size v n xs :=
 h.kept (grow_cells vs w g o) (by
  cases hb : v.ownBlock with
  | none => exact .inl rfl
  | some k => right; have := (h.lt k hb).1; intro e; injection e with e; omega)
theorem range_block {w w' : World} {g o : Nat} {cs : List Value} (h : w.rangeAt g o cs) (hb : w'.heap[g]? = w.heap[g]?) : w'.rangeAt g o cs := fun j v hv => (World.cell?_of_block (w := w) (a := ⟨g, o + j, none⟩) hb).trans (h j v hv)
theorem there_block {w w' : World} {g o n : Nat} (h : w.there g o n) (hb : w'.heap[g]? = w.heap[g]?) : w'.there g o n := fun j hj => by
 obtain ⟨h1, h2⟩ := h j hj
 exact ⟨by rw [World.cell?_of_block (w := w) (a := ⟨g, o + j, none⟩) hb]; exact h1, by rw [World.frozen?_of_block (w := w) (a := ⟨g, o + j, none⟩) hb]; exact h2⟩
def runOk (ok : Bool) (t : Bs) : Bool := ok && (decide ((splitS 10 t).length ≤ 30) && decide (t.length ≤ 4000))
def runR (ok : Bool) (c : Cst) (t : Bs) : List Bs := if runOk ok t then (runS c (splitS 10 t)).2 else []
def RunOut (c : Cst) (t : Bs) (w : World) (e : Ending) (w' : World) : Prop :=
 ∃ ok v, e = .returned (.tuple #[v, .bool (runOk ok t)]) ∧ (ok = true ↔ c.ok) ∧ w'.ownsRow w.heap.size 9 1 v (runR ok c t).length ((runR ok c t).map strV) ∧ Below w.heap.size w w'
theorem runOut_no {c : Cst} {t : Bs} {w w' : World} {v : Value} (ok : Bool) (h1 : ok = true ↔ c.ok) (h2 : runOk ok t = false) (ho : w'.ownsRow w.heap.size 9 1 v 0 []) (hb : Below w.heap.size w w') : RunOut c t w (.returned (.tuple #[v, .bool false])) w' :=
 ⟨ok, v, by rw [h2], h1, by unfold runR; rw [h2]; exact ho, hb⟩
theorem runOut_yes {c : Cst} {t : Bs} {w w' : World} {v : Value} (h1 : c.ok) (h2 : runOk true t = true) {rs : List Bs} (hr : rs = (runS c (splitS 10 t)).2) (ho : w'.ownsRow w.heap.size 9 1 v rs.length (rs.map strV)) (hb : Below w.heap.size w w') : RunOut c t w (.returned (.tuple #[v, .bool true])) w' :=
 ⟨true, v, by rw [h2], ⟨fun _ => h1, fun _ => rfl⟩, by subst hr; unfold runR; rw [h2]; exact ho, hb⟩
set_option maxHeartbeats 20000000 in
theorem RunScript_c (c : Cst) (tx : ByteArray) (w : World) (hf : c.fit) (hl : tx.size ≤ 1048576) (ht : TabC w) :
 Calls Tryz.prog 33 #[c.val, .string tx] w (RunOut c tx.data.toList w) := by
 obtain ⟨i, hi, hz0, hz1, hz2⟩ := info_parts info_strx
 obtain ⟨b, d, p, n⟩ := c
 obtain ⟨hb, hd, hp⟩ := hf
 have hb : b.length = 19 := hb
 have hd : d.size ≤ 1048576 := hd
 have hp : p.size ≤ 1048576 := hp
 have HT := hid ht
 clear ht
 have hv : Cst.val ⟨b, d, p, n⟩ = .agg (csC b d p n).toArray := rfl
 rw [hv]
 obtain ⟨c, hcc⟩ : ∃ c, Cst.mk b d p n = c := ⟨_, rfl⟩
 rw [hcc]
 have HCC := hid hcc
 have r0 := range_new w (csC b d p n) 31
 have t0 := there_new w (csC b d p n).toArray 31 (n := 22) (by simp [csC_len hb])
 have hb0 := below_one (w := w) (.cells (csC b d p n).toArray 31)
 have hsz : w.heap.size < (w.alloc (.cells (csC b d p n).toArray 31)).heap.size := by simp
 have HV := hid (fun W h => IsValidConsole_c b d p n W hb hd hp h)
 unfold ConsOut consV at HV
 have HK : Hid (∀ ok : Bool, (ok = true ↔ (goodB b = true ∧ ∃ es, ValidL d.data.toList p.data.toList n es)) → (ok = true ↔ c.ok)) := fun ok h => by rw [← hcc]; exact h
 have hwm := split_mem 10 tx.data.toList
 have HPL := split_pos 10 tx.data.toList
 rw [ba_len] at hwm
 obtain ⟨ls, hls⟩ : ∃ ls, splitS 10 tx.data.toList = ls := ⟨_, rfl⟩
 have HSP := hid (fun W h => Split_c tx 10 W hl h)
 unfold SplOut at HSP
 rw [hls] at hwm HSP HPL
 have HLS := hid hls
 obtain ⟨m, hm⟩ : ∃ m, ls.length = m := ⟨_, rfl⟩
 have HM := hid hm
 have HWM := hid hwm
 rw [hm] at HSP
 clear hv hls hwm hm hcc HPL
 go_enter Tryz.func33, Tryz.ntmps33
 go_wp2_with fail
 refine (HSP.out _ (HT.out.on hb0)).mono ?_
 rintro e w1 ⟨v, rfl, ho, hb1⟩
 obtain ⟨va, vc, rfl, hv1, hv2, hv3, hv4⟩ := Sl.of_own ho
 have HLC : Hid (∀ k x, ls[k]? = some x → ∃ vb vo, va = some ⟨vb, vo, none⟩ ∧ w.heap.size < vb ∧ w1.cell? ⟨vb, vo + k, none⟩ = some (.string (bs x))) := fun k x hx => by
  have hlt := (List.getElem?_eq_some_iff.1 hx).1
  obtain ⟨vb, vo, rfl, hvc⟩ := hv4 (by have := HM.out; omega)
  refine ⟨vb, vo, rfl, Nat.lt_of_lt_of_le hsz (ho.lt vb rfl).1, ?_⟩
  rw [hvc k (by have := HM.out; omega), List.getElem?_map, hx]; rfl
 have r1 := range_below r0 hb1
 have t1 := there_below t0 hb1
 have HB1 := hid (Below.chain hb0 hb1)
 have z1 := Nat.lt_of_lt_of_le hsz hb1.size
 clear r0 t0 hb0 hb1 hsz ho hv4 hv3 HSP
 unfold maxLen at hv2
 go_wp2_with (refine wpList_loadC rfl _ rfl _ rfl b d p n r1 hb ?_)
 refine (HV.out _ (HT.out.on HB1.out).pow).mono ?_
 rintro e w2 ⟨ok, rfl, hok, hb1⟩
 have HOK := hid (HK.out ok hok)
 have r2 := range_below r1 hb1
 have t2 := there_below t1 hb1
 have HB2 := hid (Below.chain HB1.out hb1)
 have z2 := Nat.lt_of_lt_of_le z1 hb1.size
 have HLC2 : Hid (∀ k x, ls[k]? = some x → ∃ vb vo, va = some ⟨vb, vo, none⟩ ∧ w.heap.size < vb ∧ w2.cell? ⟨vb, vo + k, none⟩ = some (.string (bs x))) := fun k x hx => by
  obtain ⟨vb, vo, h1, h2, h3⟩ := HLC.out k x hx
  exact ⟨vb, vo, h1, h2, cell_later hb1 h3⟩
 clear r1 t1 HB1 z1 hb1 HLC HV HK hok
 cases ok with
 | false =>
  as_aux_lemma =>
   have HF := hid (fun w' v => runOut_no (w := w) (w' := w') (v := v) (t := tx.data.toList) false HOK.out rfl)
   go_wp2
   exact bodyPost_ret (v := .tuple #[.slice none 0 0, .bool false]) (by simp [results, Tryz.results33, go_sem] <;> rfl) rfl (HF.out _ _ (World.ownsRow_nil _ _ _ _) HB2.out)
 | true =>
  have HOKT : Hid c.ok := HOK.out.1 rfl
  clear HOK
  by_cases h30 : 30 < m
  · as_aux_lemma =>
     have h3 : decide ((30 : Int) < (m : Int)) = true := by simp; omega
     have HF := hid (fun w' v => runOut_no (w := w) (w' := w') (v := v) (t := tx.data.toList) true ⟨fun _ => HOKT.out, fun _ => rfl⟩ (by unfold runOk; rw [HLS.out, HM.out, decide_eq_false (show ¬ m ≤ 30 by omega)]; simp))
     go_wp2
     exact bodyPost_ret (v := .tuple #[.slice none 0 0, .bool false]) (by simp [results, Tryz.results33, go_sem] <;> rfl) rfl (HF.out _ _ (World.ownsRow_nil _ _ _ _) HB2.out)
  have h3 : decide ((30 : Int) < (m : Int)) = false := by simp; omega
  by_cases h40 : 4000 < tx.size
  · as_aux_lemma =>
     have h4 : decide ((4000 : Int) < (tx.size : Int)) = true := by simp; omega
     have HF := hid (fun w' v => runOut_no (w := w) (w' := w') (v := v) (t := tx.data.toList) true ⟨fun _ => HOKT.out, fun _ => rfl⟩ (by unfold runOk; rw [decide_eq_false (show ¬ tx.data.toList.length ≤ 4000 by rw [ba_len]; omega)]; simp))
     go_wp2
     exact bodyPost_ret (v := .tuple #[.slice none 0 0, .bool false]) (by simp [results, Tryz.results33, go_sem] <;> rfl) rfl (HF.out _ _ (World.ownsRow_nil _ _ _ _) HB2.out)
  have h4 : decide ((4000 : Int) < (tx.size : Int)) = false := by simp; omega
  have HRO : Hid (runOk true tx.data.toList = true) := by
   show _ = _
   unfold runOk
   rw [HLS.out, HM.out, decide_eq_true (show m ≤ 30 by omega), decide_eq_true (show tx.data.toList.length ≤ 4000 by rw [ba_len]; omega)]; rfl
  have HCB : Hid (c.b.length = 19) := by show _ = _; rw [← HCC.out]; exact hb
  have hm30 : m ≤ 30 := by omega
  have NE0 : Hid (∀ q vb vo, (.slice none 0 0 : Value).ownBlock = some q → va = some ⟨vb, vo, none⟩ → q ≠ vb) := fun q vb vo h _ => by cases h
  go_wp2
  go_loopw [7, 29] (fun v i wr => ∃ (V : Value) (k : Nat) (S : Cst) (rs : List Bs), V = v ∧ k ≤ m ∧ i = .int .i64 (k : Int) ∧ Hid (runS c (ls.take k) = (S, rs)) ∧ wr.rangeAt w.heap.size 0 (csC S.b S.d S.p S.n) ∧ wr.there w.heap.size 0 22 ∧ wr.ownsRow (w2.heap.size) 9 1 v k (rs.map strV) ∧ Hid (∀ k x, ls[k]? = some x → ∃ vb vo, va = some ⟨vb, vo, none⟩ ∧ w.heap.size < vb ∧ wr.cell? ⟨vb, vo + k, none⟩ = some (.string (bs x))) ∧ Below w.heap.size w wr ∧ w2.heap.size ≤ wr.heap.size ∧ Hid (∀ q vb vo, v.ownBlock = some q → va = some ⟨vb, vo, none⟩ → q ≠ vb)) (fun _ i _ => m + 1 - (intOf i).toNat)
  case atStart =>
   refine ⟨_, 0, c, [], rfl, by omega, rfl, rfl, ?_, t2, World.ownsRow_nil _ _ _ _, HLC2, HB2.out, Nat.le_refl _, NE0⟩
   have := HCC.out
   rw [← this]; exact r2
  case round =>
   obtain ⟨V, k, S, rs, rfl, hk, rfl, HRS, rk, tk, ho, HLC, hbk, hzk, NE⟩ := hrel
   have HO := hid ho
   have HB := hid hbk
   clear ho hbk r2 t2 HB2
   by_cases hlt : k < m
   · have hd : decide ((k : Int) < (m : Int)) = true := by simp; omega
     obtain ⟨x, hxx⟩ := elem_at (show k < ls.length by rw [HM.out]; exact hlt)
     obtain ⟨vb, vo, rfl, hvb, hcell⟩ := HLC.out k x hxx.out
     have hxl := HWM.out x (List.mem_of_getElem? hxx.out)
     have hvw0 : vb < wr.heap.size := World.block_lt_of_cell? _ _ hcell
     have hSok := runS_ok HCB.out HOKT.out (ls.take k)
     rw [HRS.out] at hSok
     have hSfit := ok_fit hSok.1 hSok.2
     have hSb : S.b.length = 19 := hSok.1
     have hNok := stepV_ok (bs x) hSok.1 hSok.2
     have HNX := hid (runS_snoc c (ls.take k) x)
     rw [HRS.out] at HNX
     obtain ⟨N, hN⟩ : ∃ N, (stepV true S (bs x)).1 = N := ⟨_, rfl⟩
     obtain ⟨T, hT⟩ : ∃ T, (stepV true S (bs x)).2 = T := ⟨_, rfl⟩
     rw [hN] at hNok
     have hNb : N.b.length = 19 := hNok.1
     have HEX := hid (fun (W : World) (h : TabC W) => (ExecuteCommand_c S (bs x) W hSfit (by rw [bs_size]; omega) h).mono fun e w' h => ex_yes hSok.2 h)
     simp only [hN, hT] at HNX HEX
     have HNX2 : Hid (runS c (ls.take (k + 1)) = (N, rs ++ [T])) := by
      show _ = _
      rw [take_snoc hxx.out]; exact HNX.out
     unfold Cst.val consV at HEX
     clear hN hT HNX hxx hSok hSfit hNok HRS hxl
     generalize bs x = X at *
     as_aux_lemma =>
      go_wp2_with (refine wpList_loadC rfl _ rfl _ rfl S.b S.d S.p S.n rk hSb ?_)
      refine (HEX.out _ (HT.out.on HB.out)).mono ?_
      rintro e w4 ⟨rfl, hb4⟩
      have t4 := there_new w4 zCA 31 (n := 22) (by decide)
      have z4 := hb4.size
      have tk4 := World.there_setCells (World.there_alloc (there_below tk hb4) (.cells zCA 31)) w4.heap.size 0 (csC N.b N.d N.p N.n)
      have c4 := World.rangeAt_setCells_same (w4.alloc (.cells zCA 31)) w4.heap.size 0 (csC N.b N.d N.p N.n) (by rw [csC_len hNb]; exact t4)
      have hB4 : Below wr.heap.size wr ((w4.alloc (.cells zCA 31)).setCells w4.heap.size 0 (csC N.b N.d N.p N.n)) := below_cells (csC N.b N.d N.p N.n) (w4.alloc (.cells zCA 31)) w4.heap.size 0 (Below.alc hb4 (.cells zCA 31)) (by omega)
      unfold zCA at *
      clear rk hb4 HEX hcell
      go_upto_region 9 with (refine wpList_storeC rfl _ _ rfl _ N.b N.d N.p N.n rfl rfl t4 hNb ?_)
      clear t4
      generalize w4.heap.size = g10 at *
      generalize World.setCells (World.alloc w4 _) _ _ _ = w4b at *
      have HO4 := own_keep HO.out hB4
      have HLC4 : Hid (∀ k x, ls[k]? = some x → ∃ vb2 vo2, (some ⟨vb, vo, none⟩ : Option Addr) = some ⟨vb2, vo2, none⟩ ∧ w.heap.size < vb2 ∧ w4b.cell? ⟨vb2, vo2 + k, none⟩ = some (.string (bs x))) := fun k x hx => by
       obtain ⟨vb2, vo2, h1, h2, h3⟩ := HLC.out k x hx
       exact ⟨vb2, vo2, h1, h2, cell_later hB4 h3⟩
      have HB4 := hid (Below.chain HB.out hB4)
      have z4b := Nat.le_trans hzk hB4.size
      have hvw := Nat.lt_of_lt_of_le hvw0 (Nat.le_trans hB4.size (grow_cells (csC N.b N.d N.p N.n) w4b w.heap.size 0).size)
      have t5 := World.there_setCells tk4 w.heap.size 0 (csC N.b N.d N.p N.n)
      have r5 := World.rangeAt_setCells_same w4b w.heap.size 0 (csC N.b N.d N.p N.n) (by rw [csC_len hNb]; exact tk4)
      have HB5 := hid (below_cells (csC N.b N.d N.p N.n) w4b w.heap.size 0 HB4.out (by omega))
      have HO5 := hid (own_far HO4 w.heap.size 0 (csC N.b N.d N.p N.n) (by omega))
      have HLC5 : Hid (∀ k x, ls[k]? = some x → ∃ vb2 vo2, (some ⟨vb, vo, none⟩ : Option Addr) = some ⟨vb2, vo2, none⟩ ∧ w.heap.size < vb2 ∧ (w4b.setCells w.heap.size 0 (csC N.b N.d N.p N.n)).cell? ⟨vb2, vo2 + k, none⟩ = some (.string (bs x))) := fun k x hx => by
       obtain ⟨vb2, vo2, h1, h2, h3⟩ := HLC4.out k x hx
       exact ⟨vb2, vo2, h1, h2, cell_far2 (g2 := w.heap.size) (o2 := 0) (vs := csC N.b N.d N.p N.n) h3 (by omega)⟩
      have z5 : w2.heap.size ≤ (w4b.setCells w.heap.size 0 (csC N.b N.d N.p N.n)).heap.size := Nat.le_trans z4b (grow_cells (csC N.b N.d N.p N.n) w4b w.heap.size 0).size
      have R5 := hid r5
      have T5 := hid t5
      have Z5 := hid z5
      have HVW := hid hvw
      clear tk HB HB4 HO HO4 HLC HLC4 hB4 z4b hzk r5 t5 z5 hvw
      go_upto_region 10 with (first | (refine wpList_loadC rfl _ rfl _ rfl N.b N.d N.p N.n c4 hNb ?_) | (refine wpList_storeC rfl _ _ rfl _ N.b N.d N.p N.n rfl rfl tk4 hNb ?_))
      clear c4 tk4
      generalize World.setCells w4b _ _ _ = w5 at *
      have z5 := Z5.out
      have hvw := HVW.out
      as_aux_lemma =>
      go_wp2_with (at_builtin; refine wpList_append_own_at _ rfl _ _ 48 rfl (w2.heap.size) 9 i (.string ⟨#[]⟩) 1 16 Tryz.underlying48 hi hz0 hz1 hz2 rfl (by decide) _ k (rs.map strV) rfl (HO5.out.alloc _) ⟨w5.heap.size, 0, none⟩ 1 1 [.string (bs T)] rfl rfl (news_new _ [.string (bs T)] _) (by simp [Value.oneCell']) (by unfold maxLen; omega) (by omega) (by simp only [World.size_alloc]; omega) ?_)
      intro v' w6 ho6 hg6 _ hat
      have hga := below_one (w := w5) (.cells [Value.string (bs T)].toArray 9)
      have HBG : Hid (∀ g, g < w5.heap.size → (∀ q, V.ownBlock = some q → g ≠ q) → w6.heap[g]? = w5.heap[g]?) := fun g hg hne => (hg6.block g (by rw [World.size_alloc]; omega) (fun e => hne g e.symm rfl)).trans (hga.block g hg)
      have zL : w.heap.size < w5.heap.size := by omega
      have q1 : w6.heap[w.heap.size]? = w5.heap[w.heap.size]? := HBG.out _ zL (fun q hq e => by have := (HO5.out.lt q hq).1; omega)
      have r6 := range_block R5.out q1
      have t6 := there_block T5.out q1
      have HLC6 : Hid (∀ k x, ls[k]? = some x → ∃ vb2 vo2, (some ⟨vb, vo, none⟩ : Option Addr) = some ⟨vb2, vo2, none⟩ ∧ w.heap.size < vb2 ∧ w6.cell? ⟨vb2, vo2 + k, none⟩ = some (.string (bs x))) := fun k x hx => by
       obtain ⟨vb2, vo2, h1, h2, h3⟩ := HLC5.out k x hx
       exact ⟨vb2, vo2, h1, h2, (World.cell?_of_block (w := w5) (a := ⟨vb2, vo2 + k, none⟩) (HBG.out vb2 (World.block_lt_of_cell? _ _ h3) (fun q hq e => NE.out q vb2 vo2 hq h1 e.symm))).trans h3⟩
      have NE6 : Hid (∀ q vb2 vo2, v'.ownBlock = some q → (some ⟨vb, vo, none⟩ : Option Addr) = some ⟨vb2, vo2, none⟩ → q ≠ vb2) := fun q vb2 vo2 hq h1 => by
       rcases hat with h | h
       · exact NE.out q vb2 vo2 (by rw [← h]; exact hq) h1
       · rw [h] at hq
         injection hq with hq
         injection h1 with h1
         injection h1 with h1
         omega
      have HB6 := hid ((Below.alc HB5.out _).grown hg6 (by simp only [World.size_alloc]; omega) (fun g hg => by have := (HO5.out.lt g hg).1; omega))
      have z6 : w2.heap.size ≤ w6.heap.size := by have h1 := hg6.size; rw [World.size_alloc] at h1; omega
      have HO6 := hid ho6
      have hvl : vb < w5.heap.size := hvw
      clear ho6 hg6 HB5 HO5 R5 T5 HLC5 HBG q1 hga
      have R6 := hid r6
      have T6 := hid t6
      clear r6 t6
      go_wp2
      go_roundw
      case rel => exact ⟨_, k + 1, N, rs ++ [T], rfl, by omega, by go_num, HNX2.out, R6.out, T6.out, ownsRow_cast HO6.out rfl (by rw [List.map_append]; rfl), HLC6, HB6.out, z6, NE6⟩
      case measure => first | (simp [intOf]; done) | (simp [intOf]; omega)
   · obtain rfl : k = m := by omega
     have hd : decide ((k : Int) < (k : Int)) = false := by simp
     as_aux_lemma =>
     have HE2 : Hid (rs = (runS c (splitS 10 tx.data.toList)).2) := by
      show _ = _
      have h := HRS.out
      rw [← HM.out, List.take_length] at h
      rw [HLS.out, h]
     have hrl : rs.length = k := by rw [HE2.out, HLS.out, runS_len]; exact HM.out
     have HF := hid (fun w' v => runOut_yes (w := w) (w' := w') (v := v) HOKT.out HRO.out HE2.out)
     rw [hrl] at HF
     clear hrl
     obtain ⟨ua, uc, rfl, _⟩ := (Sl.of_own HO.out).slice
     go_wp2
     exact bodyPost_ret (v := .tuple #[.slice ua k uc, .bool true]) (by simp [results, Tryz.results33, go_sem] <;> rfl) rfl (HF.out _ _ (own_lo HO.out (by omega)) HB.out)
end Go.Proofs.YtohgjfdbnkjefaaGreatDoor
