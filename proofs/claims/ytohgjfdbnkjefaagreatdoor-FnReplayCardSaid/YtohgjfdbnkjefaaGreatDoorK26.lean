import Derived.Test.YtohgjfdbnkjefaaGreatDoorK25
import Derived.Deep.MidRow
open Go.Lib (hid)
namespace Go.Proofs.YtohgjfdbnkjefaaGreatDoor
open Go.RowKit
set_option linter.unusedVariables false
set_option linter.unusedSimpArgs false
set_option maxRecDepth 100000
theorem csC_18 {b : List Int} {d p : ByteArray} {n : Int} (hb : b.length = 19) (x : Int) : (csC b d p n).toArray.setIfInBounds 18 (.int .i64 x) = (csC (b.set 18 x) d p n).toArray := by
 unfold csC lgC ints; simp [List.set_append, hb]
theorem csC_19 {b : List Int} {d p : ByteArray} {n : Int} (hb : b.length = 19) (x : ByteArray) : (csC b d p n).toArray.setIfInBounds 19 (.string x) = (csC b x p n).toArray := by
 unfold csC lgC ints; simp [List.set_append, hb]
theorem csC_20 {b : List Int} {d p : ByteArray} {n : Int} (hb : b.length = 19) (x : ByteArray) : (csC b d p n).toArray.setIfInBounds 20 (.string x) = (csC b d x n).toArray := by
 unfold csC lgC ints; simp [List.set_append, hb]
theorem csC_21 {b : List Int} {d p : ByteArray} {n : Int} (hb : b.length = 19) (x : Int) : (csC b d p n).toArray.setIfInBounds 21 (.int .i64 x) = (csC b d p x).toArray := by
 unfold csC lgC ints; simp [List.set_append, hb]
def DrawC (w : World) (g m : Nat) (e : Ending) (w' : World) : Prop := ∃ c : Cst, c.fit ∧ e = .returned (.agg (csC c.b c.d c.p c.n).toArray) ∧ CStep w w' g m
structure CSt (w wx : World) (g m O : Nat) (R : List (Nat × Nat × Array Value)) (c : Cst) : Prop where
 cs : CStep w wx g m
 rs : ∀ x ∈ R, Bk wx x.1 x.2.1 x.2.2
 cb : Bk wx O 31 (csC c.b c.d c.p c.n).toArray
 hr : ∀ x ∈ R, x.1 ≠ g ∧ x.1 < O
 hO : w.heap.size ≤ O
 hg : g < w.heap.size
 hf : c.fit
section
variable {w wx wy : World} {g m m' O : Nat} {R : List (Nat × Nat × Array Value)} {c : Cst}
theorem CSt.step (h : CSt w wx g m O R c) (hs : CStep wx wy g m') : CSt w wy g m' O R c :=
 ⟨h.cs.trans hs, fun x hx => (h.rs x hx).step hs (by have := h.hr x hx; omega), h.cb.step hs (by have := h.hg; have := h.hO; omega), h.hr, h.hO, h.hg, h.hf⟩
theorem CSt.below (h : CSt w wx g m O R c) (hb : Below wx.heap.size wx wy) : CSt w wy g m O R c := h.step ((CStep.refl h.cs.cur).below hb)
theorem CSt.alloc (h : CSt w wx g m O R c) (o : Obj) : CSt w (wx.alloc o) g m O R c := h.below (below_one o)
theorem CSt.drew (h : CSt w wx g m O R c) : CSt w wx.drew g m O R c := h.step (CStep.refl h.cs.cur).drew
theorem CSt.far (h : CSt w wx g m O R c) {q : Nat} (hq : O < q) (o : Nat) (vs : List Value) : CSt w (wx.setCells q o vs) g m O R c :=
 ⟨h.cs.puts vs o h.hg (by have := h.hO; omega), fun x hx => (h.rs x hx).far vs o (by have := h.hr x hx; omega), h.cb.far vs o (by omega), h.hr, h.hO, h.hg, h.hf⟩
theorem CSt.one (h : CSt w wx g m O R c) (i : Nat) (x : Value) {c' : Cst} (hc : (csC c.b c.d c.p c.n).toArray.setIfInBounds i x = (csC c'.b c'.d c'.p c'.n).toArray) (hf : c'.fit) : CSt w (wx.setCell ⟨O, i, none⟩ x) g m O R c' :=
 ⟨h.cs.store h.hg (p := ⟨O, i, none⟩) h.hO _, fun y hy => (h.rs y hy).other (p := ⟨O, i, none⟩) (by show y.1 ≠ O; have := h.hr y hy; omega) _, hc ▸ h.cb.set i x, h.hr, h.hO, h.hg, hf⟩
theorem CSt.put (h : CSt w wx g m O R c) {c' : Cst} (hf : c'.fit) : CSt w (wx.setCells O 0 (csC c'.b c'.d c'.p c'.n)) g m O R c' :=
 ⟨h.cs.puts _ 0 h.hg h.hO, fun x hx => (h.rs x hx).far _ 0 (by have := h.hr x hx; omega), h.cb.putC h.hf.hb hf.hb, h.hr, h.hO, h.hg, hf⟩
theorem CSt.mono (h : CSt w wx g m O R c) (hm : m ≤ m') : CSt w wx g m' O R c := ⟨h.cs.mono hm, h.rs, h.cb, h.hr, h.hO, h.hg, h.hf⟩
theorem CSt.log (h : CSt w wx g m O R c) {d' p' : ByteArray} {n' : Int} (hf : (⟨c.b, d', p', n'⟩ : Cst).fit) : CSt w (((wx.setCell ⟨O, 19, none⟩ (.string d')).setCell ⟨O, 20, none⟩ (.string p')).setCell ⟨O, 21, none⟩ (.int .i64 n')) g m O R ⟨c.b, d', p', n'⟩ :=
 ((h.one 19 (.string d') (c' := ⟨c.b, d', c.p, c.n⟩) (csC_19 h.hf.hb d') ⟨hf.hb, hf.hd, h.hf.hp⟩).one 20 (.string p') (c' := ⟨c.b, d', p', c.n⟩) (csC_20 hf.hb p') ⟨hf.hb, hf.hd, hf.hp⟩).one 21 (.int .i64 n') (csC_21 hf.hb n') hf
theorem CSt.c18 (h : CSt w wx g m O R c) : ∃ u, wx.cell? ⟨O, 18, none⟩ = some u := there_some (h.cb.there (n := 22) (by simp [csC_len h.hf.hb])) (by omega)
theorem csC_at (hb : c.b.length = 19) : (csC c.b c.d c.p c.n)[19]? = some (.string c.d) ∧ (csC c.b c.d c.p c.n)[20]? = some (.string c.p) ∧ (csC c.b c.d c.p c.n)[21]? = some (.int .i64 c.n) := by
 unfold csC lgC ints; simp [List.getElem?_append, hb]
theorem CSt.c19 (h : CSt w wx g m O R c) : wx.cell? ⟨O, 19, none⟩ = some (.string c.d) := by rw [h.cb.cell 19, List.getElem?_toArray]; exact (csC_at h.hf.hb).1
theorem CSt.c20 (h : CSt w wx g m O R c) : wx.cell? ⟨O, 20, none⟩ = some (.string c.p) := by rw [h.cb.cell 20, List.getElem?_toArray]; exact (csC_at h.hf.hb).2.1
theorem CSt.c21 (h : CSt w wx g m O R c) : wx.cell? ⟨O, 21, none⟩ = some (.int .i64 c.n) := by rw [h.cb.cell 21, List.getElem?_toArray]; exact (csC_at h.hf.hb).2.2
end
theorem exS_let (c : Cst) (hf : c.fit) (line : ByteArray) (hl : line.size ≤ 1048576) : ∃ c' : Cst, c'.fit ∧ ∀ W, Calls Tryz.prog 29 #[.agg (csC c.b c.d c.p c.n).toArray, .string line] W fun e w' => ∃ s, e = .returned (.tuple #[.agg (csC c'.b c'.d c'.p c'.n).toArray, .string s]) ∧ Below W.heap.size W w' := by
 obtain ⟨ok, hi, hd⟩ := ex_det c line
 exact ⟨_, stepV_fit line hf hi.1, fun W => (ExecuteCommandS_c c line W hf hl).mono fun e w' h => ⟨_, hd W e w' h⟩⟩
theorem apS_let (b : List Int) (d p : ByteArray) (n : Int) (hf : (⟨b, d, p, n⟩ : Cst).fit) (c r : ByteArray) (hc : c.size ≤ 1048576) (hr : r.size ≤ 1048576) : ∃ (d' p' : ByteArray) (n' st : Int), (⟨b, d', p', n'⟩ : Cst).fit ∧ (st = 0 → 0 ≤ n ∧ n' = n + 1 ∧ n' ≤ 60) ∧
 ∀ W, Calls Tryz.prog 73 #[.agg #[.string d, .string p, .int .i64 n], .agg #[.string c, .string r]] W fun e w' => e = .returned (.tuple #[.agg #[.string d', .string p', .int .i64 n'], .int .i64 st]) ∧ Below W.heap.size W w' := by
 obtain ⟨d', p', n', st, hD, hdet⟩ := app_det d p n c r
 refine ⟨d', p', n', st, ?_, fun h => ?_, fun W => (AppendRecordS_c d p n c r W hf.hd hf.hp hc hr).mono fun e w' h => hdet W e w' h⟩
 · by_cases h : st = 0
   · obtain ⟨es, _, hv⟩ := hD.yes h
     have := hv.sz
     rw [List.length_append, ba_len, ba_len] at this
     exact ⟨hf.hb, by show d'.size ≤ _; omega, by show p'.size ≤ _; omega⟩
   · obtain ⟨rfl, rfl, rfl⟩ := hD.no h
     exact hf
 · obtain ⟨es, h1, h2⟩ := hD.yes h
   have a := h1.cnt
   have b := h2.cnt
   have c := h2.le
   rw [List.length_append] at b c
   simp only [List.length_cons, List.length_nil] at b c
   omega
set_option maxHeartbeats 16000000 in
theorem console_c (g m : Nat) (w : World) (h : CurAt w g m) (hm : m + 1000 < 4611686018427387904) :
 Calls Tryz.prog 79 #[.pointer (some ⟨g, 0, none⟩)] w (DrawC w g (m + 1000)) := by
 have hga := h.lt
 have T0 : Hid (Bk (w.alloc (.cells zCA 31)) w.heap.size 31 (csC zeroI ByteArray.empty ByteArray.empty 0).toArray) := Bk.new w 31 zCA
 have HC := hid ((CStep.refl h).alloc (.cells zCA 31))
 clear h
 unfold DrawC
 unfold zCA at *
 go_enter Tryz.func79, Tryz.ntmps79
 go_wp2_with fail
 refine (bench_c g m _ HC.out.cur (by omega)).mono ?_
 rintro e w1 ⟨b0, hb0, rfl, hs⟩
 replace HC := hid (HC.out.trans hs)
 replace T0 := hid (T0.out.step hs (by omega))
 clear hs
 go_wp2_with fail
 refine (sNewConsole_c b0 _ hb0).mono ?_
 rintro e w2 ⟨rfl, hb⟩
 have hl : (ncB b0).length = 19 := by unfold ncB; split; exact hb0; exact zero_len
 unfold ncV
 generalize ncB b0 = b1 at *
 generalize goodB b0 = okb at *
 have R2 : Bk (w2.alloc (.cells zCA 31)) w2.heap.size 31 (csC zeroI ByteArray.empty ByteArray.empty 0).toArray := Bk.new w2 31 zCA
 have rt := R2.there (n := 22) (by simp [csC_len zero_len])
 have HB : Hid (CSt w ((w2.alloc (.cells zCA 31)).setCells w2.heap.size 0 (csC b1 ByteArray.empty ByteArray.empty 0)) g (m + 420) w2.heap.size [(w.heap.size, 31, (csC zeroI ByteArray.empty ByteArray.empty 0).toArray)] ⟨b1, ByteArray.empty, ByteArray.empty, 0⟩) := by
  have h2 := (T0.out.below hb).lt
  exact ⟨((HC.out.below hb).alloc _).puts _ 0 hga (by omega), fun x hx => by rw [List.mem_singleton] at hx; subst hx; exact ((T0.out.below hb).alloc _).far _ 0 (by omega), R2.putC zero_len hl, fun x hx => by rw [List.mem_singleton] at hx; subst hx; exact ⟨by show w.heap.size ≠ g; omega, h2⟩, by omega, hga, ⟨hl, by show 0 ≤ _; omega, by show 0 ≤ _; omega⟩⟩
 clear hb HC T0 R2
 have HRB := hid (fun (wx : World) (m' O' : Nat) (c' : Cst) (h : CSt w wx g m' O' [(w.heap.size, 31, (csC zeroI ByteArray.empty ByteArray.empty 0).toArray)] c') => h.rs _ (List.mem_singleton.2 rfl))
 generalize [(w.heap.size, 31, (csC zeroI ByteArray.empty ByteArray.empty 0).toArray)] = R at *
 unfold zCA at *
 go_wp2_with (refine wpList_storeC rfl _ _ rfl _ b1 ByteArray.empty ByteArray.empty 0 rfl rfl ?_ hl ?_; exact rt)
 generalize hO : w2.heap.size = O at *
 generalize World.setCells _ O 0 _ = w3 at *
 clear rt hO
 refine (pick_c 6 g _ _ HB.out.cs.cur (by omega)).mono ?_
 rintro e w4 ⟨x, rfl, hx, hs⟩
 replace HB := hid (HB.out.step hs)
 obtain ⟨n, rfl⟩ := Int.eq_ofNat_of_zero_le hx.1
 have hn : n ≤ 5 := by have := hx.2 (by omega); omega
 clear hs hx
 go_upto_block 0 with fail
 go_cut [5] (fun s5 wx => ∃ c, CSt w wx g (m + 600) O R c)
 case first =>
  go_wp2
  go_loopw [5] (fun j wr => ∃ (k : Nat) (c : Cst), k ≤ 5 ∧ j = .int .i64 (k : Int) ∧ Hid (CSt w wr g (m + 430 + 30 * (5 - k)) O R c)) (fun j _ => (intOf j).toNat)
  case atStart => exact ⟨n, _, hn, rfl, HB.out.mono (by omega)⟩
  case round =>
   obtain ⟨k, c, hk, rfl, HR⟩ := hrel
   clear HB
   rcases hgo : (decide (0 < k) && okb) with _ | _
   rotate_left
   · simp only [Bool.and_eq_true, decide_eq_true_eq] at hgo
     obtain ⟨hk0, rfl⟩ := hgo
     have hl := HR.out.hf.hb
     have hd : decide (0 < (k : Int)) = true := by simp; omega
     have HJ := hid (fun M W h1 h2 => line12_c g M W h1 h2)
     have HD := hid (fun (t : ByteArray) (ht : t.size ≤ 100) => exS_let c HR.out.hf t (by omega))
     unfold DrawTx at HJ
     go_upto_region 5 with fail
     go_cut [6, 7] (fun s6 s7 wx => ∃ (q : Nat) (s : ByteArray) (c' : Cst), s6 = .pointer (some ⟨q, 0, none⟩) ∧ s7 = .string s ∧ c'.fit ∧ Hid (Bk wx q 31 (csC c'.b c'.d c'.p c'.n).toArray) ∧ Hid (CSt w wx g (m + 430 + 30 * (5 - (k - 1))) O R c))
     case first =>
      have F := HR.out.drew
      clear HR
      refine wp_region_held_drew (S := fun w' : World => Bk w' O 31 (csC c.b c.d c.p c.n).toArray) (by kernel_rfl) F.cb (fun hHeld => ?_)
      generalize World.drew _ = wd at *
      refine' tkL 0 hHeld (cs := csC c.b c.d c.p c.n) (fun w' (h : Bk w' O 31 (csC c.b c.d c.p c.n).toArray) => h.range) Tryz.underlying31 (by rw [csC_len hl]; kernel_rfl) ?_
      refine' tkZ 1 hHeld ?_
      repeat' first
       | refine' tkZ 4 hHeld ?_
       | refine' tkZ 5 hHeld ?_
       | refine' tkZ 6 hHeld ?_
       | refine' tkZ 9 hHeld ?_
       | (refine wpAnyH_done (by decide +kernel) ?_ _
          go_wp2_with fail
          go_meet
          exact ⟨_, _, _, rfl, rfl, hY, A, F.mono (by omega)⟩)
       | (refine rdyS [8] (rdy ?_ .nil)
          intro K hK
          rw [if_pos (by rfl)]
          refine wp_store_mid _ _ _ rfl _ _ (csC c'.b c'.d c'.p c'.n).toArray rfl rfl (A.there (by simp [csC_len hY.hb, csC_len zero_len])) (by simp only [List.size_toArray, csC_len hY.hb]; kernel_rfl) (all_oneCell_toArray csC_one) ?_
          rw [List.toList_toArray]
          replace A := A.putC (b := zeroI) (d2 := c'.d) (p2 := c'.p) (n2 := c'.n) zero_len hY.hb
          replace F := F.far hq 0 (csC c'.b c'.d c'.p c'.n)
          generalize World.setCells _ _ _ _ = wd at *
          refine hK.out _ _ F.cb fun hHeld => nrm ?_
          clear hK K)
       | ((first
            | refine rdyS [2, 7] (rdy ?_ (rdy ?_ .nil))
            | refine rdyS [3, 7] (rdy ?_ (rdy ?_ .nil))
            | refine rdyS [7] (rdy ?_ .nil)
            | refine rdyS [2] (rdy ?_ .nil)
            | refine rdyS [3] (rdy ?_ .nil)) <;>
          (intro K hK
           go_simp
           first
            | (with_reducible refine (HJ.out _ _ F.cs.cur ?_).mono ?_
               · omega
               rintro e wd ⟨t, rfl, ht, hs⟩
               replace F := F.step hs
               try replace A := A.step hs (by have := F.hg; have := F.hO; omega))
            | (obtain ⟨c', hY, HC⟩ := HD.out t ht
               with_reducible refine (HC _).mono ?_
               clear HC
               rintro e wd ⟨s, rfl, hb2⟩
               replace F := F.below hb2
               try replace A := A.below hb2)
            | (have A : Bk (wd.alloc (.cells zCA 31)) wd.heap.size 31 (csC zeroI ByteArray.empty ByteArray.empty 0).toArray := Bk.new wd 31 zCA
               have hq := F.cb.lt
               replace F := F.alloc (.cells zCA 31)
               unfold zCA at *
               generalize wd.heap.size = q at *
               generalize World.alloc _ _ = wd at *)
           refine hK.out _ _ F.cb fun hHeld => nrm ?_
           clear hK K))
     case rest =>
      obtain ⟨q, s, c', rfl, rfl, hY, AC, HF⟩ := hcut
      clear HR HJ HD
      have ar := AC.out.range
      have rt := HF.out.cb.there (n := 22) (by simp [csC_len hl])
      have HF2 := hid (HF.out.put hY)
      have hYb := hY.hb
      go_wp2_with (first | (refine wpList_loadC rfl _ rfl _ rfl _ _ _ _ ar hYb ?_) | (refine wpList_storeC rfl _ _ rfl _ c'.b c'.d c'.p c'.n rfl rfl rt hYb ?_))
      go_roundw
      case rel => exact ⟨k - 1, c', by omega, by go_num, HF2.out⟩
      case measure => simp [intOf]; omega
   · have HF : Hid (∃ c, CSt w wr g (m + 600) O R c) := ⟨c, HR.out.mono (by omega)⟩
     clear HR
     go_wp2_with fail
     all_goals first | (go_meet; exact HF.out) | (exfalso; simp_all; done)
 case rest =>
  obtain ⟨c, hb⟩ := hcut
  replace HB := hid hb
  clear hb
  go_wp2_with fail
  refine (pick_c 40 g _ _ HB.out.cs.cur (by omega)).mono ?_
  rintro e w5 ⟨y, rfl, _, hs⟩
  replace HB := hid (HB.out.step hs)
  clear hs
  go_upto_block 2 with fail
  go_cut [8, 9] (fun s8 s9 wx => ∃ c, CSt w wx g (m + 900) O R c)
  case first =>
   have z19 := HB.out.c19
   have z20 := HB.out.c20
   have z21 := HB.out.c21
   obtain ⟨u18, z18⟩ := HB.out.c18
   have f18 := HB.out.cb.frozen 18
   have f19 := HB.out.cb.frozen 19
   have f20 := HB.out.cb.frozen 20
   have f21 := HB.out.cb.frozen 21
   go_wp2_with fail
   all_goals first
    | (go_meet; exact ⟨_, HB.out.mono (by omega)⟩)
    | (go_meet; exact ⟨_, (HB.out.one 18 (.int .i64 (-1)) (c' := ⟨c.b.set 18 (-1), c.d, c.p, c.n⟩) (csC_18 HB.out.hf.hb _) ⟨by show (c.b.set 18 (-1)).length = 19; rw [List.length_set]; exact HB.out.hf.hb, HB.out.hf.hd, HB.out.hf.hp⟩).mono (by omega)⟩)
    | (go_meet; exact ⟨_, (HB.out.log (d' := ⟨#[]⟩) (p' := ⟨#[]⟩) (n' := 0) ⟨HB.out.hf.hb, by show 0 ≤ _; omega, by show 0 ≤ _; omega⟩).mono (by omega)⟩)
    | (go_meet; exact ⟨_, (HB.out.one 21 (.int .i64 (wrap64 (c.n + 1))) (c' := ⟨c.b, c.d, c.p, wrap64 (c.n + 1)⟩) (csC_21 HB.out.hf.hb _) ⟨HB.out.hf.hb, HB.out.hf.hd, HB.out.hf.hp⟩).mono (by omega)⟩)
    | skip
   obtain rfl : y = 3 := by simpa using ‹(y == 3) = true›
   go_loopw [8, 9] (fun _ _ wr => ∃ (j : Nat) (c : Cst), (j = 0 ∨ ((j : Int) ≤ c.n ∧ c.n ≤ 60)) ∧ Hid (CSt w wr g (m + 602 + 2 * j) O R c)) (fun _ _ wr => (60 - intOf ((wr.cell? ⟨O, 21, none⟩).getD (.int .i64 60))).toNat)
   case atStart => exact ⟨0, c, .inl rfl, HB.out⟩
   case round =>
    clear z18 z19 z20 z21 f18 f19 f20 f21 HB
    obtain ⟨j, c, hj, HR⟩ := hrel
    have hj2 : j ≤ 60 := by omega
    have zwr := HR.out.c21
    have z21 := zwr
    go_upto_region 15 with fail
    have F := HR.out.drew
    refine wp_region_held_drew (S := fun w' : World => w'.cell? ⟨O, 21, none⟩ = some (.int .i64 c.n)) (by kernel_rfl) z21 (fun hHeld => ?_)
    clear HR
    generalize World.drew _ = wd at *
    refine' tkZ 0 hHeld ?_
    refine' tkZ 1 hHeld ?_
    refine' tkZ 2 hHeld ?_
    refine' tkZ 3 hHeld ?_
    refine rdyS [4] (rdy ?_ .nil)
    intro K hK
    go_simp
    refine (pick_c 2 g _ _ F.cs.cur (by omega)).mono ?_
    rintro e w6 ⟨x, rfl, hx, hs⟩
    have HF := hid (F.step hs)
    have x0 := hx.1
    have x1 := hx.2 (by omega)
    have z21 := HF.out.c21
    clear F hs hx
    refine hK.out _ _ z21 fun hHeld => nrm ?_
    clear hK K
    refine' tkZ 5 hHeld ?_
    refine' tkZ 6 hHeld ?_
    refine wpAnyH_done (by decide +kernel) ?_ _
    have z19 := HF.out.c19
    have z20 := HF.out.c20
    obtain ⟨d', p', n', st, hf', hst, HA⟩ := apS_let c.b c.d c.p c.n HF.out.hf ⟨#[98, 97, 114, 115]⟩ ⟨#[63]⟩ (by decide) (by decide)
    replace HA := hid HA
    go_wp2_with fail
    all_goals first
     | (go_meet; exact ⟨_, HF.out.mono (by omega)⟩)
     | skip
    refine (HA.out _).mono ?_
    rintro e w7 ⟨rfl, hb⟩
    have H8 := hid ((HF.out.below hb).alloc (.cells #[.string d', .string p', .int .i64 n'] 29))
    clear hb HA z19 z20 z21 HF
    have z19 := H8.out.c19
    have z20 := H8.out.c20
    have z21 := H8.out.c21
    have f19 := H8.out.cb.frozen 19
    have f20 := H8.out.cb.frozen 20
    have f21 := H8.out.cb.frozen 21
    rcases hs0 : (st == 0) with _ | _
    · have hs1 : (st != 0) = true := by simp [bne, hs0]
      go_wp2_with fail
      go_meet
      exact ⟨_, H8.out.mono (by omega)⟩
    · obtain rfl : st = 0 := by simpa using hs0
      replace hst := hid (hst rfl)
      have H9 := hid (H8.out.log hf')
      have y21 := hid H9.out.c21
      clear H8
      go_wp2
      go_roundw
      case rel =>
       (repeat apply Exists.intro)
       exact ⟨⟨j + 1, ⟨c.b, d', p', n'⟩, .inr (by show ((j + 1 : Nat) : Int) ≤ n' ∧ n' ≤ 60; have := hst.out; omega), H9.out.mono (by omega)⟩, rfl⟩
      case measure =>
       rw [y21.out, zwr]
       show (60 - n').toNat < (60 - c.n).toNat
       have := hst.out
       omega
  case rest =>
   obtain ⟨c, hb⟩ := hcut
   have ra := hb.cb.range
   have HRB2 := HRB.out _ _ _ _ hb
   have rt := HRB2.there (n := 22) (by simp [csC_len zero_len])
   have rc := loadVarC (HRB2.putC (b2 := c.b) (d2 := c.d) (p2 := c.p) (n2 := c.n) zero_len hb.hf.hb).range hb.hf.hb
   have rd := hid (hb.cs.puts (csC c.b c.d c.p c.n) (g2 := w.heap.size) 0 hga (by omega))
   have hf := hb.hf
   have hfb := hf.hb
   clear hb HB HRB2 HRB
   go_wp2_with (first | (refine wpList_loadC rfl _ rfl _ rfl c.b c.d c.p c.n ?_ hfb ?_; exact ra) | (refine wpList_storeC rfl _ _ rfl _ c.b c.d c.p c.n rfl rfl ?_ hfb ?_; exact rt))
   exact bodyPost_ret (v := .agg (csC c.b c.d c.p c.n).toArray) (res_cell Tryz.results79 rfl rc) rfl ⟨c, hf, rfl, rd.out.mono (by omega)⟩
end Go.Proofs.YtohgjfdbnkjefaaGreatDoor
namespace Go.Proofs.YtohgjfdbnkjefaaGreatDoor
open Go.RowKit
set_option linter.unusedVariables false
set_option linter.unusedSimpArgs false
set_option maxRecDepth 100000
def zerC : List Value := csC zeroI ByteArray.empty ByteArray.empty 0
theorem zerC_len : zerC.length = 22 := csC_len zero_len _ _ _
theorem Bk.newC (w : World) : Bk (w.alloc (.cells zCA 31)) w.heap.size 31 zerC.toArray := Bk.new w 31 zCA
theorem Bk.putZ {w : World} {g t : Nat} (h : Bk w g t zerC.toArray) {c : Cst} (hf : c.fit) : Bk (w.setCells g 0 (csC c.b c.d c.p c.n)) g t (csC c.b c.d c.p c.n).toArray := Bk.putC h zero_len hf.hb
theorem Bk.thereZ {w : World} {g t : Nat} (h : Bk w g t zerC.toArray) : w.there g 0 22 := h.there (by simp [zerC_len])
theorem CSt.start {w w1 : World} {g m : Nat} {c : Cst} (hf : c.fit) (hs : CStep w w1 g m) (hg : g < w.heap.size) {R : List (Nat × Nat × Array Value)} (hR : ∀ x ∈ R, x.1 ≠ g ∧ Bk w1 x.1 x.2.1 x.2.2) : CSt w ((w1.alloc (.cells zCA 31)).setCells w1.heap.size 0 (csC c.b c.d c.p c.n)) g m w1.heap.size R c :=
 ⟨(hs.alloc _).puts _ 0 hg hs.gr.size, fun x hx => ((hR x hx).2.alloc _).far _ 0 (by have := (hR x hx).2.lt; omega), (Bk.newC w1).putZ hf, fun x hx => ⟨(hR x hx).1, (hR x hx).2.lt⟩, hs.gr.size, hg, hf⟩
set_option maxHeartbeats 4000000 in
theorem DrawRunScript_c (v : Value) (xs : List Nat) (w : World) (h : Code w v xs) :
 Calls Tryz.prog 46 #[v] w fun e w' => ∃ (c : Cst) (s : ByteArray), c.fit ∧ s.size ≤ 10000 ∧ e = .returned (.tuple #[.agg (csC c.b c.d c.p c.n).toArray, .string s]) ∧ Below w.heap.size w w' := by
 have B0 := below_one (w := w) (.cells zCA 31)
 have HK := hid (cur_new (h.below B0))
 have BW := hid B0
 obtain ⟨a, c, rfl, _⟩ := h
 have R1 := hid ((Bk.newC w).alloc (.cells #[.slice a xs.length c, .int .i64 0, .int .u64 0] 83))
 simp only [World.size_alloc] at HK
 have HBW := hid (Below.chain BW.out (below_one (w := w.alloc (.cells zCA 31)) (.cells #[.slice a xs.length c, .int .i64 0, .int .u64 0] 83)))
 have hsz := hid (show ((w.alloc (.cells zCA 31)).alloc (.cells #[.slice a xs.length c, .int .i64 0, .int .u64 0] 83)).heap.size = w.heap.size + 2 by simp)
 clear B0 BW
 go_enter Tryz.func46, Tryz.ntmps46
 go_upto_region 2 with fail
 unfold zCA at *
 generalize World.alloc _ (.cells #[.slice a xs.length c, .int .i64 0, .int .u64 0] 83) = W0 at *
 go_wp2_with fail
 refine (console_c (w.heap.size + 1) 0 W0 HK.out (by omega)).mono ?_
 rintro e w1 ⟨c, hf, rfl, hs⟩
 have HC := hid (CSt.start (R := [(w.heap.size, 31, zerC.toArray)]) hf hs (by have := hsz.out; omega) (fun x hx => by rw [List.mem_singleton] at hx; subst hx; exact ⟨by show w.heap.size ≠ w.heap.size + 1; omega, R1.out.step hs (by omega)⟩))
 have HRB := hid (fun (wx : World) (m' O' : Nat) (c' : Cst) (h : CSt W0 wx (w.heap.size + 1) m' O' [(w.heap.size, 31, zerC.toArray)] c') => h.rs _ (List.mem_singleton.2 rfl))
 generalize [(w.heap.size, 31, zerC.toArray)] = R at *
 have rt := (Bk.newC w1).thereZ
 have hfb := hf.hb
 clear hs HK R1
 unfold zCA at *
 go_wp2_with (refine wpList_storeC rfl _ _ rfl _ c.b c.d c.p c.n rfl rfl ?_ hfb ?_; exact rt)
 generalize hO : w1.heap.size = O at *
 generalize World.setCells _ O 0 _ = w2 at *
 clear rt hO
 refine (line12_c _ _ _ HC.out.cs.cur (by omega)).mono ?_
 rintro e w3 ⟨s, rfl, hl, hs⟩
 replace HC := hid (HC.out.step hs)
 clear hs
 have HI := hid (ints_lit w3 [0, 1, 2, 3, 4, 5, 6, 7, 30] (by decide))
 have hgw := HC.out.cs.cur.lt
 replace HC := hid (HC.out.alloc (.cells #[.int .i64 0, .int .i64 1, .int .i64 2, .int .i64 3, .int .i64 4, .int .i64 5, .int .i64 6, .int .i64 7, .int .i64 30] 3))
 go_wp2_with fail
 refine (pick_c 24 _ _ _ HC.out.cs.cur (by omega)).mono ?_
 rintro e w4 ⟨x, rfl, hx, hs⟩
 replace HC := hid (HC.out.step hs)
 replace HI := hid (HI.out.grown hs.gr (.inr (by simp [Value.ownBlock]; omega)))
 obtain ⟨k, rfl⟩ := Int.eq_ofNat_of_zero_le hx.1
 have hk : k < 24 := by have := hx.2 (by omega); omega
 clear hs hx
 go_wp2_with fail
 have HI2 := hid (Ints.take HI.out (k := 8 + k / 23) (by show 8 + k / 23 ≤ 9; omega))
 have hlen : (([0, 1, 2, 3, 4, 5, 6, 7, 30] : List Int).take (8 + k / 23)).length = 8 + k / 23 := by rw [List.length_take]; show min (8 + k / 23) 9 = _; omega
 have HA := hid (among_c _ _ _ _ _ HC.out.cs.cur (by omega) HI2.out (by simp [Value.ownBlock]; omega) (by rw [hlen]; omega))
 clear hlen HI2 HI
 refine HA.out.mono ?_
 rintro e w5 ⟨x, rfl, hx, hs⟩
 replace HC := hid (HC.out.step hs)
 have hx2 : 0 ≤ x ∧ x ≤ 30 := by
  have := List.mem_of_mem_take hx
  simp only [List.mem_cons, List.not_mem_nil, or_false] at this
  omega
 obtain ⟨n, rfl⟩ := Int.eq_ofNat_of_zero_le hx2.1
 have hn : n ≤ 30 := by omega
 clear hs hx hx2 HA
 go_wp2
 go_loopw [6, 7] (fun t j wr => ∃ (k : Nat) (tx : ByteArray), k ≤ 30 ∧ j = .int .i64 (k : Int) ∧ t = .string tx ∧ tx.size ≤ 100 + 101 * (30 - k) ∧ Hid (CSt W0 wr (w.heap.size + 1) (1034 + 30 * (30 - k)) O R c)) (fun _ j _ => (intOf j).toNat)
 case atStart => exact ⟨n, s, hn, rfl, rfl, by omega, HC.out.mono (by omega)⟩
 case round =>
  obtain ⟨k, tx, hk, rfl, rfl, hsz2, HR⟩ := hrel
  clear HC
  by_cases hk0 : 0 < k
  · have hd : decide (0 < (k : Int)) = true := by simp; omega
    go_wp2_with fail
    refine (line12_c _ _ _ HR.out.cs.cur (by omega)).mono ?_
    rintro e w6 ⟨u, rfl, hu, hs⟩
    replace HR := hid (HR.out.step hs)
    clear hs
    go_wp2
    go_roundw
    case rel => exact ⟨k - 1, _, by omega, by go_num, rfl, by simp only [ByteArray.size_append, sizeL, List.size_toArray, List.length_cons, List.length_nil]; omega, HR.out.mono (by omega)⟩
    case measure => simp [intOf]; omega
  · have hd : decide (0 < (k : Int)) = false := by simp; omega
    have ra := HR.out.cb.range
    have HRB2 := HRB.out _ _ _ _ HR.out
    have rt := HRB2.thereZ
    have L1 := loadVarC (HRB2.putZ hf).range hfb
    have HB2 := hid (below_cells (csC c.b c.d c.p c.n) wr w.heap.size 0 (HBW.out.trans (HR.out.cs.low (by omega) (by have := hsz.out; omega))) (Nat.le_refl _))
    clear HR HRB2 HRB
    go_wp2_with (first | (refine wpList_loadC rfl _ rfl _ rfl c.b c.d c.p c.n ?_ hfb ?_; exact ra) | (refine wpList_storeC rfl _ _ rfl _ c.b c.d c.p c.n rfl rfl ?_ hfb ?_; exact rt))
    exact bodyPost_ret (v := .tuple #[.agg (csC c.b c.d c.p c.n).toArray, .string tx]) (res_cell2 Tryz.results46 rfl L1) rfl ⟨c, tx, hf, by omega, rfl, HB2.out⟩
theorem app_small {ok : Bool} {d p c r : ByteArray} {n : Int} (h : d.size + p.size ≤ 31000) (hok : ok = true ↔ ∃ es, ValidL d.data.toList p.data.toList n es) :
 ∃ d' p' n', (appV ok (recB c r) d p n c r).1 = logV d' p' n' ∧ d'.size + p'.size ≤ 31000 := by
 rcases hb : (ok && recB c r) with _ | _
 · exact ⟨d, p, n, by rw [appV_no hb], h⟩
 · simp only [Bool.and_eq_true] at hb
   obtain ⟨h1, h2⟩ := hb
   subst h1
   rw [h2]
   by_cases hn : n = 60
   · exact ⟨d, p, n, by rw [appV_full hn], h⟩
   · obtain ⟨es, hv⟩ := hok.1 rfl
     obtain ⟨_, _, _, hs⟩ := app_line hv hn h2
     refine ⟨d, _, _, by rw [appV_yes hn], ?_⟩
     have := hv.sz
     rw [List.length_append, ba_len, ba_len] at this
     rw [app_size]; omega
theorem sync_small {ok : Bool} {d p : ByteArray} {n : Int} (h : d.size + p.size ≤ 31000) :
 ∃ d' p' n', syncV ok d p n = logV d' p' n' ∧ d'.size + p'.size ≤ 31000 := by
 cases ok with
 | false => exact ⟨_, _, _, rfl, by decide⟩
 | true => exact ⟨_, _, _, rfl, by rw [app_size]; show d.size + p.size + 0 ≤ _; omega⟩
def DrawLog (w : World) (g m B : Nat) (e : Ending) (w' : World) : Prop := ∃ (d p : ByteArray) (n : Int), e = .returned (logV d p n) ∧ d.size + p.size ≤ B ∧ CStep w w' g m
theorem Bk.three' {w : World} {g t : Nat} {a b c : Value} (h : Bk w g t #[a, b, c]) : w.cell? ⟨g, 0, none⟩ = some a ∧ w.cell? ⟨g, 1, none⟩ = some b ∧ w.cell? ⟨g, 2, none⟩ = some c ∧ w.frozen? ⟨g, 0, none⟩ = false ∧ w.frozen? ⟨g, 1, none⟩ = false ∧ w.frozen? ⟨g, 2, none⟩ = false := ⟨h.cell 0, h.cell 1, h.cell 2, h.frozen 0, h.frozen 1, h.frozen 2⟩
theorem three_res {W : World} {b t : Nat} {x y z : Value} (h : Bk W b t #[x, y, z]) (X Y Z : Value) :
 Bk (((W.setCell ⟨b, 0, none⟩ X).setCell ⟨b, 1, none⟩ Y).setCell ⟨b, 2, none⟩ Z) b t #[X, Y, Z] := ((h.set 0 X).set 1 Y).set 2 Z
theorem CStep.three {a b : World} {g m k : Nat} (h : CStep a b g m) (hga : g < a.heap.size) (hk : a.heap.size ≤ k) (X Y Z : Value) :
 CStep a (((b.setCell ⟨k, 0, none⟩ X).setCell ⟨k, 1, none⟩ Y).setCell ⟨k, 2, none⟩ Z) g m :=
 ((h.store hga (p := ⟨k, 0, none⟩) hk X).store hga (p := ⟨k, 1, none⟩) hk Y).store hga (p := ⟨k, 2, none⟩) hk Z
theorem Bk.three {w : World} {g t k : Nat} {cs : Array Value} (h : Bk w g t cs) (hk : g ≠ k) (X Y Z : Value) : Bk (((w.setCell ⟨k, 0, none⟩ X).setCell ⟨k, 1, none⟩ Y).setCell ⟨k, 2, none⟩ Z) g t cs :=
 ((h.other (p := ⟨k, 0, none⟩) hk X).other (p := ⟨k, 1, none⟩) hk Y).other (p := ⟨k, 2, none⟩) hk Z
set_option maxHeartbeats 2000000 in
theorem log12_c (g m : Nat) (w : World) (h : CurAt w g m) (hm : m + 120 < 4611686018427387904) :
 Calls Tryz.prog 138 #[.pointer (some ⟨g, 0, none⟩)] w (DrawLog w g (m + 120) 31000) := by
 have hga := h.lt
 have R0 := hid ((Bk.new w 29 #[.string ⟨#[]⟩, .string ⟨#[]⟩, .int .i64 0]).alloc (.cells #[.string ⟨#[]⟩, .string ⟨#[]⟩, .int .i64 0] 29))
 have L0 := Bk.new (w.alloc (.cells #[.string ⟨#[]⟩, .string ⟨#[]⟩, .int .i64 0] 29)) 29 #[.string ⟨#[]⟩, .string ⟨#[]⟩, .int .i64 0]
 rw [World.size_alloc] at L0
 have HL0 := hid L0
 have HC := hid (((CStep.refl h).alloc (.cells #[.string ⟨#[]⟩, .string ⟨#[]⟩, .int .i64 0] 29)).alloc (.cells #[.string ⟨#[]⟩, .string ⟨#[]⟩, .int .i64 0] 29))
 unfold DrawLog logV
 clear h L0
 go_enter Tryz.func138, Tryz.ntmps138
 go_wp2_with fail
 refine (pick_c 7 g m _ HC.out.cur (by omega)).mono ?_
 rintro e w1 ⟨x, rfl, hx, hs⟩
 have HS := hid (HC.out.trans hs)
 have R1 := hid (R0.out.step hs (by omega))
 have L1 := hid (HL0.out.step hs (by omega))
 obtain ⟨k0, rfl⟩ := Int.eq_ofNat_of_zero_le hx.1
 have hk0 : k0 ≤ 6 := by have := hx.2 (by omega); omega
 clear hs hx HC R0 HL0
 go_wp2
 go_loopw [4] (fun j wr => ∃ (k : Nat) (d p : ByteArray) (n : Int), k ≤ 6 ∧ j = .int .i64 (k : Int) ∧ d.size + p.size ≤ 31000 ∧ Bk wr w.heap.size 29 #[.string ⟨#[]⟩, .string ⟨#[]⟩, .int .i64 0] ∧ Bk wr (w.heap.size + 1) 29 #[.string d, .string p, .int .i64 n] ∧ CStep w wr g (m + 2 + 15 * (6 - k))) (fun j _ => (intOf j).toNat)
 case atStart => exact ⟨k0, ⟨#[]⟩, ⟨#[]⟩, 0, hk0, rfl, by decide, R1.out, L1.out, HS.out.mono (by omega)⟩
 case round =>
  obtain ⟨k, d, p, n, hk, rfl, hdp, hr, hl, hs⟩ := hrel
  have HS := hid hs
  have HR := hid hr
  have HL := hid hl
  clear hs hr hl
  by_cases hk1 : 0 < k
  · have hd : decide (0 < (k : Int)) = true := by simp; omega
    go_wp2_with fail
    -- REGION
    have R_wd := HR.out.drew
    have L_wd := HL.out.drew
    have C_wd := HS.out.drew
    refine wp_region_held_drew (S := fun _ : World => True) (by kernel_rfl) trivial (fun hHeld => ?_)
    generalize World.drew _ = wd at *
    clear HR HL HS
    refine' tkY 1 hHeld ?r_t1
    try simp only [Act.put, xqA, xqB, xqC]
    refine wpAnyH_ready (rs := [0, 2]) (by kernel_rfl) (by simp) ?_
    refine' AllReadyH.cons (o := _) ?e_k2 ?st_k2 ?more_k2
    case e_k2 => (simp only [xeA, xeB, xeC]; exact rfl)
    case st_k2 =>
     intro K hK
     have l0 := L_wd.cell 0
     have l1 := L_wd.cell 1
     have l2 := L_wd.cell 2
     simp only [List.getElem?_toArray, List.getElem?_cons_zero, List.getElem?_cons_succ] at l0 l1 l2
     go_simp
     clear l0 l1 l2
     refine hK.out _ _ trivial (fun hHeld => ?_)
     clear hK K
     try simp only [Act.put, xqA, xqB, xqC]
     refine wpAnyH_ready (rs := [2]) (by kernel_rfl) (by simp) ?_
     refine' AllReadyH.cons (o := _) ?e_k3 ?st_k3 AllReadyH.nil
     case e_k3 => (simp only [xeA, xeB, xeC]; exact rfl)
     case st_k3 =>
      intro K hK
      go_simp
      refine (logRecord_c g _ wd C_wd.cur (by omega)).mono ?_
      rintro e we ⟨c, r, rfl, hc, hr, hs⟩
      have R_we := R_wd.step hs (by omega)
      have L_we := L_wd.step hs (by omega)
      have C_we := C_wd.trans hs
      clear hs R_wd L_wd C_wd
      unfold recV
      refine hK.out _ _ trivial (fun hHeld => ?_)
      clear hK K
      try simp only [Act.put, xqA, xqB, xqC]
      refine wpAnyH_ready (rs := [3]) (by kernel_rfl) (by simp) ?_
      refine' AllReadyH.cons (o := _) ?e_k4 ?st_k4 AllReadyH.nil
      case e_k4 => (simp only [xeA, xeB, xeC]; exact rfl)
      case st_k4 =>
       intro K hK
       go_simp
       refine (AppendRecordS_c d p n c r we (by omega) (by omega) (by omega) (by omega)).mono ?_
       rintro e wd3 ⟨ok, rfl, hok, hb2⟩
       have R_wd3 := R_we.below hb2
       have L_wd3 := L_we.below hb2
       have C_wd3 := C_we.below hb2
       clear hb2 R_we L_we C_we
       obtain ⟨d2, p2, n2, hV, hdp2⟩ := app_small (c := c) (r := r) hdp hok
       rw [hV]
       generalize (appV ok (recB c r) d p n c r).2 = st at *
       clear hV hok hdp hc hr
       unfold logV
       refine hK.out _ _ trivial (fun hHeld => ?_)
       clear hK K
       try simp only [Act.put, xqA, xqB, xqC]
       refine' tkY 4 hHeld ?r_t5
       try simp only [Act.put, xqA, xqB, xqC]
       refine' tkY 5 hHeld ?r_t6
       try simp only [Act.put, xqA, xqB, xqC]
       refine' tkY 6 hHeld ?r_t7
       try simp only [Act.put, xqA, xqB, xqC]
       refine wpAnyH_ready (rs := [7]) (by kernel_rfl) (by simp) ?_
       refine' AllReadyH.cons (o := _) ?e_k8 ?st_k8 AllReadyH.nil
       case e_k8 => (simp only [xeA, xeB, xeC]; exact rfl)
       case st_k8 =>
        intro K hK
        obtain ⟨l0, l1, l2, g0, g1, g2⟩ := L_wd3.three'
        go_simp
        clear l0 l1 l2 g0 g1 g2
        have R_wf := hid (R_wd3.three (k := w.heap.size + 1) (by omega) (.string d2) (.string p2) (.int .i64 n2))
        have L_wf := hid (three_res L_wd3 (.string d2) (.string p2) (.int .i64 n2))
        have C_wf := hid (C_wd3.three (k := w.heap.size + 1) hga (by omega) (.string d2) (.string p2) (.int .i64 n2))
        clear R_wd3 L_wd3 C_wd3
        generalize World.setCell _ _ (Value.int .i64 n2) = wf at *
        refine hK.out _ _ trivial (fun hHeld => ?_)
        clear hK K
        try simp only [Act.put, xqA, xqB, xqC]
        refine wpAnyH_done (by kernel_rfl) ?_ _
        go_wp2_with fail
        refine (one_c 4 g _ wf C_wf.out.cur (by omega)).mono ?_
        rintro e wg ⟨b, rfl, hs⟩
        have R_wg := hid (R_wf.out.step hs (by omega))
        have L_wg := hid (L_wf.out.step hs (by omega))
        have C_wg := hid (C_wf.out.trans hs)
        clear hs R_wf L_wf C_wf
        cases b with
        | false =>
         as_aux_lemma =>
          go_wp2
          go_roundw
          case rel => exact ⟨k - 1, d2, p2, n2, by omega, by go_num, hdp2, R_wg.out, L_wg.out, C_wg.out.mono (by omega)⟩
          case measure => simp [intOf]; omega
        | true =>
         as_aux_lemma =>
          have HSY := hid (fun W => SyncLogS_c d2 p2 n2 W (by omega) (by omega))
          unfold logV SyncOut at HSY
          obtain ⟨q0, q1, q2, _, _, _⟩ := L_wg.out.three'
          go_wp2_with fail
          refine (HSY.out _).mono ?_
          rintro e wh ⟨ok, rfl, _, hb2⟩
          have R_wh := hid (R_wg.out.below hb2)
          have L_wh := hid (L_wg.out.below hb2)
          have C_wh := hid (C_wg.out.below hb2)
          obtain ⟨d3, p3, n3, hV, hdp3⟩ := sync_small (ok := ok) (n := n2) hdp2
          rw [hV]
          unfold logV
          clear hb2 q0 q1 q2 R_wg L_wg C_wg hV HSY hdp2
          obtain ⟨l0, l1, l2, g0, g1, g2⟩ := L_wh.out.three'
          go_wp2
          go_roundw
          case rel => exact ⟨k - 1, d3, p3, n3, by omega, by go_num, hdp3, R_wh.out.three (k := w.heap.size + 1) (by omega) _ _ _, three_res L_wh.out _ _ _, (C_wh.out.three (k := w.heap.size + 1) hga (by omega) _ _ _).mono (by omega)⟩
          case measure => simp [intOf]; omega
    case more_k2 =>
     refine' AllReadyH.cons (o := _) ?e_k9 ?st_k9 AllReadyH.nil
     case e_k9 => (simp only [xeA, xeB, xeC]; exact rfl)
     case st_k9 =>
      intro K hK
      go_simp
      refine (logRecord_c g _ wd C_wd.cur (by omega)).mono ?_
      rintro e we ⟨c, r, rfl, hc, hr, hs⟩
      have R_we := R_wd.step hs (by omega)
      have L_we := L_wd.step hs (by omega)
      have C_we := C_wd.trans hs
      clear hs R_wd L_wd C_wd
      unfold recV
      refine hK.out _ _ trivial (fun hHeld => ?_)
      clear hK K
      try simp only [Act.put, xqA, xqB, xqC]
      refine wpAnyH_ready (rs := [0]) (by kernel_rfl) (by simp) ?_
      refine' AllReadyH.cons (o := _) ?e_k10 ?st_k10 AllReadyH.nil
      case e_k10 => (simp only [xeA, xeB, xeC]; exact rfl)
      case st_k10 =>
       intro K hK
       have l0 := L_we.cell 0
       have l1 := L_we.cell 1
       have l2 := L_we.cell 2
       simp only [List.getElem?_toArray, List.getElem?_cons_zero, List.getElem?_cons_succ] at l0 l1 l2
       go_simp
       clear l0 l1 l2
       refine hK.out _ _ trivial (fun hHeld => ?_)
       clear hK K
       try simp only [Act.put, xqA, xqB, xqC]
       refine wpAnyH_ready (rs := [3]) (by kernel_rfl) (by simp) ?_
       refine' AllReadyH.cons (o := _) ?e_k11 ?st_k11 AllReadyH.nil
       case e_k11 => (simp only [xeA, xeB, xeC]; exact rfl)
       case st_k11 =>
        intro K hK
        go_simp
        refine (AppendRecordS_c d p n c r we (by omega) (by omega) (by omega) (by omega)).mono ?_
        rintro e wd3 ⟨ok, rfl, hok, hb2⟩
        have R_wd3 := R_we.below hb2
        have L_wd3 := L_we.below hb2
        have C_wd3 := C_we.below hb2
        clear hb2 R_we L_we C_we
        obtain ⟨d2, p2, n2, hV, hdp2⟩ := app_small (c := c) (r := r) hdp hok
        rw [hV]
        generalize (appV ok (recB c r) d p n c r).2 = st at *
        clear hV hok hdp hc hr
        unfold logV
        refine hK.out _ _ trivial (fun hHeld => ?_)
        clear hK K
        try simp only [Act.put, xqA, xqB, xqC]
        refine' tkY 4 hHeld ?r_t12
        try simp only [Act.put, xqA, xqB, xqC]
        refine' tkY 5 hHeld ?r_t13
        try simp only [Act.put, xqA, xqB, xqC]
        refine' tkY 6 hHeld ?r_t14
        try simp only [Act.put, xqA, xqB, xqC]
        refine wpAnyH_ready (rs := [7]) (by kernel_rfl) (by simp) ?_
        refine' AllReadyH.cons (o := _) ?e_k15 ?st_k15 AllReadyH.nil
        case e_k15 => (simp only [xeA, xeB, xeC]; exact rfl)
        case st_k15 =>
         intro K hK
         obtain ⟨l0, l1, l2, g0, g1, g2⟩ := L_wd3.three'
         go_simp
         clear l0 l1 l2 g0 g1 g2
         have R_wf := hid (R_wd3.three (k := w.heap.size + 1) (by omega) (.string d2) (.string p2) (.int .i64 n2))
         have L_wf := hid (three_res L_wd3 (.string d2) (.string p2) (.int .i64 n2))
         have C_wf := hid (C_wd3.three (k := w.heap.size + 1) hga (by omega) (.string d2) (.string p2) (.int .i64 n2))
         clear R_wd3 L_wd3 C_wd3
         generalize World.setCell _ _ (Value.int .i64 n2) = wf at *
         refine hK.out _ _ trivial (fun hHeld => ?_)
         clear hK K
         try simp only [Act.put, xqA, xqB, xqC]
         refine wpAnyH_done (by kernel_rfl) ?_ _
         go_wp2_with fail
         refine (one_c 4 g _ wf C_wf.out.cur (by omega)).mono ?_
         rintro e wg ⟨b, rfl, hs⟩
         have R_wg := hid (R_wf.out.step hs (by omega))
         have L_wg := hid (L_wf.out.step hs (by omega))
         have C_wg := hid (C_wf.out.trans hs)
         clear hs R_wf L_wf C_wf
         cases b with
         | false =>
          as_aux_lemma =>
           go_wp2
           go_roundw
           case rel => exact ⟨k - 1, d2, p2, n2, by omega, by go_num, hdp2, R_wg.out, L_wg.out, C_wg.out.mono (by omega)⟩
           case measure => simp [intOf]; omega
         | true =>
          as_aux_lemma =>
           have HSY := hid (fun W => SyncLogS_c d2 p2 n2 W (by omega) (by omega))
           unfold logV SyncOut at HSY
           obtain ⟨q0, q1, q2, _, _, _⟩ := L_wg.out.three'
           go_wp2_with fail
           refine (HSY.out _).mono ?_
           rintro e wh ⟨ok, rfl, _, hb2⟩
           have R_wh := hid (R_wg.out.below hb2)
           have L_wh := hid (L_wg.out.below hb2)
           have C_wh := hid (C_wg.out.below hb2)
           obtain ⟨d3, p3, n3, hV, hdp3⟩ := sync_small (ok := ok) (n := n2) hdp2
           rw [hV]
           unfold logV
           clear hb2 q0 q1 q2 R_wg L_wg C_wg hV HSY hdp2
           obtain ⟨l0, l1, l2, g0, g1, g2⟩ := L_wh.out.three'
           go_wp2
           go_roundw
           case rel => exact ⟨k - 1, d3, p3, n3, by omega, by go_num, hdp3, R_wh.out.three (k := w.heap.size + 1) (by omega) _ _ _, three_res L_wh.out _ _ _, (C_wh.out.three (k := w.heap.size + 1) hga (by omega) _ _ _).mono (by omega)⟩
           case measure => simp [intOf]; omega
    -- END
  · have hd : decide (0 < (k : Int)) = false := by simp; omega
    obtain ⟨q0, q1, q2, _, _, _⟩ := HL.out.three'
    obtain ⟨_, _, _, f0, f1, f2⟩ := HR.out.three'
    go_wp2
    exact bodyPost_ret (v := .agg #[.string d, .string p, .int .i64 n]) (by
     have z := three_res HR.out (.string d) (.string p) (.int .i64 n)
     have z0 := z.cell 0; have z1 := z.cell 1; have z2 := z.cell 2
     simp only [List.getElem?_toArray, List.getElem?_cons_zero, List.getElem?_cons_succ] at z0 z1 z2
     simp [results, Tryz.results138, go_sem, z0, z1, z2]) rfl ⟨d, p, n, rfl, hdp, (HS.out.three (k := w.heap.size) hga (Nat.le_refl _) _ _ _).mono (by omega)⟩
set_option maxHeartbeats 2000000 in
theorem anyLog_c (g m : Nat) (w : World) (h : CurAt w g m) (hm : m + 140 < 4611686018427387904) :
 Calls Tryz.prog 86 #[.pointer (some ⟨g, 0, none⟩)] w (DrawLog w g (m + 140) 70000) := by
 have hga := h.lt
 have R0 := hid (Bk.new w 29 #[.string ⟨#[]⟩, .string ⟨#[]⟩, .int .i64 0])
 have HC := hid ((CStep.refl h).alloc (.cells #[.string ⟨#[]⟩, .string ⟨#[]⟩, .int .i64 0] 29))
 have HLG := hid (fun W hW => log12_c g m W hW (by omega))
 unfold DrawLog logV at *
 clear h
 go_enter Tryz.func86, Tryz.ntmps86
 go_wp2_with fail
 refine (HLG.out _ HC.out.cur).mono ?_
 rintro e w1 ⟨d, p, n, rfl, hdp, hs⟩
 have hw1 : w.heap.size < w1.heap.size := (R0.out.step hs (by omega)).lt
 have L1 := hid (Bk.new w1 29 #[.string d, .string p, .int .i64 n])
 have R1 := hid ((R0.out.step hs (by omega)).alloc (.cells #[.string d, .string p, .int .i64 n] 29))
 have HS1 := hid ((HC.out.trans hs).alloc (.cells #[.string d, .string p, .int .i64 n] 29))
 have hg1 := (HC.out.trans hs).cur.lt
 clear hs HC R0
 go_wp2_with fail
 refine (pick_c 24 g _ _ HS1.out.cur (by omega)).mono ?_
 rintro e w2 ⟨x, rfl, hx, hs⟩
 have L2 := hid (L1.out.step hs (by omega))
 have R2 := hid (R1.out.step hs (by omega))
 have HS2 := hid (HS1.out.trans hs)
 clear hs hx HS1 L1 R1
 obtain ⟨q0, q1, q2, f0, f1, f2⟩ := L2.out.three'
 obtain ⟨_, _, _, g0, g1, g2⟩ := R2.out.three'
 have FIN : ∀ (D P : ByteArray) (N : Int) (W : World), D.size + P.size ≤ 70000 → CStep w W g (m + 140) → Bk W w.heap.size 29 #[.string ⟨#[]⟩, .string ⟨#[]⟩, .int .i64 0] →
  ∃ (d p : ByteArray) (n : Int), (Ending.returned (.agg #[.string D, .string P, .int .i64 N])) = .returned (.agg #[.string d, .string p, .int .i64 n]) ∧ d.size + p.size ≤ 70000 ∧ CStep w (((W.setCell ⟨w.heap.size, 0, none⟩ (.string D)).setCell ⟨w.heap.size, 1, none⟩ (.string P)).setCell ⟨w.heap.size, 2, none⟩ (.int .i64 N)) g (m + 140) :=
  fun D P N W h1 h2 h3 => ⟨D, P, N, rfl, h1, h2.three (k := w.heap.size) hga (Nat.le_refl _) _ _ _⟩
 have HF := hid FIN
 clear FIN
 by_cases e0 : x = 0
 · subst e0
   go_wp2
   exact bodyPost_ret (v := .agg #[.string d, .string p, .int .i64 (wrap64 (n + 1))]) (by
    have z := three_res (R2.out.other (p := ⟨w1.heap.size, 2, none⟩) (by show w.heap.size ≠ w1.heap.size; omega) (.int .i64 (wrap64 (n + 1)))) (.string d) (.string p) (.int .i64 (wrap64 (n + 1)))
    have z0 := z.cell 0; have z1 := z.cell 1; have z2 := z.cell 2
    simp only [List.getElem?_toArray, List.getElem?_cons_zero, List.getElem?_cons_succ] at z0 z1 z2
    simp [results, Tryz.results86, go_sem, z0, z1, z2]) rfl (HF.out d p (wrap64 (n + 1)) _ (by omega) ((HS2.out.store hga (p := ⟨w1.heap.size, 2, none⟩) (by show w.heap.size ≤ w1.heap.size; omega) (.int .i64 (wrap64 (n + 1)))).mono (by omega)) (R2.out.other (p := ⟨w1.heap.size, 2, none⟩) (by show w.heap.size ≠ w1.heap.size; omega) (.int .i64 (wrap64 (n + 1)))))
 · by_cases e1 : x = 1
   · subst e1
     go_wp2_with fail
     refine (spoilt_c p g _ _ HS2.out.cur (by omega) (by omega)).mono ?_
     rintro e w3 ⟨s, rfl, hs0, hs⟩
     have L3 := hid (L2.out.step hs (by omega))
     have R3 := hid (R2.out.step hs (by omega))
     have HS3 := hid (HS2.out.trans hs)
     clear hs HS2 L2 R2 q0 q1 q2 f0 f1 f2 g0 g1 g2
     obtain ⟨q0, q1, q2, f0, f1, f2⟩ := L3.out.three'
     obtain ⟨_, _, _, g0, g1, g2⟩ := R3.out.three'
     go_wp2
     exact bodyPost_ret (v := .agg #[.string d, .string s, .int .i64 n]) (by
      have z := three_res (R3.out.other (p := ⟨w1.heap.size, 1, none⟩) (by show w.heap.size ≠ w1.heap.size; omega) (.string s)) (.string d) (.string s) (.int .i64 n)
      have z0 := z.cell 0; have z1 := z.cell 1; have z2 := z.cell 2
      simp only [List.getElem?_toArray, List.getElem?_cons_zero, List.getElem?_cons_succ] at z0 z1 z2
      simp [results, Tryz.results86, go_sem, z0, z1, z2]) rfl (HF.out d s n _ (by omega) ((HS3.out.store hga (p := ⟨w1.heap.size, 1, none⟩) (by show w.heap.size ≤ w1.heap.size; omega) (.string s)).mono (by omega)) (R3.out.other (p := ⟨w1.heap.size, 1, none⟩) (by show w.heap.size ≠ w1.heap.size; omega) (.string s)))
   · by_cases e2 : x = 2
     · subst e2
       have hsz : ¬ 9223372036854775807 < d.size + p.size := by omega
       go_wp2
       exact bodyPost_ret (v := .agg #[.string (d ++ p), .string p, .int .i64 n]) (by
        have z := three_res (R2.out.other (p := ⟨w1.heap.size, 0, none⟩) (by show w.heap.size ≠ w1.heap.size; omega) (.string (d ++ p))) (.string (d ++ p)) (.string p) (.int .i64 n)
        have z0 := z.cell 0; have z1 := z.cell 1; have z2 := z.cell 2
        simp only [List.getElem?_toArray, List.getElem?_cons_zero, List.getElem?_cons_succ] at z0 z1 z2
        simp [results, Tryz.results86, go_sem, z0, z1, z2]) rfl (HF.out (d ++ p) p n _ (by rw [app_size]; omega) ((HS2.out.store hga (p := ⟨w1.heap.size, 0, none⟩) (by show w.heap.size ≤ w1.heap.size; omega) (.string (d ++ p))).mono (by omega)) (R2.out.other (p := ⟨w1.heap.size, 0, none⟩) (by show w.heap.size ≠ w1.heap.size; omega) (.string (d ++ p))))
     · go_wp2
       exact bodyPost_ret (v := .agg #[.string d, .string p, .int .i64 n]) (by
        have z := three_res R2.out (.string d) (.string p) (.int .i64 n)
        have z0 := z.cell 0; have z1 := z.cell 1; have z2 := z.cell 2
        simp only [List.getElem?_toArray, List.getElem?_cons_zero, List.getElem?_cons_succ] at z0 z1 z2
        simp [results, Tryz.results86, go_sem, z0, z1, z2]) rfl (HF.out d p n _ (by omega) (HS2.out.mono (by omega)) R2.out)
theorem Bk.rangeL {w : World} {g t : Nat} {b : List Value} (h : Bk w g t b.toArray) : w.rangeAt g 0 b := fun j v hv => by
 rw [Nat.zero_add, h.cell j]; simpa using hv
theorem info_Log3 : (Tryz.prog.info? 29).map (·.size) = some 3 := by kernel_rfl
theorem res_cells2 {P : Program} {fn : Func} {r r2 : Nat} {t t2 : TypeId} {tmps : Array Value} {w : World} {g g2 : Nat} {v v2 : Value} (h : fn.results = #[.cell r t, .cell r2 t2]) (hr : tmps.getD r undef = .pointer (some ⟨g, 0, none⟩)) (hr2 : tmps.getD r2 undef = .pointer (some ⟨g2, 0, none⟩)) (hl : (loadVar t ⟨g, 0, none⟩).run P w = .ok v w) (hl2 : (loadVar t2 ⟨g2, 0, none⟩).run P w = .ok v2 w) :
 (results fn tmps).run P w = .ok (.tuple #[v, v2]) w := by
 unfold results
 rw [h]
 simp only [List.mapM_toArray, List.mapM_cons, List.mapM_nil, Sem.run_bind, Sem.run_pure, Sem.run_map, Result.andThen_ok, hr, hr2, asAddr, hl, hl2]
 rfl
end Go.Proofs.YtohgjfdbnkjefaaGreatDoor
