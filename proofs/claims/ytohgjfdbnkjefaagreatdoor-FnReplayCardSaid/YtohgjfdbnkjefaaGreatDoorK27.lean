import Derived.Test.YtohgjfdbnkjefaaGreatDoorK26
import Derived.DeepKeys
import Derived.ChangeKeysEq
import Derived.Laws.StructEq
import Derived.Deep.RegionHeld3
import Derived.Deep.DeepCutAuto
open Go.Lib (hid)
namespace Go.Proofs.YtohgjfdbnkjefaaGreatDoor
open Go.RowKit
set_option linter.unusedVariables false
set_option linter.unusedSimpArgs false
set_option maxRecDepth 100000
def DrawRL (w : World) (e : Ending) (w' : World) : Prop := ∃ (b : List Int) (d p : ByteArray) (n : Int), b.length = 19 ∧ d.size ≤ 1048576 ∧ p.size ≤ 1048576 ∧ e = .returned (.tuple #[.agg (ints b).toArray, .agg #[.string d, .string p, .int .i64 n]]) ∧ Below w.heap.size w w'
theorem CSt.c3 {w wx : World} {g m O : Nat} {R : List (Nat × Nat × Array Value)} {c : Cst} (h : CSt w wx g m O R c) : wx.cell? ⟨O, 19, none⟩ = some (.string c.d) ∧ wx.cell? ⟨O, 20, none⟩ = some (.string c.p) ∧ wx.cell? ⟨O, 21, none⟩ = some (.int .i64 c.n) := ⟨h.c19, h.c20, h.c21⟩
set_option maxHeartbeats 16000000 in
theorem DrawReplayLog_c (v : Value) (xs : List Nat) (w : World) (h : Code w v xs) :
 Calls Tryz.prog 49 #[v] w (DrawRL w) := by
 have B1 := below_one (w := w) (.cells zBA 26)
 have B2 := Below.alc B1 (.cells #[.string ⟨#[]⟩, .string ⟨#[]⟩, .int .i64 0] 29)
 have HK := hid (cur_new (h.below B2))
 obtain ⟨a, c, rfl, _⟩ := h
 have HBW := hid (Below.alc B2 (.cells #[.slice a xs.length c, .int .i64 0, .int .u64 0] 83))
 have R1 : Hid (Bk (((w.alloc (.cells zBA 26)).alloc (.cells #[.string ⟨#[]⟩, .string ⟨#[]⟩, .int .i64 0] 29)).alloc (.cells #[.slice a xs.length c, .int .i64 0, .int .u64 0] 83)) w.heap.size 26 (ints zeroI).toArray) := ((Bk.new w 26 zBA).alloc _).alloc _
 have R2 := hid ((Bk.new (w.alloc (.cells zBA 26)) 29 #[.string ⟨#[]⟩, .string ⟨#[]⟩, .int .i64 0]).alloc (.cells #[.slice a xs.length c, .int .i64 0, .int .u64 0] 83))
 have hsz := hid (show (((w.alloc (.cells zBA 26)).alloc (.cells #[.string ⟨#[]⟩, .string ⟨#[]⟩, .int .i64 0] 29)).alloc (.cells #[.slice a xs.length c, .int .i64 0, .int .u64 0] 83)).heap.size = w.heap.size + 3 by simp)
 simp only [World.size_alloc] at HK R2
 clear B1 B2
 go_enter Tryz.func49, Tryz.ntmps49
 go_upto_region 2 with fail
 unfold zBA at *
 generalize World.alloc _ (.cells #[.slice a xs.length c, .int .i64 0, .int .u64 0] 83) = W0 at *
 go_wp2_with fail
 refine (bench_c (w.heap.size + 1 + 1) 0 W0 HK.out (by omega)).mono ?_
 rintro e w1 ⟨b, hb, rfl, hs⟩
 have T1 := (Bk.new w1 26 zBA).there (n := 19) (by decide)
 have Z1 : Hid (Bk ((w1.alloc (.cells zBA 26)).setCells w1.heap.size 0 (ints b)) w1.heap.size 26 (ints b).toArray) := Bk.putB (b := zeroI) (Bk.new w1 26 zBA) zero_len hb
 have hw1 := hs.gr.size
 have hg1 := hs.cur.lt
 have HS : Hid (CStep W0 ((w1.alloc (.cells zBA 26)).setCells w1.heap.size 0 (ints b)) (w.heap.size + 1 + 1) (0 + 420)) := (hs.alloc _).puts _ 0 (by have := hsz.out; omega) hs.gr.size
 replace R1 := hid (((R1.out.step hs (by omega)).alloc (.cells zBA 26)).far (ints b) (g2 := w1.heap.size) 0 (by omega))
 replace R2 := hid (((R2.out.step hs (by omega)).alloc (.cells zBA 26)).far (ints b) (g2 := w1.heap.size) 0 (by omega))
 clear hs HK
 unfold zBA aggI at *
 go_upto_region 3 with (refine wpList_storeB rfl _ _ rfl _ b rfl rfl ?_ hb ?_; exact T1)
 generalize hO : w1.heap.size = B3 at *
 generalize World.setCells _ B3 0 _ = w2 at *
 clear T1 hO
 have HN := hid (fun W => sNewConsole_c b W hb)
 unfold ncV aggI at HN
 have hl : (ncB b).length = 19 := by unfold ncB; split; exact hb; exact zero_len
 generalize ncB b = b1 at *
 generalize goodB b = okb at *
 go_wp2_with (refine wpList_loadB rfl _ rfl _ rfl b ?_ hb ?_; exact Z1.out.range)
 refine (HN.out _).mono ?_
 rintro e w3 ⟨rfl, hb3⟩
 have hBw := Z1.out.lt
 have hf : Cst.fit ⟨b1, ByteArray.empty, ByteArray.empty, 0⟩ := ⟨hl, by show 0 ≤ _; omega, by show 0 ≤ _; omega⟩
 have HC := hid (CSt.start (c := ⟨b1, ByteArray.empty, ByteArray.empty, 0⟩) (R := [(w.heap.size, 26, (ints zeroI).toArray), (w.heap.size + 1, 29, #[.string ⟨#[]⟩, .string ⟨#[]⟩, .int .i64 0]), (B3, 26, (ints b).toArray)]) hf (HS.out.below hb3) (by have := hsz.out; omega) (fun x hx => by
  simp only [List.mem_cons, List.not_mem_nil, or_false] at hx
  rcases hx with rfl | rfl | rfl
  · exact ⟨by show w.heap.size ≠ w.heap.size + 1 + 1; omega, R1.out.below hb3⟩
  · exact ⟨by show w.heap.size + 1 ≠ w.heap.size + 1 + 1; omega, R2.out.below hb3⟩
  · exact ⟨by show B3 ≠ w.heap.size + 1 + 1; omega, Z1.out.below hb3⟩))
 have HR3 := hid (fun (wx : World) (m' O' : Nat) (c' : Cst) (h : CSt W0 wx (w.heap.size + 1 + 1) m' O' [(w.heap.size, 26, (ints zeroI).toArray), (w.heap.size + 1, 29, #[.string ⟨#[]⟩, .string ⟨#[]⟩, .int .i64 0]), (B3, 26, (ints b).toArray)] c') => And.intro (h.rs (w.heap.size, 26, (ints zeroI).toArray) (by simp)) (And.intro (h.rs (w.heap.size + 1, 29, #[.string ⟨#[]⟩, .string ⟨#[]⟩, .int .i64 0]) (by simp)) (h.rs (B3, 26, (ints b).toArray) (by simp))))
 generalize [(w.heap.size, 26, (ints zeroI).toArray), (w.heap.size + 1, 29, #[Value.string ⟨#[]⟩, Value.string ⟨#[]⟩, Value.int .i64 0]), (B3, 26, (ints b).toArray)] = R at *
 have rt := (Bk.newC w3).thereZ
 clear hb3 HS R1 R2 Z1 HN
 unfold zCA at *
 go_wp2_with (refine wpList_storeC rfl _ _ rfl _ b1 ByteArray.empty ByteArray.empty 0 rfl rfl ?_ hl ?_; exact rt)
 generalize hO : w3.heap.size = O at *
 generalize World.setCells _ O 0 _ = w4 at *
 clear rt hO
 refine (pick_c 7 _ _ _ HC.out.cs.cur (by omega)).mono ?_
 rintro e w5 ⟨x, rfl, hx, hs⟩
 replace HC := hid (HC.out.step hs)
 obtain ⟨n, rfl⟩ := Int.eq_ofNat_of_zero_le hx.1
 have hn : n ≤ 6 := by have := hx.2 (by omega); omega
 clear hs hx
 go_upto_block 0 with fail
 go_cut [8] (fun s8 wx => ∃ c, CSt W0 wx (w.heap.size + 1 + 1) 700 O R c)
 case first =>
  go_wp2
  go_loopw [8] (fun j wr => ∃ (k : Nat) (c : Cst), k ≤ 6 ∧ j = .int .i64 (k : Int) ∧ Hid (CSt W0 wr (w.heap.size + 1 + 1) (430 + 30 * (6 - k)) O R c)) (fun j _ => (intOf j).toNat)
  case atStart => exact ⟨n, _, hn, rfl, HC.out.mono (by omega)⟩
  case round =>
   obtain ⟨k, c, hk, rfl, HR⟩ := hrel
   clear HC
   rcases hgo : (decide (0 < k) && okb) with _ | _
   rotate_left
   · simp only [Bool.and_eq_true, decide_eq_true_eq] at hgo
     obtain ⟨hk0, rfl⟩ := hgo
     have hl := HR.out.hf.hb
     have hd : decide (0 < (k : Int)) = true := by simp; omega
     have HJ := hid (fun M W h1 h2 => line12_c (w.heap.size + 1 + 1) M W h1 h2)
     have HD := hid (fun (t : ByteArray) (ht : t.size ≤ 100) => exS_let c HR.out.hf t (by omega))
     unfold DrawTx at HJ
     go_upto_region 7 with fail
     go_cut [9, 10] (fun s9 s10 wx => ∃ (q : Nat) (s : ByteArray) (c' : Cst), s9 = .pointer (some ⟨q, 0, none⟩) ∧ s10 = .string s ∧ c'.fit ∧ Hid (Bk wx q 31 (csC c'.b c'.d c'.p c'.n).toArray) ∧ Hid (CSt W0 wx (w.heap.size + 1 + 1) (430 + 30 * (6 - (k - 1))) O R c))
     case first =>
      have F := HR.out.drew
      clear HR
      refine wp_region_held_drew (S := fun w' : World => Bk w' O 31 (csC c.b c.d c.p c.n).toArray) (by kernel_rfl) F.cb (fun hHeld => ?_)
      generalize World.drew _ = wd at *
      refine' tkL 0 hHeld (cs := csC c.b c.d c.p c.n) (fun w' (h : Bk w' O 31 (csC c.b c.d c.p c.n).toArray) => h.range) Tryz.underlying31 (by rw [csC_len hl]; kernel_rfl) ?_
      refine' tkZ 1 hHeld ?_
      repeat' first
       | refine' tkZ 4 hHeld ?_
       | refine' tkZ 5 hHeld ?_
       | refine' tkZ 6 hHeld ?_
       | refine' tkZ 9 hHeld ?_
       | (refine wpAnyH_done (by decide +kernel) ?_ _
          go_wp2_with fail
          go_meet
          exact ⟨_, _, _, rfl, rfl, hY, A, F.mono (by omega)⟩)
       | (refine rdyS [8] (rdy ?_ .nil)
          intro K hK
          rw [if_pos (by rfl)]
          refine wp_store_mid _ _ _ rfl _ _ (csC c'.b c'.d c'.p c'.n).toArray rfl rfl (A.there (by simp [csC_len hY.hb, csC_len zero_len])) (by simp only [List.size_toArray, csC_len hY.hb]; kernel_rfl) (all_oneCell_toArray csC_one) ?_
          rw [List.toList_toArray]
          replace A := A.putC (b := zeroI) (d2 := c'.d) (p2 := c'.p) (n2 := c'.n) zero_len hY.hb
          replace F := F.far hq 0 (csC c'.b c'.d c'.p c'.n)
          generalize World.setCells _ _ _ _ = wd at *
          refine hK.out _ _ F.cb fun hHeld => nrm ?_
          clear hK K)
       | ((first
            | refine rdyS [2, 7] (rdy ?_ (rdy ?_ .nil))
            | refine rdyS [3, 7] (rdy ?_ (rdy ?_ .nil))
            | refine rdyS [7] (rdy ?_ .nil)
            | refine rdyS [2] (rdy ?_ .nil)
            | refine rdyS [3] (rdy ?_ .nil)) <;>
          (intro K hK
           go_simp
           first
            | (with_reducible refine (HJ.out _ _ F.cs.cur ?_).mono ?_
               · omega
               rintro e wd ⟨t, rfl, ht, hs⟩
               replace F := F.step hs
               try replace A := A.step hs (by have := F.hg; have := F.hO; omega))
            | (obtain ⟨c', hY, HE⟩ := HD.out t ht
               with_reducible refine (HE _).mono ?_
               clear HE
               rintro e wd ⟨s, rfl, hb2⟩
               replace F := F.below hb2
               try replace A := A.below hb2)
            | (have A : Bk (wd.alloc (.cells zCA 31)) wd.heap.size 31 (csC zeroI ByteArray.empty ByteArray.empty 0).toArray := Bk.new wd 31 zCA
               have hq := F.cb.lt
               replace F := F.alloc (.cells zCA 31)
               unfold zCA at *
               generalize wd.heap.size = q at *
               generalize World.alloc _ _ = wd at *)
           refine hK.out _ _ F.cb fun hHeld => nrm ?_
           clear hK K))
     case rest =>
      obtain ⟨q, s, c', rfl, rfl, hY, AC, HF⟩ := hcut
      clear HR HJ HD
      have ar := AC.out.range
      have rt := HF.out.cb.there (n := 22) (by simp [csC_len hl])
      have HF2 := hid (HF.out.put hY)
      have hYb := hY.hb
      go_wp2_with (first | (refine wpList_loadC rfl _ rfl _ rfl _ _ _ _ ar hYb ?_) | (refine wpList_storeC rfl _ _ rfl _ c'.b c'.d c'.p c'.n rfl rfl rt hYb ?_))
      go_roundw
      case rel => exact ⟨k - 1, c', by omega, by go_num, HF2.out⟩
      case measure => simp [intOf]; omega
   · have HF : Hid (∃ c, CSt W0 wr (w.heap.size + 1 + 1) 700 O R c) := ⟨c, HR.out.mono (by omega)⟩
     clear HR
     go_wp2_with fail
     all_goals first | (go_meet; exact HF.out) | (exfalso; simp_all; done)
 case rest =>
  obtain ⟨c, hc⟩ := hcut
  replace HC := hid hc
  clear hc
  go_wp2_with fail
  refine (one_c 4 _ _ _ HC.out.cs.cur (by omega)).mono ?_
  rintro e w6 ⟨y, rfl, hs⟩
  replace HC := hid (HC.out.step hs)
  clear hs
  go_upto_if 41 with fail
  go_cut [11, 12] (fun s11 s12 wx => ∃ c, CSt W0 wx (w.heap.size + 1 + 1) 800 O R c)
  case first =>
   cases y with
   | false =>
    go_wp2_with fail
    go_meet
    exact ⟨_, HC.out.mono (by omega)⟩
   | true =>
    have HJ := hid (fun M W h1 h2 => logRecord_c (w.heap.size + 1 + 1) M W h1 h2)
    have HD := hid (fun (t r : ByteArray) (ht : t.size ≤ 100) (hr : r.size ≤ 100) => apS_let c.b c.d c.p c.n HC.out.hf t r (by omega) (by omega))
    unfold DrawRec recV at HJ
    go_upto_region 10 with fail
    go_cut [11, 12] (fun s11 s12 wx => ∃ (q : Nat) (d' p' : ByteArray) (n' st : Int), s11 = .pointer (some ⟨q, 0, none⟩) ∧ s12 = .int .i64 st ∧ (⟨c.b, d', p', n'⟩ : Cst).fit ∧ Hid (Bk wx q 29 #[.string d', .string p', .int .i64 n']) ∧ Hid (CSt W0 wx (w.heap.size + 1 + 1) 790 O R c))
    case first =>
     have F := HC.out.drew
     clear HC
     refine wp_region_held_drew (S := fun w' : World => w'.cell? ⟨O, 19, none⟩ = some (.string c.d) ∧ w'.cell? ⟨O, 20, none⟩ = some (.string c.p) ∧ w'.cell? ⟨O, 21, none⟩ = some (.int .i64 c.n)) (by kernel_rfl) (F.c3) (fun hHeld => ?_)
     generalize World.drew _ = wd at *
     refine' tkZ 0 hHeld ?_
     refine' tkZ 1 hHeld ?_
     refine' tkZ 2 hHeld ?_
     repeat' first
      | refine' tkZ 5 hHeld ?_
      | refine' tkZ 6 hHeld ?_
      | refine' tkZ 7 hHeld ?_
      | refine' tkZ 10 hHeld ?_
      | (refine wpAnyH_done (by decide +kernel) ?_ _
         go_wp2_with fail
         go_meet
         exact ⟨_, _, _, _, _, rfl, rfl, hY, A, F.mono (by omega)⟩)
      | (refine rdyS [9] (rdy ?_ .nil)
         intro K hK
         rw [if_pos (by rfl)]
         refine wp_store_mid _ _ _ rfl _ _ #[.string d', .string p', .int .i64 n'] rfl rfl (A.there (Nat.le_refl 3)) (by kernel_rfl) (by simp [Value.oneCell']) ?_
         replace A := ((A.set 0 (.string d')).set 1 (.string p')).set 2 (.int .i64 n')
         replace F := F.far hq 0 [.string d', .string p', .int .i64 n']
         refine hK.out _ _ (F.c3) fun hHeld => nrm ?_
         clear hK K)
      | ((first
           | refine rdyS [3, 8] (rdy ?_ (rdy ?_ .nil))
           | refine rdyS [4, 8] (rdy ?_ (rdy ?_ .nil))
           | refine rdyS [8] (rdy ?_ .nil)
           | refine rdyS [3] (rdy ?_ .nil)
           | refine rdyS [4] (rdy ?_ .nil)) <;>
         (intro K hK
          go_simp
          first
           | (with_reducible refine (HJ.out _ _ F.cs.cur ?_).mono ?_
              · omega
              rintro e wd ⟨t, r, rfl, ht, hr, hs⟩
              replace F := F.step hs
              try replace A := A.step hs (by have := F.hg; have := F.hO; omega))
           | (obtain ⟨d', p', n', st, hY, _, HE⟩ := HD.out t r ht hr
              with_reducible refine (HE _).mono ?_
              clear HE
              rintro e wd ⟨rfl, hb2⟩
              replace F := F.below hb2
              try replace A := A.below hb2)
           | (have A := Bk.new wd 29 #[.string ⟨#[]⟩, .string ⟨#[]⟩, .int .i64 0]
              have hq := F.cb.lt
              replace F := F.alloc (.cells #[.string ⟨#[]⟩, .string ⟨#[]⟩, .int .i64 0] 29)
              generalize wd.heap.size = q at *
              generalize World.alloc _ _ = wd at *)
          refine hK.out _ _ (F.c3) fun hHeld => nrm ?_
          clear hK K))
    case rest =>
     obtain ⟨q, d', p', n', st, rfl, rfl, hY, AC, HF⟩ := hcut
     clear HC HJ HD
     have a0 : wc.cell? ⟨q, 0, none⟩ = some (.string d') := AC.out.cell 0
     have a1 : wc.cell? ⟨q, 1, none⟩ = some (.string p') := AC.out.cell 1
     have a2 : wc.cell? ⟨q, 2, none⟩ = some (.int .i64 n') := AC.out.cell 2
     have z19 := HF.out.c19
     have z20 := HF.out.c20
     have z21 := HF.out.c21
     have f19 := HF.out.cb.frozen 19
     have f20 := HF.out.cb.frozen 20
     have f21 := HF.out.cb.frozen 21
     have H9 := hid (HF.out.log hY)
     clear HF AC
     go_wp2_with fail
     go_meet
     exact ⟨_, H9.out.mono (by omega)⟩
  case rest =>
   obtain ⟨c, hc⟩ := hcut
   replace HC := hid hc
   clear hc
   go_wp2_with fail
   refine (one_c 8 _ _ _ HC.out.cs.cur (by omega)).mono ?_
   rintro e w7 ⟨y, rfl, hs⟩
   replace HC := hid (HC.out.step hs)
   clear hs
   have hO := HC.out.hO
   have hcf := HC.out.hf
   cases y with
   | true =>
    have HJ := hid (fun M W h1 h2 => anyLog_c (w.heap.size + 1 + 1) M W h1 h2)
    unfold DrawLog logV at HJ
    go_upto_region 13 with fail
    have F := HC.out.drew
    clear HC
    refine wp_region_held_drew (S := fun w' : World => Bk w' B3 26 (ints b).toArray) (by kernel_rfl) (HR3.out _ _ _ _ F).2.2 (fun hHeld => ?_)
    generalize World.drew _ = wd at *
    refine' tkL 0 hHeld (cs := ints b) (fun w' (h : Bk w' B3 26 (ints b).toArray) => h.range) Tryz.underlying26 (hi19 hb) ?_
    refine' tkZ 1 hHeld ?_
    refine rdyS [2] (rdy ?_ .nil)
    intro K hK
    go_simp
    refine (HJ.out _ _ F.cs.cur (by omega)).mono ?_
    rintro e w8 ⟨d, p, n, rfl, hdp, hs⟩
    replace F := F.step hs
    obtain ⟨Q0, Q1, Q3⟩ := HR3.out _ _ _ _ F
    refine hK.out _ _ Q3 fun hHeld => nrm ?_
    clear hK K hs HJ
    have HL := hid (HBW.out.trans (F.cs.low (B := w.heap.size) (by omega) (by have := hsz.out; omega)))
    clear F HR3
    have rb := Q0.there (n := 19) (by decide)
    have N0 : Bk (w8.setCells w.heap.size 0 (ints b)) w.heap.size 26 (ints b).toArray := Bk.putB (b := zeroI) Q0 zero_len hb
    have N1 := Q1.far (ints b) (g2 := w.heap.size) 0 (by omega)
    have N3 := Q3.far (ints b) (g2 := w.heap.size) 0 (by have := hsz.out; omega)
    have M0 := N0.far [.string d, .string p, .int .i64 n] (g2 := w.heap.size + 1) 0 (by omega)
    have M1 := ((N1.set 0 (.string d)).set 1 (.string p)).set 2 (.int .i64 n)
    have M3 := N3.far [.string d, .string p, .int .i64 n] (g2 := w.heap.size + 1) 0 (by have := hsz.out; omega)
    have HL2 := hid (below_cells [.string d, .string p, .int .i64 n] _ (w.heap.size + 1) 0 (below_cells (ints b) w8 w.heap.size 0 HL.out (Nat.le_refl _)) (by omega))
    have L0 := loadVarB M0.range hb
    have L1 : (loadVar 29 ⟨w.heap.size + 1, 0, none⟩).run Tryz.prog ((w8.setCells w.heap.size 0 (ints b)).setCells (w.heap.size + 1) 0 [.string d, .string p, .int .i64 n]) = .ok (.agg #[.string d, .string p, .int .i64 n]) _ := run_loadVar_mid _ _ 0 _ [.string d, .string p, .int .i64 n] _ M1.rangeL Tryz.underlying29 rfl info_Log3
    refine rdyS [3] (rdy ?_ .nil)
    intro K hK
    rw [if_pos (by rfl)]
    refine wp_store_mid _ _ _ rfl _ _ (ints b).toArray rfl rfl (Q0.there (by simp [ints, hb, zero_len])) (by simpa using hi19 hb) (all_oneCell_toArray ints_one) ?_
    rw [List.toList_toArray]
    refine hK.out _ _ N3 fun hHeld => nrm ?_
    clear hK K
    refine rdyS [4] (rdy ?_ .nil)
    intro K hK
    rw [if_pos (by rfl)]
    refine wp_store_mid _ _ _ rfl _ _ #[.string d, .string p, .int .i64 n] rfl rfl (N1.there (Nat.le_refl 3)) (by kernel_rfl) (by simp [Value.oneCell']) ?_
    refine hK.out _ _ M3 fun hHeld => nrm ?_
    clear hK K
    refine wpAnyH_done (by decide +kernel) ?_ _
    go_wp2
    exact bodyPost_ret (v := .tuple #[.agg (ints b).toArray, .agg #[.string d, .string p, .int .i64 n]]) (res_cells2 Tryz.results49 rfl rfl L0 L1) rfl ⟨b, d, p, n, hb, by omega, by omega, rfl, HL2.out⟩
   | false =>
    go_upto_region 14 with fail
    have F := HC.out.drew
    clear HC
    obtain ⟨F1, F2, F3⟩ := F.c3
    have hfd := hcf.hd
    have hfp := hcf.hp
    obtain ⟨d, hd⟩ : ∃ d, c.d = d := ⟨_, rfl⟩
    obtain ⟨p, hp⟩ : ∃ p, c.p = p := ⟨_, rfl⟩
    obtain ⟨n, hn2⟩ : ∃ n, c.n = n := ⟨_, rfl⟩
    rw [hd] at F1 hfd
    rw [hp] at F2 hfp
    rw [hn2] at F3
    obtain ⟨Q0, Q1, Q3⟩ := HR3.out _ _ _ _ F
    have hOb : w.heap.size + 1 < O := by have := hsz.out; omega
    have HL := hid (HBW.out.trans (F.cs.low (B := w.heap.size) (by omega) (by have := hsz.out; omega)))
    clear F HR3 hd hp hn2 hcf
    refine wp_region_held_drew (S := fun w' : World => Bk w' B3 26 (ints b).toArray ∧ w'.cell? ⟨O, 19, none⟩ = some (.string d) ∧ w'.cell? ⟨O, 20, none⟩ = some (.string p) ∧ w'.cell? ⟨O, 21, none⟩ = some (.int .i64 n)) (by kernel_rfl) ⟨Q3, F1, F2, F3⟩ (fun hHeld => ?_)
    generalize World.drew _ = wd at *
    have G1 : (wd.setCells w.heap.size 0 (ints b)).cell? ⟨O, 19, none⟩ = some (.string d) ∧ (wd.setCells w.heap.size 0 (ints b)).cell? ⟨O, 20, none⟩ = some (.string p) ∧ (wd.setCells w.heap.size 0 (ints b)).cell? ⟨O, 21, none⟩ = some (.int .i64 n) := ⟨cell_far2 F1 (by omega), cell_far2 F2 (by omega), cell_far2 F3 (by omega)⟩
    have G2 : ((wd.setCells w.heap.size 0 (ints b)).setCells (w.heap.size + 1) 0 [.string d, .string p, .int .i64 n]).cell? ⟨O, 19, none⟩ = some (.string d) ∧ ((wd.setCells w.heap.size 0 (ints b)).setCells (w.heap.size + 1) 0 [.string d, .string p, .int .i64 n]).cell? ⟨O, 20, none⟩ = some (.string p) ∧ ((wd.setCells w.heap.size 0 (ints b)).setCells (w.heap.size + 1) 0 [.string d, .string p, .int .i64 n]).cell? ⟨O, 21, none⟩ = some (.int .i64 n) := ⟨cell_far2 G1.1 (by omega), cell_far2 G1.2.1 (by omega), cell_far2 G1.2.2 (by omega)⟩
    refine' tkL 0 hHeld (cs := ints b) (fun w' (h : Bk w' B3 26 (ints b).toArray ∧ w'.cell? ⟨O, 19, none⟩ = some (.string d) ∧ w'.cell? ⟨O, 20, none⟩ = some (.string p) ∧ w'.cell? ⟨O, 21, none⟩ = some (.int .i64 n)) => h.1.range) Tryz.underlying26 (hi19 hb) ?_
    refine' tkZ 1 hHeld ?_
    refine' tkZ 2 hHeld ?_
    have rb := Q0.there (n := 19) (by decide)
    have N0 : Bk (wd.setCells w.heap.size 0 (ints b)) w.heap.size 26 (ints b).toArray := Bk.putB (b := zeroI) Q0 zero_len hb
    have N1 := Q1.far (ints b) (g2 := w.heap.size) 0 (by omega)
    have N3 := Q3.far (ints b) (g2 := w.heap.size) 0 (by have := hsz.out; omega)
    have M0 := N0.far [.string d, .string p, .int .i64 n] (g2 := w.heap.size + 1) 0 (by omega)
    have M1 := ((N1.set 0 (.string d)).set 1 (.string p)).set 2 (.int .i64 n)
    have M3 := N3.far [.string d, .string p, .int .i64 n] (g2 := w.heap.size + 1) 0 (by have := hsz.out; omega)
    have HL2 := hid (below_cells [.string d, .string p, .int .i64 n] _ (w.heap.size + 1) 0 (below_cells (ints b) wd w.heap.size 0 HL.out (Nat.le_refl _)) (by omega))
    have L0 := loadVarB M0.range hb
    have L1 : (loadVar 29 ⟨w.heap.size + 1, 0, none⟩).run Tryz.prog ((wd.setCells w.heap.size 0 (ints b)).setCells (w.heap.size + 1) 0 [.string d, .string p, .int .i64 n]) = .ok (.agg #[.string d, .string p, .int .i64 n]) _ := run_loadVar_mid _ _ 0 _ [.string d, .string p, .int .i64 n] _ M1.rangeL Tryz.underlying29 rfl info_Log3
    refine rdyS [3] (rdy ?_ .nil)
    intro K hK
    rw [if_pos (by rfl)]
    refine wp_store_mid _ _ _ rfl _ _ (ints b).toArray rfl rfl (Q0.there (by simp [ints, hb, zero_len])) (by simpa using hi19 hb) (all_oneCell_toArray ints_one) ?_
    rw [List.toList_toArray]
    refine hK.out _ _ ⟨N3, G1⟩ fun hHeld => nrm ?_
    clear hK K
    refine rdyS [4] (rdy ?_ .nil)
    intro K hK
    rw [if_pos (by rfl)]
    refine wp_store_mid _ _ _ rfl _ _ #[.string d, .string p, .int .i64 n] rfl rfl (N1.there (Nat.le_refl 3)) (by kernel_rfl) (by simp [Value.oneCell']) ?_
    refine hK.out _ _ ⟨M3, G2⟩ fun hHeld => nrm ?_
    clear hK K
    refine wpAnyH_done (by decide +kernel) ?_ _
    go_wp2
    exact bodyPost_ret (v := .tuple #[.agg (ints b).toArray, .agg #[.string d, .string p, .int .i64 n]]) (res_cells2 Tryz.results49 rfl rfl L0 L1) rfl ⟨b, d, p, n, hb, by omega, by omega, rfl, HL2.out⟩
def SpsOut (t : Bs) (w : World) (e : Ending) (w' : World) : Prop :=
 ∃ v, e = .returned (.tuple #[v, .bool true]) ∧ w'.ownsRow w.heap.size 9 1 v (splitS 10 t).length ((splitS 10 t).map strV) ∧ Below w.heap.size w w'
theorem SplitString_c (s : ByteArray) (w : World) (hs : s.size ≤ 4000) (ht : TabC w) :
 Calls Tryz.prog 48 #[.string s, .string ⟨#[10]⟩] w (SpsOut s.data.toList w) := by
 have HS := hid (Split_c s 10 w (by omega) ht)
 unfold SplOut at HS
 have h40 : decide ((4000 : Int) < (s.size : Int)) = false := by simp; omega
 have h41 : ¬ (4000 : Int) < (s.size : Int) := by omega
 clear ht hs
 go_enter Tryz.func48, Tryz.ntmps48
 go_wp2_with fail
 refine HS.out.mono ?_
 rintro e w1 ⟨v, rfl, ho, hb⟩
 have HO := hid ho
 obtain ⟨a, c, rfl, _⟩ := (Sl.of_own ho).slice
 clear ho
 go_wp2
 exact bodyPost_ret (v := .tuple #[.slice a _ c, .bool true]) (by simp [results, Tryz.results48, go_sem] <;> rfl) rfl ⟨_, rfl, HO.out, hb⟩
theorem SplitStringNo_c (s : ByteArray) (w : World) (hs : 4000 < s.size) :
 Calls Tryz.prog 48 #[.string s, .string ⟨#[10]⟩] w fun e w' => e = .returned (.tuple #[.slice none 0 0, .bool false]) ∧ Below w.heap.size w w' := by
 have h40 : decide ((4000 : Int) < (s.size : Int)) = true := by simp; omega
 have h41 : (4000 : Int) < (s.size : Int) := by omega
 clear hs
 go_enter Tryz.func48, Tryz.ntmps48
 go_wp2
 exact bodyPost_ret (v := .tuple #[.slice none 0 0, .bool false]) (by simp [results, Tryz.results48, go_sem] <;> rfl) rfl ⟨rfl, Below.refl _ _⟩
theorem Sl.partsT {w : World} {v : Value} {n : Nat} {xs : List Value} (h : Sl w 1 v n xs) : ∃ a c, v = .slice a n c ∧ n ≤ 9223372036854775807 ∧
 Hid (∀ k, k < n → ∃ b off, a = some ⟨b, off, none⟩ ∧ w.cell? ⟨b, off + k, none⟩ = xs[k]?) := by
 obtain ⟨a, c, rfl, h1, h2, h3, h4⟩ := h
 refine ⟨a, c, rfl, by unfold maxLen at h2; omega, fun k hk => ?_⟩
 obtain ⟨b, off, rfl, hc⟩ := h4 (by omega)
 exact ⟨b, off, rfl, hc k (by omega)⟩
theorem grow_cells : ∀ (vs : List Value) (w : World) (g o : Nat), w.grownBy (w.setCells g o vs) (some g)
 | [], w, g, o => ⟨rfl, rfl, rfl, Nat.le_refl _, fun _ _ _ => rfl⟩
 | v :: t, w, g, o => by
  have h1 : w.grownBy (w.setCell ⟨g, o, none⟩ v) (some g) := ⟨rfl, rfl, rfl, by simp [World.setCell], fun k hk hne => Below.heap_setCell _ _ _ _ (fun e => hne (by rw [e]))⟩
  have h2 := grow_cells t (w.setCell ⟨g, o, none⟩ v) g (o + 1)
  exact ⟨h2.os.trans h1.os, h2.tape.trans h1.tape, h2.output.trans h1.output, Nat.le_trans h1.size h2.size, fun i hi hr => (h2.block i (Nat.lt_of_lt_of_le hi h1.size) hr).trans (h1.block i hi hr)⟩
theorem own_far {w : World} {lo n size : Nat} {e : TypeId} {v : Value} {xs : List Value} (h : w.ownsRow lo e size v n xs) (g o : Nat) (vs : List Value) (hg : g < lo) : (w.setCells g o vs).ownsRow lo e size v n xs :=
 h.kept (grow_cells vs w g o) (by
  cases hb : v.ownBlock with
  | none => exact .inl rfl
  | some k => right; have := (h.lt k hb).1; intro e; injection e with e; omega)
def RepOut (b : List Int) (d p : ByteArray) (n : Int) (w : World) (e : Ending) (w' : World) : Prop :=
 ∃ (ok : Bool) (k : Nat), e = .returned (.tuple #[.int .i64 (k : Int), .bool ok]) ∧ (ok = true ↔ (goodB b = true ∧ ∃ es, ValidL d.data.toList p.data.toList n es)) ∧ (ok = false → k = 0) ∧
  (∀ es, ok = true → ValidL d.data.toList p.data.toList n es → k = repI (newC b) es) ∧ Below w.heap.size w w'
theorem repOut_no {b : List Int} {d p : ByteArray} {n : Int} {w w' : World} (h : ¬ (goodB b = true ∧ ∃ es, ValidL d.data.toList p.data.toList n es)) (hb : Below w.heap.size w w') : RepOut b d p n w (.returned (.tuple #[.int .i64 0, .bool false])) w' :=
 ⟨false, 0, rfl, ⟨(fun h2 => by cases h2), fun h2 => absurd h2 h⟩, fun _ => rfl, (fun es h2 => by cases h2), hb⟩
theorem repOut_yes {b : List Int} {d p : ByteArray} {n : Int} {w w' : World} {es : List (Bs × Bs)} {k : Nat} (hg : goodB b = true) (hv : ValidL d.data.toList p.data.toList n es) (hk : k = repI (newC b) es) (hb : Below w.heap.size w w') : RepOut b d p n w (.returned (.tuple #[.int .i64 (k : Int), .bool true])) w' :=
 ⟨true, k, rfl, ⟨fun _ => ⟨hg, es, hv⟩, fun _ => rfl⟩, (fun h2 => by cases h2), fun es' _ hv' => by rw [hv'.uniq hv]; exact hk, hb⟩
theorem rep_det (b : List Int) (d p : ByteArray) (n : Int) : ∃ (ok : Bool) (k : Nat), (ok = true ↔ (goodB b = true ∧ ∃ es, ValidL d.data.toList p.data.toList n es)) ∧ (∀ es, ok = true → ValidL d.data.toList p.data.toList n es → k = repI (newC b) es) ∧ ∀ w e w', RepOut b d p n w e w' → e = .returned (.tuple #[.int .i64 (k : Int), .bool ok]) ∧ Below w.heap.size w w' := by
 by_cases h : goodB b = true ∧ ∃ es, ValidL d.data.toList p.data.toList n es
 · obtain ⟨hg, es, hv⟩ := id h
   refine ⟨true, repI (newC b) es, ⟨fun _ => h, fun _ => rfl⟩, fun es' _ hv' => by rw [hv'.uniq hv], fun w e w' ho => ?_⟩
   obtain ⟨ok, k, rfl, h1, h2, h3, h4⟩ := ho
   have := h1.2 h
   subst this
   rw [h3 es rfl hv]; exact ⟨rfl, h4⟩
 · refine ⟨false, 0, ⟨(fun h2 => by cases h2), fun h2 => absurd h2 h⟩, (fun es h2 => by cases h2), fun w e w' ho => ?_⟩
   obtain ⟨ok, k, rfl, h1, h2, h3, h4⟩ := ho
   cases ok with
   | true => exact absurd (h1.1 rfl) h
   | false => rw [h2 rfl]; exact ⟨rfl, h4⟩
set_option maxHeartbeats 20000000 in
theorem ReplayLog_c (b : List Int) (d p : ByteArray) (n : Int) (w : World) (hb : b.length = 19) (hd : d.size ≤ 1048576) (hp : p.size ≤ 1048576) (ht : TabC w) :
 Calls Tryz.prog 27 #[aggI b, logV d p n] w (RepOut b d p n w) := by
 have HT := hid ht
 clear ht
 have r0 := World.rangeAt_alloc (range_new w (ints b) 26) (.cells #[.string d, .string p, .int .i64 n] 29)
 have l0 := range_new (w.alloc (.cells (ints b).toArray 26)) (lgC d p n) 29
 rw [World.size_alloc] at l0
 have hb0 : Below w.heap.size w ((w.alloc (.cells (ints b).toArray 26)).alloc (.cells #[.string d, .string p, .int .i64 n] 29)) := qBl
 have hsz : w.heap.size + 1 < ((w.alloc (.cells (ints b).toArray 26)).alloc (.cells #[.string d, .string p, .int .i64 n] 29)).heap.size := by simp
 have HN := hid (fun W => NewConsole_c b W hb)
 have hBl : (ncB b).length = 19 := by unfold ncB; split; exact hb; simp [zeroI]
 obtain ⟨B, hB⟩ : ∃ B, ncB b = B := ⟨_, rfl⟩
 have HBN := hid (show goodB b = true → B = b from fun h => by rw [← hB]; unfold ncB; rw [if_pos h])
 unfold ncV at HN
 rw [hB] at HN hBl
 have HRC := hid (fun W h => records_c d p n W hd hp h)
 unfold logV at HRC ⊢
 unfold aggI at *
 clear hB
 go_enter Tryz.func27, Tryz.ntmps27
 go_wp2_with (refine wpList_loadB rfl _ rfl _ rfl b r0 hb ?_)
 refine (HN.out _).mono ?_
 rintro e w1 ⟨rfl, hb1⟩
 have l1 := range_below l0 hb1
 have z1 := Nat.lt_of_lt_of_le hsz hb1.size
 have t2 := there_new w1 zCA 31 (n := 22) (by decide)
 have l2 := World.rangeAt_setCells_apart (World.rangeAt_alloc l1 (.cells zCA 31)) w1.heap.size 0 (csC B ByteArray.empty ByteArray.empty 0) (.inl (by omega))
 have c2 := World.rangeAt_setCells_same (w1.alloc (.cells zCA 31)) w1.heap.size 0 (csC B ByteArray.empty ByteArray.empty 0) (by rw [csC_len hBl]; exact t2)
 have u2 := World.there_setCells t2 w1.heap.size 0 (csC B ByteArray.empty ByteArray.empty 0)
 have HB2 := hid (below_cells (csC B ByteArray.empty ByteArray.empty 0) (w1.alloc (.cells zCA 31)) w1.heap.size 0 (Below.alc (Below.chain hb0 hb1) (.cells zCA 31)) (by omega))
 have z2 : w1.heap.size < ((w1.alloc (.cells zCA 31)).setCells w1.heap.size 0 (csC B ByteArray.empty ByteArray.empty 0)).heap.size := Nat.lt_of_lt_of_le (by simp) (grow_cells (csC B ByteArray.empty ByteArray.empty 0) (w1.alloc (.cells zCA 31)) w1.heap.size 0).size
 clear r0 l0 hb0 hb1 hsz l1 HN
 unfold zCA at *
 go_upto_region 2 with (refine wpList_storeC rfl _ _ rfl _ B ByteArray.empty ByteArray.empty 0 rfl rfl t2 hBl ?_)
 clear t2
 generalize w1.heap.size = g6 at *
 generalize World.setCells _ _ _ _ = w2 at *
 go_wp2_with (refine wpList_loadL rfl _ rfl _ _ rfl d p n l2 ?_)
 refine (HRC.out _ (HT.out.on HB2.out).pow).mono ?_
 rintro e w3 ⟨v, es, ok, rfl, ho, hok1, hok2, hb3⟩
 obtain ⟨va, vc, rfl, hvm, HP⟩ := (Sl.of_own ho).parts2
 have hvb : ∀ vb vo, va = some ⟨vb, vo, none⟩ → g6 < vb := fun vb vo h => by
  subst h
  exact Nat.lt_of_lt_of_le z2 (ho.lt vb rfl).1
 have HRW : Hid (∀ k e, es[k]? = some e → ∃ vb vo, va = some ⟨vb, vo, none⟩ ∧ g6 < vb ∧ w3.cell? ⟨vb, vo + k * 2, none⟩ = some (.string (bs e.1)) ∧ w3.cell? ⟨vb, vo + k * 2 + 1, none⟩ = some (.string (bs e.2))) := fun k e he => by
  obtain ⟨vb, vo, h1, h2, h3⟩ := HP.out k (List.getElem?_eq_some_iff.1 he).1
  rw [(flatR_at he).1] at h2
  rw [(flatR_at he).2] at h3
  exact ⟨vb, vo, h1, hvb vb vo h1, h2, h3⟩
 have c3 := range_below c2 hb3
 have u3 := there_below u2 hb3
 have HB3 := hid (Below.chain HB2.out hb3)
 clear c2 u2 l2 HB2 hb3 ho HP hvb HRC
 rcases hg : goodB b with _ | _
 · as_aux_lemma =>
    have HF := hid (fun w' => repOut_no (b := b) (d := d) (p := p) (n := n) (w := w) (w' := w') (fun h => by rw [hg] at h; exact absurd h.1 (by simp)))
    clear hg
    go_wp2
    exact bodyPost_ret (v := .tuple #[.int .i64 0, .bool false]) (by simp [results, Tryz.results27, go_sem]) rfl (HF.out _ HB3.out)
 cases ok with
 | false =>
  as_aux_lemma =>
   have HF := hid (fun w' => repOut_no (b := b) (d := d) (p := p) (n := n) (w := w) (w' := w') (fun h => by obtain ⟨es', hv'⟩ := h.2; exact hok2.out rfl es' hv'))
   clear hg hok1 hok2
   go_wp2
   exact bodyPost_ret (v := .tuple #[.int .i64 0, .bool false]) (by simp [results, Tryz.results27, go_sem]) rfl (HF.out _ HB3.out)
 | true =>
  have HV := hid (hok1.out rfl)
  have HG := hid hg
  have HBe := hid (HBN.out hg)
  obtain ⟨m, hm⟩ : ∃ m, es.length = m := ⟨_, rfl⟩
  have HM := hid hm
  rw [hm] at hvm ⊢
  clear hg hm HBN
  go_wp2
  go_loopw [32] (fun i wr => ∃ (k : Nat) (S : Cst), k ≤ m ∧ i = .int .i64 (k : Int) ∧ Hid (RepAt (newC b) es k S) ∧ Hid (S.b.length = 19) ∧ Hid S.ok ∧ wr.rangeAt g6 0 (csC S.b S.d S.p S.n) ∧ wr.there g6 0 22 ∧ Hid (∀ k e, es[k]? = some e → ∃ vb vo, va = some ⟨vb, vo, none⟩ ∧ g6 < vb ∧ wr.cell? ⟨vb, vo + k * 2, none⟩ = some (.string (bs e.1)) ∧ wr.cell? ⟨vb, vo + k * 2 + 1, none⟩ = some (.string (bs e.2))) ∧ Below w.heap.size w wr) (fun i _ => m + 1 - (intOf i).toNat)
  case atStart =>
   refine ⟨0, newC b, by omega, rfl, RepAt.zero _ _, ?_, newC_ok HG.out, ?_, u3, HRW, HB3.out⟩
   · show b.length = 19; exact hb
   · have h := HBe.out
     rw [h] at c3; exact c3
  case round =>
   obtain ⟨k, S, hk, rfl, HRA, HSb, HSo, rk, tk, HRK, hbk⟩ := hrel
   have HB := hid hbk
   clear hbk c3 u3 HB3 HRW
   by_cases hlt : k < m
   · have hd2 : decide ((k : Int) < (m : Int)) = true := by simp; omega
     have hki : (k : Int) < (m : Int) := by omega
     obtain ⟨e, hee⟩ := elem_at (show k < es.length by rw [HM.out]; exact hlt)
     obtain ⟨vb, vo, rfl, hvb, h0, h1⟩ := HRK.out k e hee.out
     have hSb := HSb.out
     have hSfit := ok_fit HSb.out HSo.out
     have hel : e.1.length ≤ 160 := (HV.out.ok e (List.mem_of_getElem? hee.out)).l2
     have hNok := stepV_ok (bs e.1) HSb.out HSo.out
     have HSTOP := hid (fun h => HRA.out.stop hee.out h)
     have HNEXT := hid (fun h => HRA.out.next hee.out h)
     have HEX := hid (fun (W : World) (h : TabC W) => (ExecuteCommand_c S (bs e.1) W hSfit (by rw [bs_size]; omega) h).mono fun e w' h => ex_yes HSo.out h)
     obtain ⟨N, hN⟩ : ∃ N, (stepV true S (bs e.1)).1 = N := ⟨_, rfl⟩
     obtain ⟨T, hT⟩ : ∃ T, (stepV true S (bs e.1)).2 = T := ⟨_, rfl⟩
     simp only [hN, hT] at hNok HEX HSTOP HNEXT
     have hNb : N.b.length = 19 := hNok.1
     have HNO := hid hNok.2
     unfold Cst.val consV at HEX
     have HTE : Hid (T = e.2 ↔ bs T = bs e.2) := ⟨fun h => by rw [h], fun h => bs_inj h⟩
     clear hN hT hee hSfit hNok HRA HSo HSb hel
     obtain ⟨c1, hc1⟩ : ∃ c1, bs e.1 = c1 := ⟨_, rfl⟩
     obtain ⟨c2, hc2⟩ : ∃ c2, bs e.2 = c2 := ⟨_, rfl⟩
     obtain ⟨TT, hTT⟩ : ∃ TT, bs T = TT := ⟨_, rfl⟩
     rw [hc1] at h0 HEX
     rw [hc2] at h1 HTE
     rw [hTT] at HEX HTE
     clear hc1 hc2 hTT
     as_aux_lemma =>
      have rk1 := World.rangeAt_alloc rk (.cells #[.string c1, .string c2] 76)
      have tk1 := World.there_alloc tk (.cells #[.string c1, .string c2] 76)
      have q0 : (wr.alloc (.cells #[.string c1, .string c2] 76)).cell? ⟨wr.heap.size, 0, none⟩ = some (.string c1) := (Bk.new wr 76 #[.string c1, .string c2]).cell 0
      have q1 : (wr.alloc (.cells #[.string c1, .string c2] 76)).cell? ⟨wr.heap.size, 1, none⟩ = some (.string c2) := (Bk.new wr 76 #[.string c1, .string c2]).cell 1
      have hBa := below_one (w := wr) (.cells #[.string c1, .string c2] 76)
      have HBa := hid (Below.chain HB.out hBa)
      have zg : g6 < wr.heap.size := World.block_lt_of_cell? _ _ (csC_bench rk hSb 0 _ (by simp [ints, show 0 < S.b.length by omega]; rfl))
      clear rk tk
      go_upto_region 8 with fail
      generalize World.alloc _ _ = wa at *
      go_wp2_with (refine wpList_loadC rfl _ rfl _ rfl S.b S.d S.p S.n rk1 hSb ?_)
      refine (HEX.out _ (HT.out.on HBa.out)).mono ?_
      rintro e2 w4 ⟨rfl, hb4⟩
      have t4 := there_new w4 zCA 31 (n := 22) (by decide)
      have z4 := hb4.size
      have zga : wr.heap.size < wa.heap.size := World.block_lt_of_cell? _ _ q0
      have tk4 := World.there_setCells (World.there_alloc (there_below tk1 hb4) (.cells zCA 31)) w4.heap.size 0 (csC N.b N.d N.p N.n)
      have c4 := World.rangeAt_setCells_same (w4.alloc (.cells zCA 31)) w4.heap.size 0 (csC N.b N.d N.p N.n) (by rw [csC_len hNb]; exact t4)
      have q14 := cell_far2 (g2 := w4.heap.size) (o2 := 0) (vs := csC N.b N.d N.p N.n) (cell_later (below_one (.cells zCA 31)) (cell_later hb4 q1)) (by omega)
      have hBx : Below wa.heap.size wa ((w4.alloc (.cells zCA 31)).setCells w4.heap.size 0 (csC N.b N.d N.p N.n)) := below_cells (csC N.b N.d N.p N.n) (w4.alloc (.cells zCA 31)) w4.heap.size 0 (Below.alc hb4 (.cells zCA 31)) (by omega)
      have HBX := hid hBx
      unfold zCA at *
      clear rk1 hb4 HEX h0 h1 hBx
      go_upto_region 9 with (refine wpList_storeC rfl _ _ rfl _ N.b N.d N.p N.n rfl rfl t4 hNb ?_)
      clear t4 q0 q1
      generalize w4.heap.size = g12 at *
      generalize World.setCells (World.alloc w4 _) _ _ _ = w4b at *
      have hBy := hBa
      have HBW := hid (hBy.trans (HBX.out.mono hBy.size))
      by_cases hTe : T = e.2
      · as_aux_lemma =>
         have hse := str_eq (HTE.out.1 hTe)
         have hsn : (TT.toList != c2.toList) = false := by rw [bne, hse]; rfl
         have HN2 := hid (HNEXT.out hTe)
         have HBk := hid (Below.chain HB.out HBW.out)
         have HRK4 : Hid (∀ k e, es[k]? = some e → ∃ vb2 vo2, (some ⟨vb, vo, none⟩ : Option Addr) = some ⟨vb2, vo2, none⟩ ∧ g6 < vb2 ∧ (w4b.setCells g6 0 (csC N.b N.d N.p N.n)).cell? ⟨vb2, vo2 + k * 2, none⟩ = some (.string (bs e.1)) ∧ (w4b.setCells g6 0 (csC N.b N.d N.p N.n)).cell? ⟨vb2, vo2 + k * 2 + 1, none⟩ = some (.string (bs e.2))) := fun k e he => by
          obtain ⟨vb2, vo2, h1, h2, h3, h4⟩ := HRK.out k e he
          exact ⟨vb2, vo2, h1, h2, cell_far2 (g2 := g6) (o2 := 0) (vs := csC N.b N.d N.p N.n) (cell_later HBW.out h3) (by omega), cell_far2 (g2 := g6) (o2 := 0) (vs := csC N.b N.d N.p N.n) (cell_later HBW.out h4) (by omega)⟩
         have R5 := hid (World.rangeAt_setCells_same w4b g6 0 (csC N.b N.d N.p N.n) (by rw [csC_len hNb]; exact tk4))
         have T5 := hid (World.there_setCells tk4 g6 0 (csC N.b N.d N.p N.n))
         have HB5 := hid (below_cells (csC N.b N.d N.p N.n) w4b g6 0 HBk.out (by omega))
         clear HTE HSTOP HNEXT hTe HB HBW HRK HBk
         go_wp2_with (first | (refine wpList_loadC rfl _ rfl _ rfl N.b N.d N.p N.n c4 hNb ?_) | (refine wpList_storeC rfl _ _ rfl _ N.b N.d N.p N.n rfl rfl tk4 hNb ?_))
         go_roundw
         case rel => exact ⟨k + 1, N, by omega, by go_num, HN2.out, hNb, HNO.out, R5.out, T5.out, HRK4, HB5.out⟩
         case measure => first | (simp [intOf]; done) | (simp [intOf]; omega)
      · as_aux_lemma =>
         have hse := str_ne (fun h => hTe (HTE.out.2 h))
         have hsn : (TT.toList != c2.toList) = true := by rw [bne, hse]; rfl
         have HF := hid (fun w' => repOut_yes (w := w) (w' := w') HG.out HV.out (HSTOP.out hTe).symm)
         have HBk := hid (Below.chain HB.out HBW.out)
         clear HTE HSTOP HNEXT hTe c4 tk4
         go_wp2
         exact bodyPost_ret (v := .tuple #[.int .i64 (k : Int), .bool true]) (by simp [results, Tryz.results27, go_sem]) rfl (HF.out _ HBk.out)
   · obtain rfl : k = m := by omega
     have hd2 : decide ((k : Int) < (k : Int)) = false := by simp
     as_aux_lemma =>
     have hend : k = repI (newC b) es := by
      have h := HRA.out
      rw [← HM.out] at h
      rw [← HM.out]; exact h.done.symm
     have HF := hid (fun w' => repOut_yes (w := w) (w' := w') HG.out HV.out hend)
     clear hend
     go_wp2
     exact bodyPost_ret (v := .tuple #[.int .i64 (k : Int), .bool true]) (by simp [results, Tryz.results27, go_sem]) rfl (HF.out _ HB.out)
end Go.Proofs.YtohgjfdbnkjefaaGreatDoor
