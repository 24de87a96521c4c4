/- Texts of this claim, gathered: DrawB, Dxa, Dxb, DrawC, Back, Bnq, Bnl, LwLConsoleWords. -/
import Derived.Test.YtohgjfdbnkjefaaGreatDoorKw18
import Derived.Deep.DeepCutAuto
import Derived.Deep.CutBlock
import Derived.Test.YtohgjfdbnkjefaaGreatDoorSf
import Derived.Sort.OwnSortedInts
import Derived.Lib.OwnBridge
import Derived.DeepKeys
import Derived.ChangeKeysEq
import Derived.Laws.StructEq
namespace Go.Proofs.YtohgjfdbnkjefaaGreatDoor
open Go.RowKit
set_option linter.unusedVariables false
set_option linter.unusedSimpArgs false
set_option maxRecDepth 100000
theorem Bk.range {w : World} {g t : Nat} {b : List Value} (h : Bk w g t b.toArray) : w.rangeAt g 0 b := fun j v hv => by
 rw [Nat.zero_add, h.cell j]; simpa using hv
theorem Bk.there {w : World} {g t : Nat} {cs : Array Value} (h : Bk w g t cs) {n : Nat} (hn : n ≤ cs.size) : w.there g 0 n := fun j hj => by
 rw [Nat.zero_add]
 exact ⟨by rw [h.cell j, Array.getElem?_eq_getElem (by omega)]; rfl, h.frozen j⟩
def putA (cs : Array Value) : Nat → List Value → Array Value
 | _, [] => cs
 | o, v :: r => putA (cs.setIfInBounds o v) (o + 1) r
theorem Bk.puts : ∀ (vs : List Value) {w : World} {g t : Nat} {cs : Array Value} (o : Nat), Bk w g t cs → Bk (w.setCells g o vs) g t (putA cs o vs)
 | [], _, _, _, _, _, h => h
 | v :: r, _, _, _, _, o, h => Bk.puts r (o + 1) (h.set o v)
theorem putA_list : ∀ (vs m l : List Value), m.length = vs.length → putA (l ++ m).toArray l.length vs = (l ++ vs).toArray
 | [], m, l, h => by
  have : m = [] := List.eq_nil_of_length_eq_zero h
  subst this
  rfl
 | v :: r, [], l, h => by cases h
 | v :: r, x :: m, l, h => by
  have e : ((l ++ x :: m).toArray.setIfInBounds l.length v) = ((l ++ [v]) ++ m).toArray := by
   simp [List.set_append]
  have ih := putA_list r m (l ++ [v]) (by simpa using h)
  show putA ((l ++ x :: m).toArray.setIfInBounds l.length v) (l.length + 1) r = _
  rw [e, show l.length + 1 = (l ++ [v]).length by simp, ih]
  simp
theorem Bk.putB {w : World} {g t : Nat} {b Y : List Int} (h : Bk w g t (ints b).toArray) (hb : b.length = 19) (hY : Y.length = 19) : Bk (w.setCells g 0 (ints Y)) g t (ints Y).toArray := by
 have h2 := h.puts (ints Y) 0
 have e := putA_list (ints Y) (ints b) [] (by simp [ints, hb, hY])
 simp only [List.nil_append, List.length_nil] at e
 rw [e] at h2
 exact h2
theorem Bk.far : ∀ (vs : List Value) {w : World} {g t : Nat} {cs : Array Value} {g2 : Nat} (o : Nat), Bk w g t cs → g ≠ g2 → Bk (w.setCells g2 o vs) g t cs
 | [], _, _, _, _, _, _, h, _ => h
 | v :: r, _, _, _, _, _, o, h, hn => Bk.far r (o + 1) (h.other (p := ⟨_, o, none⟩) hn v) hn
theorem CStep.puts : ∀ (vs : List Value) {a b : World} {g m : Nat} {g2 : Nat} (o : Nat), CStep a b g m → g < a.heap.size → a.heap.size ≤ g2 → CStep a (b.setCells g2 o vs) g m
 | [], _, _, _, _, _, _, h, _, _ => h
 | v :: r, _, _, _, _, g2, o, h, hga, hp => CStep.puts r (o + 1) (h.store hga (p := ⟨g2, o, none⟩) hp v) hga hp
theorem Bk.setI {w : World} {g t : Nat} {b : List Int} (h : Bk w g t (ints b).toArray) (j : Nat) (x : Int) : Bk (w.setCell ⟨g, j, none⟩ (.int .i64 x)) g t (ints (b.set j x)).toArray := by
 have h2 := h.set j (.int .i64 x)
 rw [ints_set]
 simpa using h2
theorem ints_size {b : List Int} (h : b.length = 19) : (ints b).toArray.size = 19 := by simp [ints, h]
def DrawB (w : World) (g m : Nat) (e : Ending) (w' : World) : Prop := ∃ b : List Int, b.length = 19 ∧ e = .returned (aggI b) ∧ CStep w w' g m
structure BSt (w wx : World) (g m B O : Nat) (b : List Int) : Prop where
 cs : CStep w wx g m
 rb : Bk wx B 26 (ints zeroI).toArray
 bb : Bk wx O 26 (ints b).toArray
 hg : g < B
 hB : B < O
 h0 : w.heap.size = B
 hl : b.length = 19
section
variable {w wx wy : World} {g m m' B O : Nat} {b : List Int}
theorem BSt.gw (h : BSt w wx g m B O b) : g < w.heap.size := by have := h.hg; have := h.h0; omega
theorem BSt.step (h : BSt w wx g m B O b) (hs : CStep wx wy g m') : BSt w wy g m' B O b :=
 ⟨h.cs.trans hs, h.rb.step hs (by have := h.hg; omega), h.bb.step hs (by have := h.hg; have := h.hB; omega), h.hg, h.hB, h.h0, h.hl⟩
theorem BSt.below (h : BSt w wx g m B O b) (hb : Below wx.heap.size wx wy) : BSt w wy g m B O b := h.step ((CStep.refl h.cs.cur).below hb)
theorem BSt.alloc (h : BSt w wx g m B O b) (o : Obj) : BSt w (wx.alloc o) g m B O b := h.below (below_one o)
theorem BSt.drew (h : BSt w wx g m B O b) : BSt w wx.drew g m B O b := h.step (CStep.refl h.cs.cur).drew
theorem BSt.far (h : BSt w wx g m B O b) {q : Nat} (hq : O < q) (vs : List Value) : BSt w (wx.setCells q 0 vs) g m B O b :=
 ⟨h.cs.puts vs 0 h.gw (by have := h.hB; have := h.h0; omega), h.rb.far vs 0 (by have := h.hB; omega), h.bb.far vs 0 (by omega), h.hg, h.hB, h.h0, h.hl⟩
theorem BSt.put (h : BSt w wx g m B O b) {Y : List Int} (hY : Y.length = 19) : BSt w (wx.setCells O 0 (ints Y)) g m B O Y :=
 ⟨h.cs.puts (ints Y) 0 h.gw (by have := h.hB; have := h.h0; omega), h.rb.far _ 0 (by have := h.hB; omega), h.bb.putB h.hl hY, h.hg, h.hB, h.h0, hY⟩
theorem BSt.one (h : BSt w wx g m B O b) (i : Nat) (x : Int) : BSt w (wx.setCell ⟨O, i, none⟩ (.int .i64 x)) g m B O (b.set i x) :=
 ⟨h.cs.store h.gw (p := ⟨O, i, none⟩) (by show w.heap.size ≤ O; have := h.hB; have := h.h0; omega) _, h.rb.other (p := ⟨O, i, none⟩) (by show B ≠ O; have := h.hB; omega) _, h.bb.setI i x, h.hg, h.hB, h.h0, by rw [List.length_set]; exact h.hl⟩
theorem BSt.mono (h : BSt w wx g m B O b) (hm : m ≤ m') : BSt w wx g m' B O b := ⟨h.cs.mono hm, h.rb, h.bb, h.hg, h.hB, h.h0, h.hl⟩
theorem BSt.cell (h : BSt w wx g m B O b) {i : Nat} (hi : i < 19) : ∃ u, wx.cell? ⟨O, i, none⟩ = some u := there_some (h.bb.there (n := 19) (by rw [ints_size h.hl]; decide)) hi
end
set_option maxHeartbeats 8000000 in
theorem bench_c (g m : Nat) (w : World) (h : CurAt w g m) (hm : m + 420 < 4611686018427387904) :
 Calls Tryz.prog 50 #[.pointer (some ⟨g, 0, none⟩)] w (DrawB w g (m + 420)) := by
 have hga := h.lt
 have T0 := Lib.hid (Bk.new w 26 zBA)
 have HC := Lib.hid ((CStep.refl h).alloc (.cells zBA 26))
 clear h
 unfold DrawB
 go_enter Tryz.func50, Tryz.ntmps50
 go_wp2_with fail
 refine (digits_d g m _ HC.out.cur (by omega)).mono ?_
 rintro e w1 ⟨v, xs, rfl, hlx, ho, hs⟩
 have HS1 := Lib.hid (HC.out.trans hs)
 have T1 := Lib.hid (T0.out.step hs (by omega))
 have HI := Lib.hid (Ints.of_own ho)
 clear hs ho T0 HC hlx
 go_wp2_with fail
 refine (sNewBench_c v xs _ HI.out).mono ?_
 rintro e w2 ⟨rfl, hb⟩
 have hl := nbB_len xs
 have HG : Hid (rowB xs = true → goodB (nbB xs) = true) := nbB_good
 generalize nbB xs = b0 at *
 generalize rowB xs = okb at *
 have R2 := Bk.new w2 26 zBA
 have rt := R2.there (n := 19) (by decide)
 have HB0 : Hid (BSt w ((w2.alloc (.cells zBA 26)).setCells w2.heap.size 0 (ints b0)) g (m + 200) w.heap.size w2.heap.size b0) := by
  have h2 := (T1.out.below hb).lt
  have hgl := (HS1.out.below hb).cur.lt
  exact ⟨((HS1.out.below hb).alloc _).puts (ints b0) 0 hga (by omega), ((T1.out.below hb).alloc _).far (ints b0) 0 (by omega), R2.putB (b := zeroI) zero_len hl, hga, h2, rfl, hl⟩
 clear hb HS1 T1 HI R2
 unfold mkV aggI
 unfold zBA at *
 go_wp2_with (refine wpList_storeB rfl _ _ rfl _ b0 rfl rfl ?_ hl ?_; exact rt)
 generalize hO : w2.heap.size = O at *
 generalize World.setCells _ O 0 (ints b0) = w3 at *
 clear rt hO
 refine (pick_c 8 g _ _ HB0.out.cs.cur (by omega)).mono ?_
 rintro e w4 ⟨x, rfl, hx, hs⟩
 have HB := Lib.hid (HB0.out.step hs)
 obtain ⟨n, rfl⟩ := Int.eq_ofNat_of_zero_le hx.1
 have hn : n ≤ 7 := by have := hx.2 (by omega); omega
 clear hs hx HB0
 go_upto_block 0 with fail
 go_cut [5] (fun s5 wx => ∃ b, BSt w wx g (m + 380) w.heap.size O b)
 case first =>
  go_wp2
  go_loopw [5] (fun j wr => ∃ (k : Nat) (b : List Int), k ≤ 7 ∧ j = .int .i64 (k : Int) ∧ Hid (okb = true → goodB b = true) ∧ Hid (BSt w wr g (m + 240 + 20 * (7 - k)) w.heap.size O b)) (fun j _ => (intOf j).toNat)
  case atStart => exact ⟨n, b0, hn, rfl, HG, HB.out.mono (by omega)⟩
  case round =>
   obtain ⟨k, b, hk, rfl, HGb, HR⟩ := hrel
   clear HG HB
   rcases hgo : (decide (0 < k) && okb) with _ | _
   rotate_left
   · simp only [Bool.and_eq_true, decide_eq_true_eq] at hgo
     obtain ⟨hk0, rfl⟩ := hgo
     have hg := HGb.out rfl
     have hl := HR.out.hl
     have hd : decide (0 < (k : Int)) = true := by simp; omega
     have HJ : Hid (∀ (M : Nat) (W : World), CurAt W g M → M + 20 < 4611686018427387904 → Calls Tryz.prog 90 #[.pointer (some ⟨g, 0, none⟩)] W fun e w' => ∃ k a v : Int, e = .returned (.agg #[.int .i64 k, .int .i64 a, .int .i64 v]) ∧ CStep W w' g (M + 20)) := fun M W h1 h2 => job12_c g M W h1 h2
     have HD : Hid (∀ jk ja jb, ∃ (Y : List Int) (ok : Bool), Y.length = 19 ∧ (ok = true → goodB Y = true) ∧ ∀ W, Calls Tryz.prog 89 #[.agg (ints b).toArray, .agg #[.int .i64 jk, .int .i64 ja, .int .i64 jb]] W fun e w' => e = .returned (.tuple #[.agg (ints Y).toArray, .bool ok]) ∧ Below W.heap.size W w') := fun jk ja jb =>
      ⟨jobB b jk ja jb, possB b jk ja jb, jobB_len hl hg jk ja jb, fun hp => by unfold jobB; rw [if_pos hp]; exact (poss_good hl hg hp).1, fun W => l12Do_c b jk ja jb W hl hg⟩
     have HGb' := Lib.hid (fun _ : true = true => hg)
     clear hg HGb
     go_upto_region 5 with fail
     go_cut [6, 7] (fun s6 s7 wx => ∃ (q : Nat) (Y : List Int) (ok : Bool), s6 = .pointer (some ⟨q, 0, none⟩) ∧ s7 = .bool ok ∧ Y.length = 19 ∧ Hid (ok = true → goodB Y = true) ∧ Hid (Bk wx q 26 (ints Y).toArray) ∧ Hid (BSt w wx g (m + 240 + 20 * (7 - (k - 1))) w.heap.size O b))
     case first =>
      have F := HR.out.drew
      clear HR
      refine wp_region_held_drew (S := fun w' : World => Bk w' O 26 (ints b).toArray) (by kernel_rfl) F.bb (fun hHeld => ?_)
      generalize World.drew _ = wd at *
      refine' tkL 0 hHeld (cs := ints b) (fun w' (h : Bk w' O 26 (ints b).toArray) => h.range) Tryz.underlying26 (hi19 hl) ?_
      refine' tkZ 1 hHeld ?_
      repeat' first
       | refine' tkZ 4 hHeld ?_
       | refine' tkZ 5 hHeld ?_
       | refine' tkZ 6 hHeld ?_
       | refine' tkZ 9 hHeld ?_
       | (refine wpAnyH_done (by decide +kernel) ?_ _
          go_wp2_with fail
          go_meet
          exact ⟨_, _, _, rfl, rfl, hY, HYG, A, F.mono (by omega)⟩)
       | (refine rdyS [8] (rdy ?_ .nil)
          intro K hK
          rw [if_pos (by rfl)]
          refine wp_store_mid _ _ _ rfl _ _ (ints Y).toArray rfl rfl (A.there (by rw [ints_size hY]; decide)) (by simpa using hi19 hY) (all_oneCell_toArray ints_one) ?_
          rw [List.toList_toArray]
          replace A := A.putB zero_len hY
          replace F := F.far hq (ints Y)
          generalize World.setCells _ _ _ _ = wd at *
          refine hK.out _ _ F.bb fun hHeld => nrm ?_
          clear hK K)
       | ((first
            | refine rdyS [2, 7] (rdy ?_ (rdy ?_ .nil))
            | refine rdyS [3, 7] (rdy ?_ (rdy ?_ .nil))
            | refine rdyS [7] (rdy ?_ .nil)
            | refine rdyS [2] (rdy ?_ .nil)
            | refine rdyS [3] (rdy ?_ .nil)) <;>
          (intro K hK
           go_simp
           first
            | (with_reducible refine (HJ.out _ _ F.cs.cur ?_).mono ?_
               · omega
               rintro e wd ⟨jk, ja, jb, rfl, hs⟩
               replace F := F.step hs
               try replace A := A.step hs (by have := F.hg; have := F.hB; omega))
            | (obtain ⟨Y, ok, hY, HYG, HC⟩ := HD.out jk ja jb
               with_reducible refine (HC _).mono ?_
               clear HC
               rintro e wd ⟨rfl, hb2⟩
               replace F := F.below hb2
               try replace A := A.below hb2)
            | (have A := Bk.new wd 26 zBA
               have hq := F.bb.lt
               replace F := F.alloc (.cells zBA 26)
               unfold zBA at *
               generalize wd.heap.size = q at *
               generalize World.alloc _ _ = wd at *)
           refine hK.out _ _ F.bb fun hHeld => nrm ?_
           clear hK K))
     case rest =>
      obtain ⟨q, Y, ok, rfl, rfl, hY, HYG, AC, HF⟩ := hcut
      have hq := HF.out.bb.lt
      clear HR HJ HD
      cases ok with
      | false =>
       go_wp2
       go_roundw
       case rel => exact ⟨k - 1, b, by omega, by go_num, fun _ => HGb'.out rfl, HF.out⟩
       case measure => simp [intOf]; omega
      | true =>
       have ar := AC.out.range
       have rt := HF.out.bb.there (n := 19) (by rw [ints_size hl]; decide)
       have HF2 := Lib.hid (HF.out.put hY)
       go_wp2_with (first | (refine wpList_loadB rfl _ rfl _ rfl _ ar hY ?_) | (refine wpList_storeB rfl _ _ rfl _ Y rfl rfl rt hY ?_))
       go_roundw
       case rel => exact ⟨k - 1, Y, by omega, by go_num, fun _ => HYG.out rfl, HF2.out⟩
       case measure => simp [intOf]; omega
   · have HF : Hid (∃ b, BSt w wr g (m + 380) w.heap.size O b) := ⟨b, HR.out.mono (by omega)⟩
     clear HR HGb
     go_wp2_with fail
     all_goals first | (go_meet; exact HF.out) | (exfalso; simp_all; done)
 case rest =>
  obtain ⟨b, hb⟩ := hcut
  have HB := Lib.hid hb
  clear hb HG
  go_wp2_with fail
  refine (pick_c 48 g _ _ HB.out.cs.cur (by omega)).mono ?_
  rintro e w5 ⟨y, rfl, _, hs⟩
  replace HB := Lib.hid (HB.out.step hs)
  clear hs
  go_upto_block 2 with fail
  go_cut [] (fun wx => ∃ b, BSt w wx g (m + 420) w.heap.size O b)
  case first =>
   go_wp2_with fail
   all_goals first
    | (go_meet; exact ⟨_, HB.out.mono (by omega)⟩)
    | (have hq := ‹(y == 0) = true›
       refine (amongL_c [-1, 1000, 1001] g _ _ _ (by simp) HB.out.cs.cur (by omega) (by decide) (by decide)).mono ?_
       rintro e w6 ⟨z, rfl, _, hs⟩
       have H2 := HB.out.step hs
       have f := H2.bb.frozen 18
       obtain ⟨u, c⟩ := H2.cell (i := 18) (by omega)
       replace HB := Lib.hid (H2.one 18 z)
       clear hs H2
       go_wp2_with fail
       go_meet
       exact ⟨_, HB.out.mono (by omega)⟩)
    | (refine (pick_c 6 g _ _ HB.out.cs.cur (by omega)).mono ?_
       rintro e w6 ⟨z, rfl, hz, hs⟩
       replace HB := Lib.hid (HB.out.step hs)
       obtain ⟨zn, rfl⟩ := Int.eq_ofNat_of_zero_le hz.1
       have hzn : zn < 6 := by have := hz.2 (by omega); omega
       have n0 : (0 : Int) ≤ (zn : Int) := by omega
       have n1 : (zn : Int) < 6 := by omega
       clear hs hz
       go_wp2_with fail
       first
        | (have hq := ‹(y == 1) = true›
           refine (cell_c g _ _ HB.out.cs.cur (by omega)).mono ?_)
        | refine (amongL_c [-1, 127, 128, 3] g _ _ _ (by simp) HB.out.cs.cur (by omega) (by decide) (by decide)).mono ?_
       rintro e w7 ⟨z, rfl, _, hs⟩
       have H2 := HB.out.step hs
       have f := H2.bb.frozen zn
       have f2 := H2.bb.frozen (12 + zn)
       obtain ⟨u, c⟩ := H2.cell (i := zn) (by omega)
       obtain ⟨u2, c2⟩ := H2.cell (i := 12 + zn) (by omega)
       have P1 := Lib.hid (H2.one zn z)
       have P2 := Lib.hid (H2.one (12 + zn) z)
       clear hs H2 HB
       go_wp2_with fail
       go_meet
       first | exact ⟨_, P1.out.mono (by omega)⟩ | exact ⟨_, P2.out.mono (by omega)⟩)
  case rest =>
   obtain ⟨b, hb⟩ := hcut
   clear HB
   have ra := hb.bb.range
   have rt := hb.rb.there (n := 19) (by decide)
   have rc := loadVarB (hb.rb.putB (Y := b) zero_len hb.hl).range hb.hl
   have rd := Lib.hid (hb.cs.puts (ints b) (g2 := w.heap.size) 0 hga (by omega))
   have hl := hb.hl
   clear hb
   go_wp2_with (first | (refine wpList_loadB rfl _ rfl _ rfl b ?_ hl ?_; exact ra) | (refine wpList_storeB rfl _ _ rfl _ b rfl rfl ?_ hl ?_; exact rt))
   exact bodyPost_ret (v := aggI b) (res_cell Tryz.results50 rfl rc) rfl ⟨b, hl, rfl, rd.out⟩
end Go.Proofs.YtohgjfdbnkjefaaGreatDoor
namespace Go.Proofs.YtohgjfdbnkjefaaGreatDoor
open Go.RowKit
set_option linter.unusedVariables false
set_option linter.unusedSimpArgs false
set_option maxRecDepth 100000
set_option maxHeartbeats 4000000 in
theorem DrawIsBench_c (v : Value) (xs : List Nat) (w : World) (h : Code w v xs) :
 Calls Tryz.prog 10 #[v] w fun e w' => ∃ b : List Int, b.length = 19 ∧ e = .returned (aggI b) ∧ Below w.heap.size w w' := by
 have B0 := below_one (w := w) (.cells zBA 26)
 have HK := Lib.hid (cur_new (h.below B0))
 have BW := Lib.hid B0
 obtain ⟨a, c, rfl, _⟩ := h
 have R1 := Lib.hid ((Bk.new w 26 zBA).alloc (.cells #[.slice a xs.length c, .int .i64 0, .int .u64 0] 83))
 simp only [World.size_alloc] at HK
 clear B0
 unfold aggI
 unfold zBA at *
 go_enter Tryz.func10, Tryz.ntmps10
 go_wp2_with fail
 refine (bench_c (w.heap.size + 1) 0 _ HK.out (by omega)).mono ?_
 rintro e w1 ⟨b, hl, rfl, hs⟩
 have HB : Hid (Below w.heap.size w w1) := Lib.hid (BW.out.trans (((below_one (w := w.alloc (.cells zBA 26)) _).mono (by first | (simp; done) | (simp; omega))).trans (hs.low (by omega) (by first | (simp; done) | (simp; omega)))))
 have R2 := R1.out.step hs (by omega)
 have rt := R2.there (n := 19) (by decide)
 have R3 : Bk (w1.setCells w.heap.size 0 (ints b)) w.heap.size 26 (ints b).toArray := Bk.putB (b := zeroI) R2 zero_len hl
 have L1 := loadVarB R3.range hl
 have HB2 := Lib.hid (below_cells (ints b) w1 w.heap.size 0 HB.out (Nat.le_refl _))
 clear hs R1 R2 R3 HK BW
 go_wp2_with (refine wpList_storeB rfl _ _ rfl _ b rfl rfl ?_ hl ?_; exact rt)
 exact bodyPost_ret (v := .agg (ints b).toArray) (res_cell Tryz.results10 rfl L1) rfl ⟨b, hl, rfl, HB2.out⟩
theorem ex_word {b : List Int} (hb : b.length = 19) (hg : goodB b = true) (line : ByteArray) (hl : line.size ≤ 1048576) (hc : cmdB line = true) {T : Bs} (hT : sayO (execM b line.data.toList).2 = T) :
 ∃ (b' : List Int) (d' p' : ByteArray) (n' : Int), b'.length = 19 ∧ Hid (∀ W, TabC W → Calls Tryz.prog 13 #[.agg (csC b ByteArray.empty ByteArray.empty 0).toArray, .string line] W fun e w' => e = .returned (.tuple #[.agg (csC b' d' p' n').toArray, .string (bs T)]) ∧ Below W.heap.size W w') := by
 have hs := newC_say (b := b) hc
 rw [hT] at hs
 have hf := (stepV_fit (ok := true) line (newC_fit hb) (fun _ => newC_ok hg)).hb
 refine ⟨(stepV true (newC b) line).1.b, (stepV true (newC b) line).1.d, (stepV true (newC b) line).1.p, (stepV true (newC b) line).1.n, hf, fun W hW => ?_⟩
 refine (ExecuteCommand_c (newC b) line W (newC_fit hb) hl hW).mono fun e w' h => ?_
 have h2 := ex_yes (newC_ok hg) h
 rw [hs] at h2
 exact h2
theorem box_far {w wa : World} {g t : Nat} {cs : Array Value} (h : Bk w g t cs) (hb : Below w.heap.size w wa) (zs : Array Value) (u : Nat) (vs : List Value) : Bk ((wa.alloc (.cells zs u)).setCells wa.heap.size 0 vs) g t cs :=
 ((h.below hb).alloc _).far vs 0 (by have := h.lt; have := hb.size; omega)
theorem below_box {w w1 wa : World} (h : Below w.heap.size w w1) (hb : Below w1.heap.size w1 wa) (zs : Array Value) (u : Nat) (vs : List Value) : Below w.heap.size w ((wa.alloc (.cells zs u)).setCells wa.heap.size 0 vs) :=
 below_cells vs _ _ 0 (Below.alc (Below.chain h hb) _) (Below.chain h hb).size
theorem Bk.putC {w : World} {g t : Nat} {b b2 : List Int} {d p d2 p2 : ByteArray} {n n2 : Int} (h : Bk w g t (csC b d p n).toArray) (hb : b.length = 19) (hb2 : b2.length = 19) : Bk (w.setCells g 0 (csC b2 d2 p2 n2)) g t (csC b2 d2 p2 n2).toArray := by
 have h2 := h.puts (csC b2 d2 p2 n2) 0
 have e := putA_list (csC b2 d2 p2 n2) (csC b d p n) [] (by rw [csC_len hb, csC_len hb2])
 simp only [List.nil_append, List.length_nil] at e
 rw [e] at h2
 exact h2
theorem row_show {b : List Int} (hg : goodB b = true) : brL b true = showR b := by unfold brL; rw [if_pos hg]; rfl
theorem row_sent {b : List Int} (hg : goodB b = true) : brL b false = b.take 6 := by unfold brL; rw [if_pos hg]; rfl
theorem sent_row {b : List Int} (hb : b.length = 19) (hg : goodB b = true) : rowB (b.take 6) = true := by
 unfold rowB
 rw [decide_eq_true (by rw [List.length_take]; omega), Bool.true_and, List.all_eq_true]
 exact fun x hx => cellB_mk (cells_bd hb hg x hx).1 (cells_bd hb hg x hx).2
theorem num_word {xs : List Int} (hl : xs.length ≤ 6) : ∃ (n : Nat) (o : Bool), numV xs = .tuple #[.int .i64 (n : Int), .bool o] ∧ n ≤ 999999 ∧ wordT n o = sayO ((numO xs).map Lib.decDigits) := by
 cases h : numO xs with
 | none => exact ⟨0, false, numV_no h, by omega, rfl⟩
 | some n => exact ⟨n, true, numV_yes h, numO_le h hl, rfl⟩
theorem fault_at {b : List Int} (hg : goodB b = true) {k : Nat} (hk : k < 6) : faultB (bg b (6 + k)) (bg b (12 + k)) = true := (goodAt_true ((goodB_all.1 hg).1 k hk)).2
theorem sIsBench_c (b : List Int) (w : World) (hb : b.length = 19) :
 Calls Tryz.prog 12 #[aggI b] w fun e w' => e = .returned (.bool (goodB b)) ∧ Below w.heap.size w w' := by
 have r0 := range_new w (ints b) 26
 have hb0 := below_one (w := w) (.cells (ints b).toArray 26)
 unfold aggI
 go_enter Tryz.func12, Tryz.ntmps12
 go_wp2_with (refine wpList_loadB rfl _ rfl _ rfl b r0 hb ?_)
 refine (l12Good_c b _ hb).mono ?_
 rintro e w1 ⟨rfl, hb1⟩
 go_wp2
 go_ret
 exact ⟨rfl, Below.chain hb0 hb1⟩
set_option maxHeartbeats 8000000 in
theorem FnConsoleWords_walk (v : Value) (xs : List Nat) (w : World) (h : Code w v xs) (ht : TabC w) :
 Calls Tryz.prog 3 #[v] w fun e w' => e = .returned (.bool true) ∧ Below w.heap.size w w' := by
 have HK := Lib.hid h
 have HT := Lib.hid ht
 clear ht
 obtain ⟨a, c, rfl, _⟩ := h
 have HV := Lib.hid (vBig_c _ _ _ HK.out)
 by_cases hbig : 65536 < xs.length
 · have hd : decide (65536 < xs.length) = true := decide_eq_true hbig
   go_enter Tryz.func3, Tryz.ntmps3
   go_wp2_with fail
   refine HV.out.mono ?_
   rintro e w1 ⟨rfl, rfl⟩
   go_wp2
   go_ret
   exact ⟨rfl, Below.refl _ _⟩
 have hd : decide (65536 < xs.length) = false := decide_eq_false hbig
 go_enter Tryz.func3, Tryz.ntmps3
 go_wp2_with fail
 refine HV.out.mono ?_
 rintro e _ ⟨rfl, rfl⟩
 go_wp2_with fail
 refine (DrawIsBench_c _ _ _ HK.out).mono ?_
 rintro e w1 ⟨b, hb, rfl, hb1⟩
 have t1 := there_new w1 zBA 26 (n := 19) (by decide)
 have KB : Hid (Bk ((w1.alloc (.cells zBA 26)).setCells w1.heap.size 0 (ints b)) w1.heap.size 26 (ints b).toArray) := Bk.putB (b := zeroI) (Bk.new w1 26 zBA) zero_len hb
 have BX := Lib.hid (below_box (Below.refl w.heap.size w) hb1 zBA 26 (ints b))
 clear hb1 HK
 unfold zBA aggI at *
 go_upto_region 4 with (refine wpList_storeB rfl _ _ rfl _ b rfl rfl ?_ hb ?_; exact t1)
 generalize World.setCells _ _ _ _ = w2 at *
 generalize w1.heap.size = g3 at *
 clear t1
 have HN := Lib.hid (fun W => NewConsole_c b W hb)
 rcases hg : goodB b with _ | _
 · have HI := Lib.hid (fun W => sIsBench_c b W hb)
   have HF := Lib.hid (show ncV b = .tuple #[.agg (csC zeroI ByteArray.empty ByteArray.empty 0).toArray, .bool false] by simp [ncV, ncB, hg])
   have HG := Lib.hid hg
   clear hg
   unfold aggI at HN HI
   go_wp2_with (refine wpList_loadB rfl _ rfl _ rfl b ?_ hb ?_; exact KB.out.range)
   refine (HN.out _).mono ?_
   rintro e w3 ⟨rfl, hb3⟩
   rw [HF.out]
   have t1 := there_new w3 zCA 31 (n := 22) (by decide)
   have KB2 := Lib.hid (box_far KB.out hb3 zCA 31 (csC zeroI ByteArray.empty ByteArray.empty 0))
   have BX2 := Lib.hid (below_box BX.out hb3 zCA 31 (csC zeroI ByteArray.empty ByteArray.empty 0))
   clear hb3 KB BX
   unfold zCA at *
   go_upto_region 5 with (refine wpList_storeC rfl _ _ rfl _ zeroI ByteArray.empty ByteArray.empty 0 rfl rfl ?_ zero_len ?_; exact t1)
   generalize World.setCells _ _ _ _ = w4 at *
   go_wp2_with (refine wpList_loadB rfl _ rfl _ rfl b ?_ hb ?_; exact KB2.out.range)
   refine (HI.out _).mono ?_
   rintro e w5 ⟨rfl, hb5⟩
   rw [HG.out]
   go_wp2
   go_ret
   exact ⟨rfl, Below.chain BX2.out hb5⟩
 have HF := Lib.hid (show ncV b = .tuple #[.agg (csC b ByteArray.empty ByteArray.empty 0).toArray, .bool true] by simp [ncV, ncB, hg])
 have hcs : (csC b ByteArray.empty ByteArray.empty 0).length = 22 := csC_len hb _ _ _
 obtain ⟨b1, d1, p1, n1, hl1, X1⟩ := ex_word hb hg ⟨#[114, 111, 119]⟩ (by decide) (by decide) (words_row b)
 obtain ⟨b2, d2, p2, n2, hl2, X2⟩ := ex_word hb hg ⟨#[115, 101, 110, 116]⟩ (by decide) (by decide) (words_sent b)
 obtain ⟨b3, d3, p3, n3, hl3, X3⟩ := ex_word hb hg ⟨#[110, 117, 109, 98, 101, 114]⟩ (by decide) (by decide) (words_number b)
 obtain ⟨b4, d4, p4, n4, hl4, X4⟩ := ex_word hb hg ⟨#[98, 97, 114, 115]⟩ (by decide) (by decide) (words_bars b)
 obtain ⟨b5, d5, p5, n5, hl5, X5⟩ := ex_word hb hg ⟨#[116, 111, 108, 100, 32, 48]⟩ (by decide) (by decide) (words_told b)
 obtain ⟨b6, d6, p6, n6, hl6, X6⟩ := ex_word hb hg ⟨#[105, 109, 97, 103, 101, 115, 32, 53]⟩ (by decide) (by decide) (words_images b)
 have HROW := Lib.hid (showR_row hg)
 have HBD := Lib.hid (showR_bd hg)
 have HCB := Lib.hid (cells_bd hb hg)
 have HR1 := Lib.hid (fun W => BenchRow_c b W hb)
 have HR2 := Lib.hid (fun W => SentRow_c b W hb)
 unfold IntsPost at HR1 HR2
 rw [row_show hg, hg] at HR1
 rw [row_sent hg, hg] at HR2
 unfold aggI at HR1 HR2
 have L1 : (showR b).length = 6 := shTo_len b 6
 have L2 : (b.take 6).length = 6 := by rw [List.length_take]; omega
 have T1 := Lib.hid (fun v W h => RowText_c v (showR b) W h (by rw [L1]; omega) HBD.out HROW.out)
 have T2 := Lib.hid (fun v W h => RowText_c v (b.take 6) W h (by rw [L2]; omega) HCB.out (sent_row hb hg))
 obtain ⟨m3, o3, e3, hm3, q3⟩ := num_word (show (showR b).length ≤ 6 by rw [L1]; omega)
 have N3 := Lib.hid (fun v W h => NumberOf_c v (showR b) W h HROW.out)
 have N4 := Lib.hid (fun v W h => LitOf_c v (showR b) W h HROW.out)
 rw [e3] at N3
 rw [← q3] at X3
 clear e3 q3 L1 L2
 have hm4 := lit_le hg
 have N5 := Lib.hid (fun W => ToldDigits_c (bg b 6) (bg b 12) W)
 have N6 := Lib.hid (fun W => CountImages_c (bg b 11) (bg b 17) W)
 have hf5 : faultB (bg b 6) (bg b 12) = true := fault_at hg (k := 0) (by omega)
 have hf6 : faultB (bg b 11) (bg b 17) = true := fault_at hg (k := 5) (by omega)
 have hd5 := tdL_bd (bg b 6) (bg b 12)
 have hk5 := tdL_le (bg b 6) (bg b 12)
 have hm6 : (grpL (bg b 11) (bg b 17)).length ≤ 10 := grpTo_le _ _ _
 unfold IntsPost at N5
 unfold ciV at N6
 rw [hf5] at N5
 rw [hf6] at N6
 rw [if_pos rfl] at N6
 replace X5 : Hid (∀ W, TabC W → Calls Tryz.prog 13 #[.agg (csC b ByteArray.empty ByteArray.empty 0).toArray, .string ⟨#[116, 111, 108, 100, 32, 48]⟩] W fun e w' => e = .returned (.tuple #[.agg (csC b5 d5 p5 n5).toArray, .string (bs (listT (tdL (bg b 6) (bg b 12))))]) ∧ Below W.heap.size W w') := X5
 replace X6 : Hid (∀ W, TabC W → Calls Tryz.prog 13 #[.agg (csC b ByteArray.empty ByteArray.empty 0).toArray, .string ⟨#[105, 109, 97, 103, 101, 115, 32, 53]⟩] W fun e w' => e = .returned (.tuple #[.agg (csC b6 d6 p6 n6).toArray, .string (bs (Lib.decDigits (grpL (bg b 11) (bg b 17)).length))]) ∧ Below W.heap.size W w') := X6
 clear hf5 hf6
 generalize litL (showR b) = m4 at *
 generalize (grpL (bg b 11) (bg b 17)).length = m6 at *
 generalize tdL (bg b 6) (bg b 12) = ds at *
 have V3 := Lib.hid (fun W h => vWord_c m3 o3 hm3 W h)
 have V4 : Hid (∀ W, Tab W → Calls Tryz.prog 21 #[.int .i64 (m4 : Int), .bool true] W fun e w' => e = .returned (.string (bs (Lib.decDigits m4))) ∧ Below W.heap.size W w') := fun W h => vWord_c m4 true hm4 W h
 have V6 : Hid (∀ W, Tab W → Calls Tryz.prog 21 #[.int .i64 (m6 : Int), .bool true] W fun e w' => e = .returned (.string (bs (Lib.decDigits m6))) ∧ Below W.heap.size W w') := fun W h => vWord_c m6 true (by omega) W h
 generalize bs (rowTx (showR b)) = S1 at *
 generalize bs (rowTx (b.take 6)) = S2 at *
 generalize bs (wordT m3 o3) = S3 at *
 generalize bs (Lib.decDigits m4) = S4 at *
 generalize bs (Lib.decDigits m6) = S6 at *
 obtain ⟨S5, hS5⟩ : ∃ S, bs (listT ds) = S := ⟨_, rfl⟩
 rw [hS5] at X5
 have HS5 := Lib.hid hS5
 have HD5 := Lib.hid hd5
 clear hS5 hd5 HBD HCB HROW hm3 hm4 hm6
 have e1 := str_eq (rfl : S1 = S1)
 have e2 := str_eq (rfl : S2 = S2)
 have e3 := str_eq (rfl : S3 = S3)
 have e4 := str_eq (rfl : S4 = S4)
 have e5 := str_eq (rfl : S5 = S5)
 have e6 := str_eq (rfl : S6 = S6)
 have z1 : (S1.toList != S1.toList) = false := by simp
 have z2 : (S2.toList != S2.toList) = false := by simp
 have z3 : (S3.toList != S3.toList) = false := by simp
 have z4 : (S4.toList != S4.toList) = false := by simp
 have z5 : (S5.toList != S5.toList) = false := by simp
 clear hcs
 unfold aggI at HN
 go_wp2_with (refine wpList_loadB rfl _ rfl _ rfl b ?_ hb ?_; exact KB.out.range)
 refine (HN.out _).mono ?_
 rintro e w3 ⟨rfl, hb3⟩
 rw [HF.out]
 have t1 := there_new w3 zCA 31 (n := 22) (by decide)
 have KB2 := Lib.hid (box_far KB.out hb3 zCA 31 (csC b ByteArray.empty ByteArray.empty 0))
 have BX2 := Lib.hid (below_box BX.out hb3 zCA 31 (csC b ByteArray.empty ByteArray.empty 0))
 have KC2 : Hid (Bk ((w3.alloc (.cells zCA 31)).setCells w3.heap.size 0 (csC b ByteArray.empty ByteArray.empty 0)) w3.heap.size 31 (csC b ByteArray.empty ByteArray.empty 0).toArray) := Bk.putC (b := zeroI) (Bk.new w3 31 zCA) zero_len hb
 clear hb3 KB BX
 unfold zCA at *
 go_upto_region 5 with (refine wpList_storeC rfl _ _ rfl _ b ByteArray.empty ByteArray.empty 0 rfl rfl ?_ hb ?_; exact t1)
 generalize World.setCells _ _ _ _ = w4 at *
 generalize w3.heap.size = g4 at *
 clear t1
 go_wp2_with (refine wpList_loadC rfl _ rfl _ rfl b ByteArray.empty ByteArray.empty 0 ?_ hb ?_; exact KC2.out.range)
 refine (X1.out _ (HT.out.on BX2.out)).mono ?_
 rintro e w5 ⟨rfl, hb3⟩
 have t1 := there_new w5 zCA 31 (n := 22) (by decide)
 have KB3 := Lib.hid (box_far KB2.out hb3 zCA 31 (csC b1 d1 p1 n1))
 have KC3 := Lib.hid (box_far KC2.out hb3 zCA 31 (csC b1 d1 p1 n1))
 have BX3 := Lib.hid (below_box BX2.out hb3 zCA 31 (csC b1 d1 p1 n1))
 clear hb3 KB2 KC2 BX2
 unfold zCA at *
 go_upto_region 8 with (refine wpList_storeC rfl _ _ rfl _ b1 d1 p1 n1 rfl rfl ?_ hl1 ?_; exact t1)
 generalize World.setCells _ _ _ _ = w6 at *
 clear t1
 go_wp2_with (refine wpList_loadC rfl _ rfl _ rfl b ByteArray.empty ByteArray.empty 0 ?_ hb ?_; exact KC3.out.range)
 refine (X2.out _ (HT.out.on BX3.out)).mono ?_
 rintro e w7 ⟨rfl, hb3⟩
 have t1 := there_new w7 zCA 31 (n := 22) (by decide)
 have KB4 := Lib.hid (box_far KB3.out hb3 zCA 31 (csC b2 d2 p2 n2))
 have KC4 := Lib.hid (box_far KC3.out hb3 zCA 31 (csC b2 d2 p2 n2))
 have BX4 := Lib.hid (below_box BX3.out hb3 zCA 31 (csC b2 d2 p2 n2))
 clear hb3 KB3 KC3 BX3
 unfold zCA at *
 go_upto_region 9 with (refine wpList_storeC rfl _ _ rfl _ b2 d2 p2 n2 rfl rfl ?_ hl2 ?_; exact t1)
 generalize World.setCells _ _ _ _ = w8 at *
 clear t1
 go_wp2_with (refine wpList_loadC rfl _ rfl _ rfl b ByteArray.empty ByteArray.empty 0 ?_ hb ?_; exact KC4.out.range)
 refine (X3.out _ (HT.out.on BX4.out)).mono ?_
 rintro e w9 ⟨rfl, hb3⟩
 have t1 := there_new w9 zCA 31 (n := 22) (by decide)
 have KB5 := Lib.hid (box_far KB4.out hb3 zCA 31 (csC b3 d3 p3 n3))
 have KC5 := Lib.hid (box_far KC4.out hb3 zCA 31 (csC b3 d3 p3 n3))
 have BX5 := Lib.hid (below_box BX4.out hb3 zCA 31 (csC b3 d3 p3 n3))
 clear hb3 KB4 KC4 BX4
 unfold zCA at *
 go_upto_region 10 with (refine wpList_storeC rfl _ _ rfl _ b3 d3 p3 n3 rfl rfl ?_ hl3 ?_; exact t1)
 generalize World.setCells _ _ _ _ = w10 at *
 clear t1
 go_wp2_with (refine wpList_loadC rfl _ rfl _ rfl b ByteArray.empty ByteArray.empty 0 ?_ hb ?_; exact KC5.out.range)
 refine (X4.out _ (HT.out.on BX5.out)).mono ?_
 rintro e w11 ⟨rfl, hb3⟩
 have t1 := there_new w11 zCA 31 (n := 22) (by decide)
 have KB6 := Lib.hid (box_far KB5.out hb3 zCA 31 (csC b4 d4 p4 n4))
 have KC6 := Lib.hid (box_far KC5.out hb3 zCA 31 (csC b4 d4 p4 n4))
 have BX6 := Lib.hid (below_box BX5.out hb3 zCA 31 (csC b4 d4 p4 n4))
 clear hb3 KB5 KC5 BX5
 unfold zCA at *
 go_upto_region 11 with (refine wpList_storeC rfl _ _ rfl _ b4 d4 p4 n4 rfl rfl ?_ hl4 ?_; exact t1)
 generalize World.setCells _ _ _ _ = w12 at *
 clear t1
 go_wp2_with (refine wpList_loadC rfl _ rfl _ rfl b ByteArray.empty ByteArray.empty 0 ?_ hb ?_; exact KC6.out.range)
 refine (X5.out _ (HT.out.on BX6.out)).mono ?_
 rintro e w13 ⟨rfl, hb3⟩
 have t1 := there_new w13 zCA 31 (n := 22) (by decide)
 have KB7 := Lib.hid (box_far KB6.out hb3 zCA 31 (csC b5 d5 p5 n5))
 have KC7 := Lib.hid (box_far KC6.out hb3 zCA 31 (csC b5 d5 p5 n5))
 have BX7 := Lib.hid (below_box BX6.out hb3 zCA 31 (csC b5 d5 p5 n5))
 clear hb3 KB6 KC6 BX6
 unfold zCA at *
 go_upto_region 12 with (refine wpList_storeC rfl _ _ rfl _ b5 d5 p5 n5 rfl rfl ?_ hl5 ?_; exact t1)
 generalize World.setCells _ _ _ _ = w14 at *
 clear t1
 go_wp2_with (refine wpList_loadC rfl _ rfl _ rfl b ByteArray.empty ByteArray.empty 0 ?_ hb ?_; exact KC7.out.range)
 refine (X6.out _ (HT.out.on BX7.out)).mono ?_
 rintro e w15 ⟨rfl, hb3⟩
 have t1 := there_new w15 zCA 31 (n := 22) (by decide)
 have KB8 := Lib.hid (box_far KB7.out hb3 zCA 31 (csC b6 d6 p6 n6))
 have KC8 := Lib.hid (box_far KC7.out hb3 zCA 31 (csC b6 d6 p6 n6))
 have BX8 := Lib.hid (below_box BX7.out hb3 zCA 31 (csC b6 d6 p6 n6))
 clear hb3 KB7 KC7 BX7
 unfold zCA at *
 go_upto_region 13 with (refine wpList_storeC rfl _ _ rfl _ b6 d6 p6 n6 rfl rfl ?_ hl6 ?_; exact t1)
 generalize World.setCells _ _ _ _ = w16 at *
 clear t1
 clear HN KC8
 go_wp2_with (refine wpList_loadB rfl _ rfl _ rfl b ?_ hb ?_; exact KB8.out.range)
 refine (HR1.out _).mono ?_
 rintro e w17 ⟨r1, rfl, ho1, hb3⟩
 have R1 := Lib.hid (Ints.of_own ho1)
 have KB9 := Lib.hid (KB8.out.below hb3)
 have BX9 := Lib.hid (Below.chain BX8.out hb3)
 clear hb3 ho1 KB8 BX8
 go_wp2_with (refine wpList_loadB rfl _ rfl _ rfl b ?_ hb ?_; exact KB9.out.range)
 refine (HR2.out _).mono ?_
 rintro e w18 ⟨r2, rfl, ho1, hb3⟩
 have R2 := Lib.hid (Ints.of_own ho1)
 have R1b := Lib.hid (R1.out.below hb3)
 have KB10 := Lib.hid (KB9.out.below hb3)
 have BX10 := Lib.hid (Below.chain BX9.out hb3)
 clear hb3 ho1 KB9 BX9 R1
 go_wp2_with fail
 refine (T1.out _ _ R1b.out).mono ?_
 rintro e w19 ⟨rfl, hb3⟩
 have R1 := Lib.hid (R1b.out.below hb3)
 have R2b := Lib.hid (R2.out.below hb3)
 have KB11 := Lib.hid (KB10.out.below hb3)
 have BX11 := Lib.hid (Below.chain BX10.out hb3)
 clear hb3 KB10 BX10 R1b R2
 go_wp2_with fail
 refine (T2.out _ _ R2b.out).mono ?_
 rintro e w20 ⟨rfl, hb3⟩
 have R1b := Lib.hid (R1.out.below hb3)
 have KB12 := Lib.hid (KB11.out.below hb3)
 have BX12 := Lib.hid (Below.chain BX11.out hb3)
 clear hb3 KB11 BX11 R2b R1
 go_wp2_with fail
 refine (N3.out _ _ R1b.out).mono ?_
 rintro e w21 ⟨rfl, hb3⟩
 have R1 := Lib.hid (R1b.out.below hb3)
 have KB13 := Lib.hid (KB12.out.below hb3)
 have BX13 := Lib.hid (Below.chain BX12.out hb3)
 clear hb3 KB12 BX12 R1b
 go_wp2_with fail
 refine (N4.out _ _ R1.out).mono ?_
 rintro e w22 ⟨rfl, hb3⟩
 have KB14 := Lib.hid (KB13.out.below hb3)
 have BX14 := Lib.hid (Below.chain BX13.out hb3)
 have c6 : w22.cell? ⟨g3, 6, none⟩ = some (.int .i64 (bg b 6)) := (KB14.out.cell 6).trans (ints_get (by omega))
 have c12 : w22.cell? ⟨g3, 12, none⟩ = some (.int .i64 (bg b 12)) := (KB14.out.cell 12).trans (ints_get (by omega))
 clear hb3 KB13 BX13 R1
 go_wp2_with fail
 refine (N5.out _).mono ?_
 rintro e w23 ⟨dv, rfl, ho1, hb3⟩
 have R5 := Lib.hid (Ints.of_own ho1)
 have KB15 := Lib.hid (KB14.out.below hb3)
 have BX15 := Lib.hid (Below.chain BX14.out hb3)
 have c11 : w23.cell? ⟨g3, 11, none⟩ = some (.int .i64 (bg b 11)) := (KB15.out.cell 11).trans (ints_get (by omega))
 have c17 : w23.cell? ⟨g3, 17, none⟩ = some (.int .i64 (bg b 17)) := (KB15.out.cell 17).trans (ints_get (by omega))
 clear hb3 ho1 KB14 BX14 c6 c12
 go_wp2_with fail
 refine (N6.out _).mono ?_
 rintro e w24 ⟨rfl, hb3⟩
 obtain ⟨da, dc, rfl, _, _, HC⟩ := (R5.out.below hb3).parts
 have BX16 := Lib.hid (Below.chain BX15.out hb3)
 clear hb3 KB15 BX15 c11 c17 R5
 obtain ⟨iz, hi, hz0, hz1, hz2⟩ := info_parts info_strx
 have HO0 := Lib.hid (World.ownsRow_lit (e := 9) (size := 1) (base := w24.heap.size) w24 #[] 0 (Nat.le_refl _) (by decide) rfl)
 have B0 := Lib.hid (below_one (w := w24) (.cells #[] 9))
 go_wp2
 go_loopw [34, 35] (fun o j wr => ∃ k : Nat, k ≤ ds.length ∧ j = .int .i64 (k : Int) ∧ wr.ownsRow w24.heap.size 9 1 o k (strsV ((ds.take k).map Lib.itoa)) ∧ Below w24.heap.size w24 wr) (fun _ j _ => ds.length + 1 - (intOf j).toNat)
 case atStart => exact ⟨0, by omega, rfl, HO0.out, B0.out⟩
 case round =>
  obtain ⟨k, hk, rfl, ho, hb0⟩ := hrel
  have HO := Lib.hid ho
  have HB := Lib.hid hb0
  clear ho hb0 HO0 B0
  by_cases hlt : k < ds.length
  · have hd2 : decide ((k : Int) < (ds.length : Int)) = true := by simp; omega
    obtain ⟨x, hxx⟩ := elem_at hlt
    obtain ⟨vb, off, rfl, hc0⟩ := HC.out k x hxx.out
    have hc := cell_later HB.out hc0
    obtain ⟨x0, x1⟩ := HD5.out x (List.mem_of_getElem? hxx.out)
    have HS := Lib.hid (take_map Lib.itoa hxx.out)
    clear hc0 hxx
    obtain ⟨n, rfl⟩ := Int.eq_ofNat_of_zero_le x0
    have HW : Hid (∀ W, Tab W → Calls Tryz.prog 21 #[.int .i64 (n : Int), .bool true] W fun e w' => e = .returned (.string (bs (Lib.itoa (n : Int)))) ∧ Below W.heap.size W w') := fun W h => by rw [itoa_nat]; exact vWord_c n true (by omega) W h
    generalize hcur : (ds.take k).map Lib.itoa = cur at *
    generalize hit : Lib.itoa (n : Int) = it at *
    clear hcur hit
    go_wp2_with fail
    refine (HW.out _ (HT.out.on (Below.chain BX16.out HB.out)).pow).mono ?_
    rintro e w26 ⟨rfl, hb2⟩
    replace HO := Lib.hid (own_keep HO.out hb2)
    replace HB := Lib.hid (Below.chain HB.out hb2)
    clear hb2 hc
    go_wp2_with (at_builtin; refine wpList_append_own_at _ rfl _ _ 48 rfl w24.heap.size 9 iz (.string ⟨#[]⟩) 1 16 Tryz.underlying48 hi hz0 hz1 hz2 rfl (by decide) _ k (strsV cur) rfl (HO.out.alloc _) ⟨w26.heap.size, 0, none⟩ 1 1 [.string (bs it)] rfl rfl (news_new _ [.string (bs it)] _) (by simp [Value.oneCell']) (by unfold maxLen; omega) (by omega) (by have := HB.out.size; simp; omega) ?_)
    intro v' w27 ho5 hg5 _ _
    have HB7 := Lib.hid ((Below.alc HB.out _).grown hg5 (by have := HB.out.size; simp; omega) (fun g hg => (HO.out.lt g hg).1))
    have HO5 := Lib.hid ho5
    clear ho5 hg5
    go_wp2
    go_roundw
    case rel => exact ⟨k + 1, by omega, by go_num, ownsRow_cast HO5.out rfl (by rw [HS.out, strsV_snoc] <;> rfl), HB7.out⟩
    case measure => first | (simp [intOf]; done) | (simp [intOf]; omega)
  · obtain rfl : k = ds.length := by omega
    have hd2 : decide ((ds.length : Int) < (ds.length : Int)) = false := by simp
    have hsl := Sl.of_own HO.out
    rw [List.take_length] at hsl
    have HJ := Lib.hid (JoinStrings_c _ (ds.map Lib.itoa) wr (by rw [List.length_map]; exact hsl) (by rw [List.length_map]; omega) (fun y hy => by obtain ⟨z, hz, rfl⟩ := List.mem_map.1 hy; have h2 := HD5.out z hz; have := itoa_len h2.1 (by omega); omega)
     (fun y hy h32 => by
      obtain ⟨z, hz, rfl⟩ := List.mem_map.1 hy
      obtain ⟨n, rfl⟩ := Int.eq_ofNat_of_zero_le (HD5.out z hz).1
      have := decDigits_digit n _ (by rw [← itoa_nat]; exact h32)
      revert this; decide))
    have BW := Lib.hid (Below.chain BX16.out HB.out)
    obtain ⟨pa, pc, hpv, _⟩ := hsl.slice
    subst hpv
    clear hsl HO HB
    go_wp2_with fail
    refine HJ.out.mono ?_
    rintro e w27 ⟨⟨jo, rfl⟩, hb3⟩
    have BV := Lib.hid (Below.chain BW.out hb3)
    clear hb3 HJ BW
    rcases hz : ((ds.length : Int) == 0) with _ | _
    · have h5 : bs (joinS (ds.map Lib.itoa)) = S5 := by
       rw [← HS5.out]
       unfold listT
       rw [if_neg (fun e => by rw [e] at hz; cases hz)]
      rw [h5]
      clear h5
      go_wp2_with fail
      refine (V3.out _ (HT.out.on BV.out).pow).mono ?_
      rintro e w28 ⟨rfl, hb3⟩
      have BU := Lib.hid (Below.chain BV.out hb3)
      clear hb3
      go_wp2_with fail
      refine (V4.out _ (HT.out.on BU.out).pow).mono ?_
      rintro e w29 ⟨rfl, hb3⟩
      have BT := Lib.hid (Below.chain BU.out hb3)
      clear hb3
      go_wp2_with fail
      refine (V6.out _ (HT.out.on BT.out).pow).mono ?_
      rintro e w30 ⟨rfl, hb3⟩
      have BS := Lib.hid (Below.chain BT.out hb3)
      clear hb3
      go_wp2
      go_ret
      exact ⟨rfl, BS.out⟩
    · have h5 : S5 = ⟨#[110, 111, 110, 101]⟩ := by
       rw [← HS5.out, List.eq_nil_of_length_eq_zero (show ds.length = 0 by simpa using hz)]; rfl
      subst h5
      go_wp2_with fail
      refine (V3.out _ (HT.out.on BV.out).pow).mono ?_
      rintro e w28 ⟨rfl, hb3⟩
      have BU := Lib.hid (Below.chain BV.out hb3)
      clear hb3
      go_wp2_with fail
      refine (V4.out _ (HT.out.on BU.out).pow).mono ?_
      rintro e w29 ⟨rfl, hb3⟩
      have BT := Lib.hid (Below.chain BU.out hb3)
      clear hb3
      go_wp2_with fail
      refine (V6.out _ (HT.out.on BT.out).pow).mono ?_
      rintro e w30 ⟨rfl, hb3⟩
      have BS := Lib.hid (Below.chain BT.out hb3)
      clear hb3
      go_wp2
      go_ret
      exact ⟨rfl, BS.out⟩
end Go.Proofs.YtohgjfdbnkjefaaGreatDoor
