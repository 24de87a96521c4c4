/- Walks of FaultsOf, both texts. -/
import Derived.Test.YtlipkplomndjcaaDelF
import Derived.Test.YtlipkplomndjcaaRead
import Derived.Test.YtlipkplomndjcaaAllFaults
import Derived.Test.YtlipkplomndjcaaMem
import Derived.Test.YtlipkplomndjcaaHarm
namespace Go.Proofs.Ytlipkplomndjcaa
open Go.RowKit
set_option linter.unusedVariables false
set_option maxRecDepth 100000
def foOk (ds cs : List Int) : Bool := inB (ds.length : Int) 1 10 && (decide (cs.length = ds.length) && (digitsB ds && cs.all cellB))
def foQ (ds cs : List Int) (f : Int × Int) : Bool := fitsB f.1 f.2 ds cs
def foL (ds cs : List Int) : List (Int × Int) := if foOk ds cs then allF (foQ ds cs) else []
theorem foL_le (ds cs : List Int) : (foL ds cs).length ≤ 16384 := by
  unfold foL; split
  · exact allF_le _
  · simp
def FsPost (w : World) (L : List (Int × Int)) (b : Bool) (e : Ending) (w' : World) : Prop :=
  ∃ u, e = .returned (.tuple #[u, .bool b]) ∧ w'.ownsRow w.heap.size 42 2 u L.length (flat2 L) ∧ Below w.heap.size w w'
theorem FsPost.mk' {w w' : World} {L L' : List (Int × Int)} {b b' : Bool} {u : Value} (hL : L = L') (hbb : b = b') (ho : w'.ownsRow w.heap.size 42 2 u L'.length (flat2 L')) (hb : Below w.heap.size w w') : FsPost w L b (.returned (.tuple #[u, .bool b'])) w' := by
  subst hL hbb; exact ⟨u, rfl, ho, hb⟩
theorem FaultsOfF_c (d l : Int) (p1 p2 p3 : Nat) (s1 s2 : Value) (ds cs : List Int) (w : World) (d0 : 0 ≤ d) (d1 : d ≤ 127) (l0 : 0 ≤ l) (l1 : l ≤ 127) (q1 : w.cell? ⟨p1, 0, none⟩ = some s1) (q2 : w.cell? ⟨p3, 0, none⟩ = some s2)
    (qo : ∀ j, j < 10 → w.cell? ⟨p2, j, none⟩ = some (.int .i64 (dg (j : Int))))
    (h1 : Ints w s1 ds) (h2 : Ints w s2 cs) (hl : ds.length = cs.length) (hd : digitsB ds = true) :
    Calls Try.prog 90 #[.agg #[.int .i64 d, .int .i64 l], .pointer (some ⟨p1, 0, none⟩), .pointer (some ⟨p2, 0, none⟩), .pointer (some ⟨p3, 0, none⟩)] w fun e w' => e = .returned (.bool (!fitsB d l ds cs)) ∧ Below w.heap.size w w' := by
  have hm1 := h1.le; have hm2 := h2.le
  obtain ⟨a1, c1, rfl, _, _, H1⟩ := h1.parts
  obtain ⟨a2, c2, rfl, _, _, H2⟩ := h2.parts
  have hb0 := below_one (w := w) (.cells #[.int .i64 d, .int .i64 l] 42)
  have q10 := cell_later hb0 q1
  have q20 := cell_later hb0 q2
  have r0 : (w.alloc (.cells #[.int .i64 d, .int .i64 l] 42)).cell? ⟨w.heap.size, 0, none⟩ = some (.int .i64 d) := by rw [World.cell?_alloc_at _ _ _ _ rfl]; rfl
  have r1 : (w.alloc (.cells #[.int .i64 d, .int .i64 l] 42)).cell? ⟨w.heap.size, 1, none⟩ = some (.int .i64 l) := by rw [World.cell?_alloc_at _ _ _ _ rfl]; rfl
  have HL := Lib.hid hl; have HQ := Lib.hid qo; clear hl qo
  go_enter Try.func90, Try.ntmps90
  go_wp2
  go_loopw [10, 6, 7] (fun i _ _ wr => ∃ k : Nat, k ≤ ds.length ∧ i = .int .i64 k ∧ Hid (fitsTo d l ds cs k = true) ∧ Below w.heap.size w wr ∧ wr.cell? ⟨w.heap.size, 0, none⟩ = some (.int .i64 d) ∧ wr.cell? ⟨w.heap.size, 1, none⟩ = some (.int .i64 l) ∧ wr.cell? ⟨p1, 0, none⟩ = some (.slice a1 ds.length c1) ∧ wr.cell? ⟨p3, 0, none⟩ = some (.slice a2 cs.length c2)) (fun i _ _ _ => ds.length - (intOf i).toNat)
  case atStart => exact ⟨0, by omega, rfl, fitsTo_zero _ _ _ _, hb0, r0, r1, q10, q20⟩
  case round =>
    obtain ⟨k, hk, rfl, hbef, hb, g0, g1, g4, g5⟩ := hrel
    clear q10 q20 r0 r1 hb0
    by_cases hlt : k < ds.length
    · have hlt2 : k < cs.length := by rw [← HL.out]; exact hlt
      have hdd : decide ((k : Int) < (ds.length : Int)) = true := by simp; omega
      obtain ⟨x, hx⟩ := elem_at hlt
      obtain ⟨y, hy⟩ := elem_at hlt2
      obtain ⟨b1, o1, rfl, f1⟩ := H1.out k x hx.out
      obtain ⟨b2, o2, rfl, f2⟩ := H2.out k y hy.out
      have g2 := cell_later hb f1
      have g3 := cell_later hb f2
      have hxd := digits_at hd hx.out
      have bdx := dg_bd x
      have hx0 := hxd.1; have hx1 := hxd.2
      clear h1 h2 f1 f2 hxd q1 q2
      obtain ⟨xn, rfl⟩ := Int.eq_ofNat_of_zero_le hx0
      have hxn : xn < 10 := by omega
      have g6 := cell_later hb (HQ.out xn hxn)
      have hxd1 : decide ((xn : Int) < 10) = true := by simp; omega
      have hng : ¬ 10 ≤ xn := by omega
      have hia : ∀ w : World, (Instr.indexAt 96 (.pointer (some ⟨p2, 0, none⟩)) (.int .i64 (xn : Int))).run Try.prog w = .ok (.pointer (some ⟨p2, xn, none⟩)) w := fun w => by
        simp [Instr.indexAt, go_sem]; omega
      go_wp2_with fail
      go_region_held3 (fun w' => w'.cell? ⟨w.heap.size, 0, none⟩ = some (.int .i64 d) ∧ w'.cell? ⟨w.heap.size, 1, none⟩ = some (.int .i64 l) ∧ w'.cell? ⟨p1, 0, none⟩ = some (.slice (some ⟨b1, o1, none⟩) ds.length c1) ∧ w'.cell? ⟨p3, 0, none⟩ = some (.slice (some ⟨b2, o2, none⟩) cs.length c2) ∧ w'.cell? ⟨p2, xn, none⟩ = some (.int .i64 (dg (xn : Int))) ∧ w'.cell? ⟨b2, o2 + k, none⟩ = some (.int .i64 y))
        (first | go_keep | (go_split_ands; exact ⟨cell_later (by assumption) (by assumption), cell_later (by assumption) (by assumption), cell_later (by assumption) (by assumption), cell_later (by assumption) (by assumption), cell_later (by assumption) (by assumption), cell_later (by assumption) (by assumption)⟩))
        (first | (go_at_call 91; refine (shown_c d l (dg (xn : Int)) d0 d1 l0 l1 bdx.1 bdx.2 _).mono ?_; rintro e w' ⟨rfl, hb4⟩))
      go_split_ands
      have hb6 : Below w.heap.size w _ := Below.chain hb.drew hb4
      rcases hq : (shC d l (dg (xn : Int)) == y) with _ | _
      · have hq2 := bne_of_beq hq
        have HF := Lib.hid (fitsB_false hx.out hy.out hq); clear hq
        simp only [Bool.not_false] at hq2
        go_wp2
        go_ret
        exact ⟨by rw [HF.out]; rfl, hb6⟩
      · have hq2 := bne_of_beq hq
        have HQ2 := Lib.hid hq; clear hq
        simp only [Bool.not_true] at hq2
        go_wp2
        go_roundw
        case rel => exact ⟨k + 1, by omega, by go_num, by rw [fitsTo_succ hx.out hy.out, hbef.out, HQ2.out]; rfl, hb6, by assumption, by assumption, by assumption, by assumption⟩
        case measure => simp [intOf]; omega
    · obtain rfl : k = ds.length := by omega
      have HF := Lib.hid (show fitsB d l ds cs = true from hbef.out)
      go_wp2
      go_ret
      exact ⟨by rw [HF.out]; rfl, hb⟩
theorem dig10 : ∀ j : Fin 10, (#[.int .i64 63, .int .i64 6, .int .i64 91, .int .i64 79, .int .i64 102, .int .i64 109, .int .i64 125, .int .i64 7, .int .i64 127, .int .i64 111] : Array Value)[j.1]? = some (.int .i64 (dg (j.1 : Int)))
  | ⟨0, _⟩ => rfl
  | ⟨1, _⟩ => rfl
  | ⟨2, _⟩ => rfl
  | ⟨3, _⟩ => rfl
  | ⟨4, _⟩ => rfl
  | ⟨5, _⟩ => rfl
  | ⟨6, _⟩ => rfl
  | ⟨7, _⟩ => rfl
  | ⟨8, _⟩ => rfl
  | ⟨9, _⟩ => rfl
theorem Ints.block_lt {w : World} {v : Value} {xs : List Int} (h : Ints w v xs) (hp : 0 < xs.length) : ∀ b, v.ownBlock = some b → b < w.heap.size := by
  obtain ⟨a, c, rfl, _, _, HC⟩ := h.parts
  intro b hb
  obtain ⟨b', off, e, hc⟩ := HC.out 0 xs[0] (List.getElem?_eq_getElem hp)
  subst e
  simp only [Value.ownBlock, Option.some.injEq] at hb
  subst hb
  exact World.block_lt_of_cell? _ _ hc
theorem FaultsOf_c (v1 v2 : Value) (ds cs : List Int) (w : World) (h1 : Ints w v1 ds) (h2 : Ints w v2 cs) : Calls Try.prog 10 #[v1, v2] w (FsPost w (foL ds cs) (foOk ds cs)) := by
  have hm1 := h1.le; have hm2 := h2.le
  have hA1' := h1.block_lt
  have hA2 := h2.block_lt
  obtain ⟨a1, c1, rfl, _, _, _⟩ := h1.parts
  obtain ⟨a2, c2, rfl, _, _, _⟩ := h2.parts
  have hb00 : Below w.heap.size w ((w.alloc (.cells #[.slice a1 ds.length c1] 24)).alloc (.cells #[.slice a2 cs.length c2] 24)) := by (repeat (first | exact Below.refl _ _ | exact (Below.refl _ _).drew | assumption | exact below_one _ | refine Below.chain ?_ (by assumption) | refine Below.drew ?_ | refine Below.alc ?_ _ | refine below_drewN ?_ | (refine Below.setCell ?_ ?_ _) | exact Nat.le_refl _ | (simp; done) | (simp; omega)))
  have r0 : ((w.alloc (.cells #[.slice a1 ds.length c1] 24)).alloc (.cells #[.slice a2 cs.length c2] 24)).cell? ⟨w.heap.size, 0, none⟩ = some (.slice a1 ds.length c1) := by
    rw [World.cell?_alloc_past _ _ _ (by simp), World.cell?_alloc_at _ _ _ _ rfl]; rfl
  have r1 : ((w.alloc (.cells #[.slice a1 ds.length c1] 24)).alloc (.cells #[.slice a2 cs.length c2] 24)).cell? ⟨w.heap.size + 1, 0, none⟩ = some (.slice a2 cs.length c2) := by
    rw [World.cell?_alloc_at _ _ _ _ (by simp)]; rfl
  have h10 := h1.below hb00
  have h20 := h2.below hb00
  rcases e1 : inB (ds.length : Int) 1 10 with _ | _
  · have HN := Lib.hid (show foL ds cs = [] by simp [foL, foOk, e1])
    have HO := Lib.hid (show foOk ds cs = false by simp [foOk, e1])
    have H1 := Lib.hid e1
    clear e1
    go_enter Try.func10, Try.ntmps10
    go_wp2_with fail
    refine (within_c _ _ _ _).mono ?_
    rintro e w0 ⟨rfl, rfl⟩
    rw [H1.out]
    go_wp2
    go_ret2
    exact FsPost.mk' HN.out HO.out (World.ownsRow_nil _ _ _ _) (by first | exact hb00 | exact HB.out)
  · by_cases e2 : cs.length = ds.length
    · have hlb : ((cs.length : Int) != (ds.length : Int)) = false := by simp [e2]
      rcases e3 : ds.all digitB with _ | _
      · have HN := Lib.hid (show foL ds cs = [] by simp [foL, foOk, digitsB, e3])
        have HO := Lib.hid (show foOk ds cs = false by simp [foOk, digitsB, e3])
        have H1 := Lib.hid e1
        have H2 := Lib.hid e2
        have H3 := Lib.hid e3
        clear e1 e2 e3
        go_enter Try.func10, Try.ntmps10
        go_wp2_with fail
        refine (within_c _ _ _ _).mono ?_
        rintro e w0 ⟨rfl, rfl⟩
        rw [H1.out]
        go_wp2_with fail
        refine (areAllInt_c _ ds 86 digitB _ h10 (fun _ _ => by kernel_rfl) (fun x w' => isDigit_c x w')).mono ?_
        rintro e w1 ⟨rfl, hb1⟩
        rw [H3.out]
        have r01 := cell_later hb1 r0
        have r11 := cell_later hb1 r1
        have h21 := h20.below hb1
        have h11 := h10.below hb1
        have hb2 := Below.chain hb00 hb1
        clear r0 r1 h20 h10 hb00 hb1
        have HB := Lib.hid hb2
        go_wp2
        go_ret2
        exact FsPost.mk' HN.out HO.out (World.ownsRow_nil _ _ _ _) (by first | exact hb00 | exact HB.out)
      · rcases e4 : cs.all cellB with _ | _
        · have HN := Lib.hid (show foL ds cs = [] by simp [foL, foOk, e4])
          have HO := Lib.hid (show foOk ds cs = false by simp [foOk, e4])
          have H1 := Lib.hid e1
          have H2 := Lib.hid e2
          have H3 := Lib.hid e3
          have H4 := Lib.hid e4
          clear e1 e2 e3 e4
          go_enter Try.func10, Try.ntmps10
          go_wp2_with fail
          refine (within_c _ _ _ _).mono ?_
          rintro e w0 ⟨rfl, rfl⟩
          rw [H1.out]
          go_wp2_with fail
          refine (areAllInt_c _ ds 86 digitB _ h10 (fun _ _ => by kernel_rfl) (fun x w' => isDigit_c x w')).mono ?_
          rintro e w1 ⟨rfl, hb1⟩
          rw [H3.out]
          have r01 := cell_later hb1 r0
          have r11 := cell_later hb1 r1
          have h21 := h20.below hb1
          have h11 := h10.below hb1
          have hb2 := Below.chain hb00 hb1
          clear r0 r1 h20 h10 hb00 hb1
          go_wp2_with fail
          refine (areAllInt_c _ cs 34 cellB _ h21 (fun _ _ => by kernel_rfl) (fun x w' => IsCell_c x w')).mono ?_
          rintro e w2 ⟨rfl, hb1⟩
          rw [H4.out]
          have r0 := cell_later hb1 r01
          have r1 := cell_later hb1 r11
          have h20 := h21.below hb1
          have h10 := h11.below hb1
          have hb00 := Below.chain hb2 hb1
          clear r01 r11 h21 h11 hb1 hb2
          have HB := Lib.hid hb00
          go_wp2
          go_ret2
          exact FsPost.mk' HN.out HO.out (World.ownsRow_nil _ _ _ _) (by first | exact hb00 | exact HB.out)
        · have HN := Lib.hid (show foL ds cs = allF (foQ ds cs) by simp [foL, foOk, digitsB, e1, e2, e3, e4])
          have HO := Lib.hid (show foOk ds cs = true by simp [foOk, digitsB, e1, e2, e3, e4])
          have H1 := Lib.hid e1
          have H2 := Lib.hid e2
          have H3 := Lib.hid e3
          have H4 := Lib.hid e4
          clear e1 e2 e3 e4
          go_enter Try.func10, Try.ntmps10
          go_wp2_with fail
          refine (within_c _ _ _ _).mono ?_
          rintro e w0 ⟨rfl, rfl⟩
          rw [H1.out]
          go_wp2_with fail
          refine (areAllInt_c _ ds 86 digitB _ h10 (fun _ _ => by kernel_rfl) (fun x w' => isDigit_c x w')).mono ?_
          rintro e w1 ⟨rfl, hb1⟩
          rw [H3.out]
          have r01 := cell_later hb1 r0
          have r11 := cell_later hb1 r1
          have h21 := h20.below hb1
          have h11 := h10.below hb1
          have hb2 := Below.chain hb00 hb1
          clear r0 r1 h20 h10 hb00 hb1
          go_wp2_with fail
          refine (areAllInt_c _ cs 34 cellB _ h21 (fun _ _ => by kernel_rfl) (fun x w' => IsCell_c x w')).mono ?_
          rintro e w2 ⟨rfl, hb1⟩
          rw [H4.out]
          have r0 := cell_later hb1 r01
          have r1 := cell_later hb1 r11
          have h20 := h21.below hb1
          have h10 := h11.below hb1
          have hb00 := Below.chain hb2 hb1
          clear r01 r11 h21 h11 hb1 hb2
          go_wp2_with fail
          refine (digitCells_c _).mono ?_
          rintro e w3 ⟨rfl, hb3⟩
          unfold digA
          have hb4 := Below.alc (Below.chain hb00 hb3) (.cells #[.int .i64 63, .int .i64 6, .int .i64 91, .int .i64 79, .int .i64 102, .int .i64 109, .int .i64 125, .int .i64 7, .int .i64 127, .int .i64 111] 96)
          have hb5 := (below_one (w := w3) (.cells #[.int .i64 63, .int .i64 6, .int .i64 91, .int .i64 79, .int .i64 102, .int .i64 109, .int .i64 125, .int .i64 7, .int .i64 127, .int .i64 111] 96))
          have s0 := cell_later hb5 (cell_later hb3 r0)
          have s1 := cell_later hb5 (cell_later hb3 r1)
          have i1 := (h10.below hb3).below hb5
          have i2 := (h20.below hb3).below hb5
          have so : Hid (∀ j, j < 10 → (w3.alloc (.cells #[.int .i64 63, .int .i64 6, .int .i64 91, .int .i64 79, .int .i64 102, .int .i64 109, .int .i64 125, .int .i64 7, .int .i64 127, .int .i64 111] 96)).cell? ⟨w3.heap.size, j, none⟩ = some (.int .i64 (dg (j : Int)))) := fun j hj => by
            rw [World.cell?_alloc_at _ _ _ _ rfl]
            have h := dig10 ⟨j, hj⟩
            simpa using h
          have zl : w.heap.size + 1 < w3.heap.size := World.block_lt_of_cell? _ _ (cell_later hb3 r1)
          have hpos : 0 < ds.length := by have := (inB_true H1.out).1; omega
          clear r0 r1 h10 h20 hb00 hb3 hb5
          go_wp2_with fail
          refine (allFaults_c _).mono ?_
          rintro e w4 ⟨u, rfl, ho, hb6⟩
          have t0 := cell_later hb6 s0
          have t1 := cell_later hb6 s1
          have j1 := i1.below hb6
          have j2 := i2.below hb6
          have to : Hid (∀ j, j < 10 → w4.cell? ⟨w3.heap.size, j, none⟩ = some (.int .i64 (dg (j : Int)))) := fun j hj => cell_later hb6 (so.out j hj)
          have hb7 := Below.chain hb4 hb6
          have hlt := ho.lt
          have z4 := hb6.size
          clear s0 s1 i1 i2 so hb4 hb6
          have hP : Hid (∀ (w' : World) (f : Int × Int), f ∈ (allF fun _ => true) → w4.grownBy w' u.ownBlock → Calls Try.prog 90 (#[.agg #[.int .i64 f.1, .int .i64 f.2]] ++ #[.pointer (some ⟨w.heap.size, 0, none⟩), .pointer (some ⟨w3.heap.size, 0, none⟩), .pointer (some ⟨w.heap.size + 1, 0, none⟩)]) w' fun e w'' => e = .returned (.bool (!foQ ds cs f)) ∧ Below w'.heap.size w' w'') := by
            intro w' f hf hg
            obtain ⟨x, y, rfl, hx, hy, _, _⟩ := mem_allF hf
            have hk : ∀ b, b < w3.heap.size + 1 → some b ≠ u.ownBlock := fun b hb e => by
              have := (hlt b e.symm).1
              simp at this
              omega
            have hk2 : ∀ v : Value, (∀ b, v.ownBlock = some b → b < w.heap.size) → v.ownBlock = none ∨ v.ownBlock ≠ u.ownBlock := fun v h => by
              cases hh : v.ownBlock with
              | none => exact .inl rfl
              | some b => exact .inr (hk b (by have := h b hh; omega))
            exact FaultsOfF_c (x : Int) (y : Int) w.heap.size w3.heap.size (w.heap.size + 1) _ _ ds cs w' (by omega) (by omega) (by omega) (by omega) (hg.cell t0 (hk _ (by show w.heap.size < _; omega))) (hg.cell t1 (hk _ (by show w.heap.size + 1 < _; omega))) (fun j hj => hg.cell (to.out j hj) (hk _ (by show w3.heap.size < _; omega))) (j1.grown hg (hk2 _ (hA1' hpos))) (j2.grown hg (hk2 _ (hA2 (by rw [H2.out]; exact hpos)))) H2.out.symm H3.out
          have hcl : CallsIt 90 := fun bs w => by kernel_rfl
          clear t0 t1 j1 j2 to
          go_wp2_with fail
          refine (DeleteFuncF_c u (allF fun _ => true) _ _ _ (fun f => !foQ ds cs f) _ ho hcl (fun x w' hx hg => hP.out w' x hx hg)).mono ?_
          rintro e w5 ⟨u', rfl, ho5, hg5⟩
          have hb8 : Below w.heap.size w w5 := hb7.grown hg5 hb7.size (fun g hg => by have := (hlt g hg).1; simp at this; omega)
          have hfl : ((allF fun _ => true).filter fun x => !(!foQ ds cs x)) = allF (foQ ds cs) := by
            rw [allF_filter (foQ ds cs)]; congr 1; funext x; simp
          rw [hfl] at ho5
          go_wp2
          go_ret2
          exact FsPost.mk' HN.out HO.out (own_lo ho5 (by simp; omega)) hb8
    · have hlb : ((cs.length : Int) != (ds.length : Int)) = true := by simp; omega
      have HN := Lib.hid (show foL ds cs = [] by simp [foL, foOk, e2])
      have HO := Lib.hid (show foOk ds cs = false by simp [foOk, e2])
      have H1 := Lib.hid e1
      clear e1
      go_enter Try.func10, Try.ntmps10
      go_wp2_with fail
      refine (within_c _ _ _ _).mono ?_
      rintro e w0 ⟨rfl, rfl⟩
      rw [H1.out]
      go_wp2
      go_ret2
      exact FsPost.mk' HN.out HO.out (World.ownsRow_nil _ _ _ _) (by first | exact hb00 | exact HB.out)
end Go.Proofs.Ytlipkplomndjcaa
