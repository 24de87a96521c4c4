/- How many sets are full: the walk of CountFullTests. -/
import Derived.Test.YtahpknjligaliaaSubs
import Derived.Test.YtahpknjligaliaaStates2
import Derived.Test.YtahpknjligaliaaBox
import Derived.Test.YtahpknjligaliaaFrac
import Derived.Test.YtahpknjligaliaaFaults
namespace Go.Proofs.Ytahpknjligaliaa
open Go.RowKit
set_option linter.unusedVariables false
set_option maxRecDepth 100000
def cfP (k : Int) (xs : List Int) : Bool := ((xs.length : Int) == k) && fullB xs
def cfN (k : Int) (done : List (List Int)) : Nat := (done.filter (cfP k)).length
theorem cfN_snoc (k : Int) (done : List (List Int)) (part : List Int) : cfN k (done ++ [part]) = cfN k done + if cfP k part then 1 else 0 := by
  unfold cfN; rw [List.filter_append, List.length_append]
  cases h : cfP k part <;> simp [h]
structure CfI (kb m : Nat) (k : Int) (done : List (List Int)) (w : World) : Prop where
  ck : w.cell? ⟨kb, 0, none⟩ = some (.int .i64 k)
  cm : w.cell? ⟨m, 0, none⟩ = some (.int .i64 (IntKind.i64.wrap (cfN k done : Nat)))
  fm : w.frozen? ⟨m, 0, none⟩ = false
  ne : kb ≠ m
theorem wrap_succ (n : Nat) : IntKind.i64.wrap (IntKind.i64.wrap (n : Int) + 1) = IntKind.i64.wrap ((n + 1 : Nat) : Int) := by
  simp only [IntKind.wrap, IntKind.bits, IntKind.signed]; simp; omega
theorem cf_doer (kb m : Nat) (k : Int) (S : List Int) (hS : ∀ y ∈ S, digitB y = true) : Doer (fun _ j => j = m) (CfI kb m k) 127 #[.pointer (some ⟨kb, 0, none⟩), .pointer (some ⟨m, 0, none⟩)] S where
  calls := fun bs w => by kernel_rfl
  keepI := fun done w w' h hb => ⟨cell_later hb h.ck, cell_later hb h.cm, by rw [hb.frozen (p := ⟨m, 0, none⟩) (World.block_lt_of_cell? _ _ h.cm)]; exact h.fm, h.ne⟩
  keepD := fun done w w' h hb j hj => hj
  ltD := fun done w j h hj => by rw [hj]; exact World.block_lt_of_cell? _ _ h.cm
  run := by
    intro done part v w hpl hps hI hv hd
    have ht : testB part = true := by
      unfold testB
      rw [decide_eq_true hpl, Bool.true_and, List.all_eq_true]
      exact fun y hy => hS y (hps y hy)
    have hle := hv.le
    obtain ⟨a, c, rfl, _, _, _⟩ := hv.parts
    have g0 := hI.ck
    have g1 := hI.cm
    have g2 := hI.fm
    have hne := hI.ne
    have HN := Lib.hid (cfN_snoc k done part)
    have HW := Lib.hid (wrap_succ (cfN k done))
    have hFr : Hid (∀ w', Below w.heap.size w w' → ∀ x, Fr (fun _ j => j = m) w (w'.setCell ⟨m, 0, none⟩ x)) := fun w' hb x =>
      ⟨hb.os, hb.tape, hb.output, by simp; exact hb.size, fun j hj hne => by rw [heap_setCell_other _ _ _ _ hne]; exact hb.block j hj, fun j hj => .inl hj⟩
    rcases h1 : ((part.length : Int) == k) with _ | _
    · have h1d : decide ((part.length : Int) = k) = false := by simpa using h1
      have HC := Lib.hid (show cfN k (done ++ [part]) = cfN k done by rw [HN.out]; unfold cfP; rw [h1]; rfl)
      have HI := Lib.hid hI
      clear hI
      go_enter Try.func127, Try.ntmps127
      go_wp2
      refine bodyPost_end (results_none rfl _ _ _) rfl ?_
      exact ⟨rfl, ⟨HI.out.ck, by rw [HC.out]; exact HI.out.cm, HI.out.fm, HI.out.ne⟩, Fr.refl _⟩
    · have h1d : decide ((part.length : Int) = k) = true := by simpa using h1
      rcases h2 : fullB part with _ | _
      · have HC := Lib.hid (show cfN k (done ++ [part]) = cfN k done by rw [HN.out]; unfold cfP; rw [h1, h2]; rfl)
        have HI := Lib.hid hI; have H2 := Lib.hid h2
        clear hI h2
        go_enter Try.func127, Try.ntmps127
        go_wp2_with fail
        refine (isFull_c _ part _ hv ht).mono ?_
        rintro e w1 ⟨rfl, hb1⟩
        rw [H2.out]
        have HB := Lib.hid hb1
        have r0 := cell_later hb1 g0
        clear hb1
        go_wp2
        refine bodyPost_end (results_none rfl _ _ _) rfl ?_
        have hb := HB.out
        exact ⟨rfl, ⟨cell_later hb HI.out.ck, by rw [HC.out]; exact cell_later hb HI.out.cm, by rw [hb.frozen (p := ⟨m, 0, none⟩) (World.block_lt_of_cell? _ _ HI.out.cm)]; exact HI.out.fm, HI.out.ne⟩, ⟨hb.os, hb.tape, hb.output, hb.size, fun j hj _ => hb.block j hj, fun j hj => .inl hj⟩⟩
      · have HC := Lib.hid (show cfN k (done ++ [part]) = cfN k done + 1 by rw [HN.out]; unfold cfP; rw [h1, h2]; rfl)
        have HI := Lib.hid hI; have H2 := Lib.hid h2
        clear hI h2
        generalize IntKind.i64.wrap (cfN k done : Nat) = X at *
        go_enter Try.func127, Try.ntmps127
        go_wp2_with fail
        refine (isFull_c _ part _ hv ht).mono ?_
        rintro e w1 ⟨rfl, hb1⟩
        rw [H2.out]
        have r0 := cell_later hb1 g0
        have r1 := cell_later hb1 g1
        have r2 := (hb1.frozen (p := ⟨m, 0, none⟩) (World.block_lt_of_cell? _ _ g1)).trans g2
        have HB := Lib.hid hb1
        clear hb1
        go_wp2
        refine bodyPost_end (results_none rfl _ _ _) rfl ?_
        refine ⟨rfl, ⟨?_, ?_, ?_, hne⟩, hFr.out _ HB.out _⟩
        · rw [World.cell?_setCell_other _ _ _ _ (by intro e; injection e with e1; exact hne e1.symm)]; exact r0
        · rw [World.cell?_setCell_same _ _ _ r1, HC.out, ← HW.out]
          first | rfl | rw [wrapK]
        · rw [World.frozen?_setCell]; exact r2
/-- how many parts of a set that are full have so many digits: by the bits of a number, or by leaving the last one open -/
def cfA (k : Int) : Nat := cfN k (subsL tenI)
def cfV (k : Int) : Value := .tuple #[.int .i64 (if inB k 0 10 then (cfA k : Int) else 0), .bool (inB k 0 10)]
theorem loopE_len : ∀ (l part : List Int), (loopE l part).length + 1 = 2 ^ l.length
  | [], _ => rfl
  | x :: t, part => by
    have h1 := loopE_len t (part ++ [x])
    have h2 := loopE_len t part
    simp only [loopE, List.length_append, List.length_cons, Nat.pow_succ] at h1 h2 ⊢
    omega
theorem cfA_le (k : Int) : cfA k ≤ 1024 := by
  unfold cfA cfN
  refine Nat.le_trans (List.length_filter_le _ _) ?_
  have := loopE_len tenI []
  unfold subsL
  simp only [List.length_cons]
  rw [this]; decide
def tenA : Array Value := #[.int .i64 0, .int .i64 1, .int .i64 2, .int .i64 3, .int .i64 4, .int .i64 5, .int .i64 6, .int .i64 7, .int .i64 8, .int .i64 9]
theorem tenA_eq : tenA.toList = ints tenI := rfl
theorem allDigits_c (w : World) : Calls Try.prog 126 #[] w fun e w' => ∃ u, e = .returned u ∧ w'.ownsRow w.heap.size 3 1 u 10 (ints tenI) ∧ Below w.heap.size w w' := by
  have ho := World.ownsRow_lit (e := 3) (size := 1) (base := w.heap.size) w tenA 10 (Nat.le_refl _) (by decide) rfl
  rw [tenA_eq] at ho
  unfold tenA at ho
  go_enter Try.func126, Try.ntmps126
  go_wp2
  go_ret
  exact ⟨_, rfl, ho, below_one _⟩
theorem l7Ten_c (w : World) : Calls Try.prog 124 #[] w fun e w' => ∃ u, e = .returned u ∧ w'.ownsRow w.heap.size 3 1 u 10 (ints tenI) ∧ Below w.heap.size w w' := by
  have ho := World.ownsRow_lit (e := 3) (size := 1) (base := w.heap.size) w tenA 10 (Nat.le_refl _) (by decide) rfl
  rw [tenA_eq] at ho
  unfold tenA at ho
  go_enter Try.func124, Try.ntmps124
  go_wp2
  go_ret
  exact ⟨_, rfl, ho, below_one _⟩
theorem CountFullTests_c (k : Int) (w : World) : Calls Try.prog 46 #[.int .i64 k] w fun e w' => e = .returned (cfV k) ∧ Below w.heap.size w w' := by
  rcases hq : inB k 0 10 with _ | _
  · have HF := Lib.hid (show cfV k = .tuple #[.int .i64 0, .bool false] by simp [cfV, hq])
    have HQ := Lib.hid hq; clear hq
    go_enter Try.func46, Try.ntmps46
    go_wp2_with fail
    refine (within_c k 0 10 _).mono ?_
    rintro e w1 ⟨rfl, rfl⟩
    rw [HQ.out]
    go_wp2
    go_ret2
    exact ⟨by rw [HF.out]; rfl, by (repeat (first | exact Below.refl _ _ | exact (Below.refl _ _).drew | assumption | exact below_one _ | refine Below.chain ?_ (by assumption) | refine Below.drew ?_ | refine Below.alc ?_ _ | refine below_drewN ?_ | (refine Below.setCell ?_ ?_ _) | exact Nat.le_refl _ | (simp; done) | (simp; omega)))⟩
  · have HF := Lib.hid (show cfV k = .tuple #[.int .i64 (cfA k : Nat), .bool true] by simp [cfV, hq])
    have HQ := Lib.hid hq; clear hq
    have hA := cfA_le k
    go_enter Try.func46, Try.ntmps46
    go_wp2_with fail
    refine (within_c k 0 10 _).mono ?_
    rintro e w1 ⟨rfl, rfl⟩
    rw [HQ.out]
    have q0 : ((w.alloc (.cells #[.int .i64 k] 3)).alloc (.cells #[.int .i64 0] 3)).cell? ⟨w.heap.size, 0, none⟩ = some (.int .i64 k) := cell_later (below_one _) (by rw [World.cell?_alloc_at _ _ _ _ rfl]; rfl)
    have q1 : ((w.alloc (.cells #[.int .i64 k] 3)).alloc (.cells #[.int .i64 0] 3)).cell? ⟨w.heap.size + 1, 0, none⟩ = some (.int .i64 0) := by rw [World.cell?_alloc_at _ _ _ _ (by simp)]; rfl
    have q2 : ((w.alloc (.cells #[.int .i64 k] 3)).alloc (.cells #[.int .i64 0] 3)).frozen? ⟨w.heap.size + 1, 0, none⟩ = false := by
      have := World.frozen?_alloc_new (w.alloc (.cells #[.int .i64 k] 3)) #[.int .i64 0] 3 0
      rwa [World.size_alloc] at this
    have hb0 : Below w.heap.size w ((w.alloc (.cells #[.int .i64 k] 3)).alloc (.cells #[.int .i64 0] 3)) := by (repeat (first | exact Below.refl _ _ | exact (Below.refl _ _).drew | assumption | exact below_one _ | refine Below.chain ?_ (by assumption) | refine Below.drew ?_ | refine Below.alc ?_ _ | refine below_drewN ?_ | (refine Below.setCell ?_ ?_ _) | exact Nat.le_refl _ | (simp; done) | (simp; omega)))
    go_wp2_with fail
    refine (allDigits_c _).mono ?_
    rintro e w2 ⟨u, rfl, ho, hb2⟩
    have hI0 : CfI w.heap.size (w.heap.size + 1) k [] w2 := ⟨cell_later hb2 q0, by rw [cell_later hb2 q1]; rfl, by rw [hb2.frozen (p := ⟨w.heap.size + 1, 0, none⟩) (World.block_lt_of_cell? _ _ q1)]; exact q2, by omega⟩
    have hv : Ints w2 u tenI := Ints.of_own ho
    have hlt := ho.lt
    have hb3 := Below.chain hb0 hb2
    clear q0 q1 q2 hb0 hb2 ho
    go_wp2_with fail
    refine (subsets_c (cf_doer w.heap.size (w.heap.size + 1) k tenI (by decide)) (by decide) u w2 [] hI0 hv (fun g hg => ⟨fun hd => by have := (hlt g hg).1; simp at this; omega, (hlt g hg).2⟩)).mono ?_
    rintro e w3 ⟨rfl, hI3, hF3⟩
    have hb4 : Below w.heap.size w w3 := ⟨hF3.os.trans hb3.os, hF3.tape.trans hb3.tape, hF3.output.trans hb3.output, Nat.le_trans hb3.size hF3.size, fun j hj => (hF3.block j (Nat.lt_of_lt_of_le hj hb3.size) (by omega)).trans (hb3.block j hj)⟩
    have g1 := hI3.cm
    rw [List.nil_append] at g1
    have hw : IntKind.i64.wrap (cfN k (subsL tenI) : Nat) = ((cfA k : Nat) : Int) := by
      rw [IntWalk.i64_in _ (by have : cfN k (subsL tenI) = cfA k := rfl; omega)]; rfl
    rw [hw] at g1
    clear hI3 hF3 hb3 hlt hv hI0 hw
    go_wp2
    go_ret2
    exact ⟨by rw [HF.out]; rfl, hb4⟩
end Go.Proofs.Ytahpknjligaliaa
