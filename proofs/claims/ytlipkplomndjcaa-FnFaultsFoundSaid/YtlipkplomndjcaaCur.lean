/- The checker's cursor: a code is read byte by byte, and numbers are drawn from it. -/
import Derived.Test.YtlipkplomndjcaaBase
import Derived.Test.YtlipkplomndjcaaBk
import Derived.Test.YtlipkplomndjcaaPairs
import Derived.Test.YtlipkplomndjcaaHelp
import Derived.Deep.RegionHeld3
namespace Go.Proofs.Ytlipkplomndjcaa
open Go.RowKit
set_option linter.unusedVariables false
set_option maxRecDepth 100000

/-- A slice of bytes (nil let in) whose row lies below block g. -/
def Bys (w : World) (v : Value) (g : Nat) : Prop :=
  ∃ a c, ∃ xs : List Nat, v = .slice a xs.length c ∧ xs.length ≤ c ∧ c ≤ 9223372036854775807 ∧ ∀ (k x : Nat), xs[k]? = some x → ∃ b off, a = some ⟨b, off, none⟩ ∧ b < g ∧ x ≤ 255 ∧ w.cell? ⟨b, off + k, none⟩ = some (.int .u8 (x : Int))

theorem Bys.keep {w w' : World} {v : Value} {g : Nat} (h : Bys w v g) (hk : ∀ b o x, b < g → w.cell? ⟨b, o, none⟩ = some x → w'.cell? ⟨b, o, none⟩ = some x) : Bys w' v g := by
  obtain ⟨a, c, xs, rfl, h1, h2, h3⟩ := h
  refine ⟨a, c, xs, rfl, h1, h2, fun k x hx => ?_⟩
  obtain ⟨b, off, e, hb, hx, hc⟩ := h3 k x hx
  exact ⟨b, off, e, hb, hx, hk _ _ _ hb hc⟩

/-- A cursor in block g that stands at m at most. -/
structure CurAt (w : World) (g m : Nat) : Prop where
  code : ∃ v, w.cell? ⟨g, 0, none⟩ = some v ∧ Bys w v g
  pos : ∃ p : Nat, p ≤ m ∧ w.cell? ⟨g, 1, none⟩ = some (.int .i64 (p : Int))
  seed : ∃ s : Int, w.cell? ⟨g, 2, none⟩ = some (.int .u64 s)
  op1 : w.frozen? ⟨g, 1, none⟩ = false
  op2 : w.frozen? ⟨g, 2, none⟩ = false

theorem CurAt.lt {w : World} {g m : Nat} (h : CurAt w g m) : g < w.heap.size := by
  obtain ⟨v, hv, _⟩ := h.code
  exact World.block_lt_of_cell? w _ hv
theorem CurAt.mono {w : World} {g m m' : Nat} (h : CurAt w g m) (hm : m ≤ m') : CurAt w g m' := by
  obtain ⟨p, hp, hc⟩ := h.pos
  exact ⟨h.code, ⟨p, by omega, hc⟩, h.seed, h.op1, h.op2⟩
theorem CurAt.blocks {w w' : World} {g m : Nat} (h : CurAt w g m) (hk : ∀ k, k ≤ g → w'.heap[k]? = w.heap[k]?) : CurAt w' g m := by
  have hc : ∀ b o x, b ≤ g → w.cell? ⟨b, o, none⟩ = some x → w'.cell? ⟨b, o, none⟩ = some x := fun b o x hb hx => (World.cell?_of_block (w := w) (a := ⟨b, o, none⟩) (hk b hb)).trans hx
  have hf : ∀ o, w'.frozen? ⟨g, o, none⟩ = w.frozen? ⟨g, o, none⟩ := fun o => World.frozen?_of_block (w := w) (a := ⟨g, o, none⟩) (hk g (Nat.le_refl _))
  obtain ⟨v, hv, hb⟩ := h.code
  obtain ⟨p, hp, hpc⟩ := h.pos
  obtain ⟨s, hs⟩ := h.seed
  exact ⟨⟨v, hc _ _ _ (Nat.le_refl _) hv, hb.keep fun b o x hlt => hc b o x (by omega)⟩, ⟨p, hp, hc _ _ _ (Nat.le_refl _) hpc⟩, ⟨s, hc _ _ _ (Nat.le_refl _) hs⟩, by rw [hf]; exact h.op1, by rw [hf]; exact h.op2⟩
theorem CurAt.below {w w' : World} {g m : Nat} (h : CurAt w g m) (hb : Below w.heap.size w w') : CurAt w' g m :=
  h.blocks fun k hk => hb.block k (by have := h.lt; omega)
theorem CurAt.grown {w w' : World} {g m : Nat} {r : Option Nat} (h : CurAt w g m) (hg : w.grownBy w' r) (hr : ∀ k, r = some k → g < k) : CurAt w' g m :=
  h.blocks fun k hk => hg.block k (by have := h.lt; omega) (fun e => by have := hr k e.symm; omega)
theorem CurAt.drew {w : World} {g m : Nat} (h : CurAt w g m) : CurAt w.drew g m := h.blocks fun _ _ => rfl
theorem CurAt.alloc {w : World} {g m : Nat} (h : CurAt w g m) (o : Obj) : CurAt (w.alloc o) g m := h.below (below_one o)

/-- A step of the cursor: but for its block nothing is turned. -/
structure CStep (w w' : World) (g m : Nat) : Prop where
  gr : w.grownBy w' (some g)
  cur : CurAt w' g m
theorem grow_refl (w : World) (r : Option Nat) : w.grownBy w r := ⟨rfl, rfl, rfl, Nat.le_refl _, fun _ _ _ => rfl⟩
theorem grow_trans {a b c : World} {r : Option Nat} (h : a.grownBy b r) (k : b.grownBy c r) : a.grownBy c r :=
  ⟨k.os.trans h.os, k.tape.trans h.tape, k.output.trans h.output, Nat.le_trans h.size k.size, fun i hi hr => (k.block i (Nat.lt_of_lt_of_le hi h.size) hr).trans (h.block i hi hr)⟩
theorem grow_below {a b : World} {r : Option Nat} (h : Below a.heap.size a b) : a.grownBy b r := ⟨h.os, h.tape, h.output, h.size, fun k hk _ => h.block k hk⟩
theorem CStep.refl {w : World} {g m : Nat} (h : CurAt w g m) : CStep w w g m := ⟨grow_refl _ _, h⟩
theorem CStep.trans {a b c : World} {g m m' : Nat} (h : CStep a b g m) (k : CStep b c g m') : CStep a c g m' := ⟨grow_trans h.gr k.gr, k.cur⟩
theorem CStep.mono {a b : World} {g m m' : Nat} (h : CStep a b g m) (hm : m ≤ m') : CStep a b g m' := ⟨h.gr, h.cur.mono hm⟩
theorem CStep.below {a b c : World} {g m : Nat} (h : CStep a b g m) (k : Below b.heap.size b c) : CStep a c g m := ⟨grow_trans h.gr (grow_below k), h.cur.below k⟩
theorem CStep.drew {a b : World} {g m : Nat} (h : CStep a b g m) : CStep a b.drew g m := ⟨grow_trans h.gr (grow_below (Below.refl _ _).drew), h.cur.drew⟩
theorem CStep.alloc {a b : World} {g m : Nat} (h : CStep a b g m) (o : Obj) : CStep a (b.alloc o) g m := h.below (below_one o)
/-- below the cursor's block all is as it was -/
theorem CStep.low {a b : World} {g m B : Nat} (h : CStep a b g m) (hB : B ≤ g) (hB2 : B ≤ a.heap.size) : Below B a b :=
  ⟨h.gr.os, h.gr.tape, h.gr.output, h.gr.size, fun k hk => h.gr.block k (by omega) (fun e => by cases e; omega)⟩
/-- a row of another block is kept -/
theorem CStep.row {a b : World} {g m lo n size : Nat} {E : TypeId} {v : Value} {xs : List Value} (h : CStep a b g m) (ho : a.ownsRow lo E size v n xs) (hlo : g < lo) : b.ownsRow lo E size v n xs :=
  ho.kept h.gr (by
    rcases ho.2 with ⟨rfl, _⟩ | ⟨k, cap, cur, rfl, hb, _⟩
    · exact Or.inl rfl
    · right; simp [Value.ownBlock]; omega)
theorem CStep.cell {a b : World} {g m k o : Nat} {x : Value} (h : CStep a b g m) (hc : a.cell? ⟨k, o, none⟩ = some x) (hk : k ≠ g) : b.cell? ⟨k, o, none⟩ = some x := by
  have hlt := World.block_lt_of_cell? a _ hc
  exact (World.cell?_of_block (w := a) (a := ⟨k, o, none⟩) (h.gr.block k hlt (fun e => hk (by cases e; rfl)))).trans hc

theorem step_two {w : World} {g m p : Nat} (h : CurAt w g m) (hp : p ≤ m) (s : Int) : CStep w ((w.setCell ⟨g, 1, none⟩ (.int .i64 ((p : Int) + 1))).setCell ⟨g, 2, none⟩ (.int .u64 s)) g (m + 1) := by
  have hgr : w.grownBy ((w.setCell ⟨g, 1, none⟩ (.int .i64 ((p : Int) + 1))).setCell ⟨g, 2, none⟩ (.int .u64 s)) (some g) := by
    refine ⟨rfl, rfl, rfl, by simp [World.setCell], fun k hk hne => ?_⟩
    have hkg : k ≠ g := fun e => hne (by rw [e])
    rw [Below.heap_setCell _ _ _ _ hkg, Below.heap_setCell _ _ _ _ hkg]
  refine ⟨hgr, ?_⟩
  obtain ⟨v, hv, hb⟩ := h.code
  obtain ⟨q, hq, hqc⟩ := h.pos
  obtain ⟨t, hs⟩ := h.seed
  have c0 : ((w.setCell ⟨g, 1, none⟩ (.int .i64 ((p : Int) + 1))).setCell ⟨g, 2, none⟩ (.int .u64 s)).cell? ⟨g, 0, none⟩ = some v := by
    rw [World.cell?_setCell_other _ _ _ _ (by simp), World.cell?_setCell_other _ _ _ _ (by simp)]; exact hv
  have c1 : ((w.setCell ⟨g, 1, none⟩ (.int .i64 ((p : Int) + 1))).setCell ⟨g, 2, none⟩ (.int .u64 s)).cell? ⟨g, 1, none⟩ = some (.int .i64 ((p + 1 : Nat) : Int)) := by
    rw [World.cell?_setCell_other _ _ _ _ (by simp)]; exact World.cell?_setCell_same _ _ _ hqc
  have c2 : ((w.setCell ⟨g, 1, none⟩ (.int .i64 ((p : Int) + 1))).setCell ⟨g, 2, none⟩ (.int .u64 s)).cell? ⟨g, 2, none⟩ = some (.int .u64 s) := by
    refine World.cell?_setCell_same _ _ _ (u := .int .u64 t) ?_
    rw [World.cell?_setCell_other _ _ _ _ (by simp)]; exact hs
  refine ⟨⟨v, c0, hb.keep fun b o x hlt hx => ?_⟩, ⟨p + 1, by omega, c1⟩, ⟨s, c2⟩, ?_, ?_⟩
  · have hlt2 := World.block_lt_of_cell? w _ hx
    exact (World.cell?_of_block (w := w) (a := ⟨b, o, none⟩) (hgr.block b hlt2 (fun e => by cases e; omega))).trans hx
  · simpa using h.op1
  · simpa using h.op2
theorem u64_and255 (a : Int) : 0 ≤ bits .and .u64 a 255 ∧ bits .and .u64 a 255 ≤ 255 := by
  have h : (BitVec.ofInt 64 a &&& BitVec.ofInt 64 255).toNat ≤ 255 := by
    rw [BitVec.toNat_and]; exact Nat.le_trans Nat.and_le_right (by decide)
  have e : bits .and .u64 a 255 = IntKind.u64.wrap ((BitVec.ofInt 64 a &&& BitVec.ofInt 64 255).toNat : Int) := rfl
  rw [e]
  generalize (BitVec.ofInt 64 a &&& BitVec.ofInt 64 255).toNat = k at *
  have : IntKind.u64.wrap (k : Int) = k := by simp [IntKind.wrap, IntKind.bits, IntKind.signed]; omega
  omega

/-- What a draw gives: a number of some kind, and only the cursor's block is turned. -/
def DrawI (w : World) (g m : Nat) (P : Int → Prop) (e : Ending) (w' : World) : Prop := ∃ x : Int, e = .returned (.int .i64 x) ∧ P x ∧ CStep w w' g m
theorem DrawI.mono {w : World} {g m : Nat} {P Q : Int → Prop} {e : Ending} {w' : World} (h : DrawI w g m P e w') (hPQ : ∀ x, P x → Q x) : DrawI w g m Q e w' := by
  obtain ⟨x, rfl, hp, hs⟩ := h; exact ⟨x, rfl, hPQ x hp, hs⟩

set_option maxHeartbeats 1000000 in
theorem next_c (g m : Nat) (w : World) (h : CurAt w g m) (hm : m < 4611686018427387904) :
    Calls Try.prog 143 #[.pointer (some ⟨g, 0, none⟩)] w (DrawI w g (m + 1) fun x => 0 ≤ x ∧ x ≤ 255) := by
  have HC := Lib.hid h
  obtain ⟨v, hv, a, c, xs, rfl, hn, hc, hby⟩ := h.code
  obtain ⟨p, hp, hpc⟩ := h.pos
  obtain ⟨s, hs⟩ := h.seed
  have f1 := h.op1
  have f2 := h.op2
  have HBY := Lib.hid hby
  clear hby h
  by_cases hlt : p < xs.length
  · obtain ⟨x, hxx⟩ := elem_at hlt
    obtain ⟨b, off, rfl, hb, hx, hcell⟩ := HBY.out p x hxx.out
    generalize xs.length = n at *
    have b1 : (p : Int) < n := by omega
    go_enter Try.func143, Try.ntmps143
    go_wp2
    go_region
    go_wp2
    go_region
    go_wp2
    go_region
    go_wp2
    go_ret
    exact ⟨_, rfl, ⟨by omega, by omega⟩, (step_two HC.out hp _).drew.drew.drew⟩
  · generalize xs.length = n at *
    have b1 : ¬ (p : Int) < n := by omega
    go_enter Try.func143, Try.ntmps143
    go_wp2
    go_region
    go_wp2
    go_region
    go_wp2
    go_ret
    have hr := u64_and255 (IntKind.u64.wrap (IntKind.u64.wrap (IntKind.u64.wrap (s * 6364136223846793005)) + 462197) / 1099511627776)
    refine ⟨_, rfl, ?_, (step_two HC.out hp _).drew.drew⟩
    unfold wrap64; omega
theorem pick_c (n : Int) (g m : Nat) (w : World) (h : CurAt w g m) (hm : m + 2 < 4611686018427387904) :
    Calls Try.prog 80 #[.pointer (some ⟨g, 0, none⟩), .int .i64 n] w (DrawI w g (m + 2) fun x => 0 ≤ x ∧ (1 ≤ n → x < n)) := by
  have HC := Lib.hid h
  clear h
  by_cases hn : n ≤ 1
  · go_enter Try.func80, Try.ntmps80
    go_wp2
    go_ret
    exact ⟨0, rfl, ⟨by omega, fun _ => by omega⟩, (CStep.refl HC.out).mono (by omega)⟩
  · by_cases hn2 : 200 < n
    · go_enter Try.func80, Try.ntmps80
      go_wp2_with fail
      refine (next_c g m _ HC.out (by omega)).mono ?_
      rintro e w1 ⟨x, rfl, hx, hs⟩
      have HS := Lib.hid hs
      obtain ⟨x0, x1⟩ := hx
      clear hs
      go_wp2_with fail
      refine (next_c g (m + 1) _ HS.out.cur (by omega)).mono ?_
      rintro e w2 ⟨y, rfl, hy, hs⟩
      obtain ⟨y0, y1⟩ := hy
      have HS2 := Lib.hid (HS.out.trans hs)
      clear hs
      have hz : n ≠ 0 := by omega
      have hr : 0 ≤ (x * 256 + y) % n ∧ (x * 256 + y) % n < n := ⟨Int.emod_nonneg _ hz, Int.emod_lt_of_pos _ (by omega)⟩
      have ht : Int.tmod (x * 256 + y) n = (x * 256 + y) % n := Int.tmod_eq_emod_of_nonneg (by omega)
      go_wp2
      go_ret
      exact ⟨_, rfl, ⟨hr.1, fun _ => hr.2⟩, HS2.out.mono (by omega)⟩
    · go_enter Try.func80, Try.ntmps80
      go_wp2_with fail
      refine (next_c g m _ HC.out (by omega)).mono ?_
      rintro e w1 ⟨x, rfl, hx, hs⟩
      have HS := Lib.hid hs
      obtain ⟨x0, x1⟩ := hx
      clear hs
      have hz : n ≠ 0 := by omega
      have hr : 0 ≤ x % n ∧ x % n < n := ⟨Int.emod_nonneg _ hz, Int.emod_lt_of_pos _ (by omega)⟩
      have ht : Int.tmod x n = x % n := Int.tmod_eq_emod_of_nonneg (by omega)
      go_wp2
      go_ret
      exact ⟨_, rfl, ⟨hr.1, fun _ => hr.2⟩, HS.out.mono (by omega)⟩
theorem one_c (n : Int) (g m : Nat) (w : World) (h : CurAt w g m) (hm : m + 2 < 4611686018427387904) :
    Calls Try.prog 97 #[.pointer (some ⟨g, 0, none⟩), .int .i64 n] w fun e w' => ∃ b : Bool, e = .returned (.bool b) ∧ CStep w w' g (m + 2) := by
  have HC := Lib.hid h
  clear h
  go_enter Try.func97, Try.ntmps97
  go_wp2_with fail
  refine (pick_c n g m _ HC.out hm).mono ?_
  rintro e w1 ⟨x, rfl, hx, hs⟩
  have HS := Lib.hid hs
  clear hs hx
  go_wp2
  go_ret
  exact ⟨_, rfl, HS.out⟩
theorem among_c (v : Value) (xs : List Int) (g m : Nat) (w : World) (h : CurAt w g m) (hm : m + 2 < 4611686018427387904) (hv : Ints w v xs) (hne : v.ownBlock ≠ some g) (hp : 0 < xs.length) :
    Calls Try.prog 79 #[.pointer (some ⟨g, 0, none⟩), v] w (DrawI w g (m + 2) fun x => x ∈ xs) := by
  have HC := Lib.hid h
  have HV := Lib.hid hv
  obtain ⟨a, c, rfl, _, _, _⟩ := hv.parts
  have HNE := Lib.hid hne
  clear h hne hv
  go_enter Try.func79, Try.ntmps79
  go_wp2_with fail
  refine (pick_c xs.length g m _ HC.out hm).mono ?_
  rintro e w1 ⟨x, rfl, hx, hs⟩
  obtain ⟨k, rfl⟩ := Int.eq_ofNat_of_zero_le hx.1
  have hk : k < xs.length := by have := hx.2 (by omega); omega
  have HS := Lib.hid hs
  obtain ⟨_, _, he, _, _, H2⟩ := (HV.out.grown hs.gr (.inr HNE.out)).parts
  simp only [Value.slice.injEq, true_and] at he
  obtain ⟨rfl, rfl⟩ := he
  obtain ⟨x, hx2⟩ := elem_at hk
  obtain ⟨b, o, rfl, hc⟩ := H2.out k x hx2.out
  clear hs hx
  go_wp2
  go_ret
  exact ⟨x, rfl, List.mem_of_getElem? hx2.out, HS.out⟩
theorem ints_lit (w : World) (xs : List Int) (hl : xs.length ≤ 1000) : Ints (w.alloc (.cells (xs.map (Value.int .i64)).toArray 3)) (.slice (some ⟨w.heap.size, 0, none⟩) xs.length xs.length) xs :=
  Ints.of_own (lo := w.heap.size) (e := 3) (ownsRow_cast (World.ownsRow_lit w (xs.map (Value.int .i64)).toArray xs.length (Nat.le_refl _) (by unfold maxLen; omega) (by simp)) rfl (by simp))
/-- one of some numbers that are written where they are asked for -/
theorem amongL_c (xs : List Int) (g m : Nat) (w : World) (n : Nat) (hn : n = w.heap.size) (h : CurAt w g m) (hm : m + 2 < 4611686018427387904) (hp : 0 < xs.length) (hl : xs.length ≤ 1000) :
    Calls Try.prog 79 #[.pointer (some ⟨g, 0, none⟩), .slice (some ⟨n, 0, none⟩) xs.length xs.length] (w.alloc (.cells (xs.map (Value.int .i64)).toArray 3)) (DrawI w g (m + 2) fun x => x ∈ xs) := by
  subst hn
  exact (among_c _ xs g m _ (h.alloc _) hm (ints_lit w xs hl) (by have := h.lt; simp [Value.ownBlock]; omega) hp).mono fun e w' ⟨x, he, hx, hs⟩ =>
    ⟨x, he, hx, ⟨grow_trans (grow_below (below_one _)) hs.gr, hs.cur⟩⟩
end Go.Proofs.Ytlipkplomndjcaa
