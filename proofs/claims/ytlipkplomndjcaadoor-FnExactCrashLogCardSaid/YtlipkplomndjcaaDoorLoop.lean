/- The loop over a text's lines: what the body must keep, and what is known behind it. -/
import Derived.Test.YtlipkplomndjcaaDoorLines
namespace Go.Proofs.YtlipkplomndjcaaDoor
open Go.RowKit Go.Shelf
set_option linter.unusedVariables false
/-- a word on the world that abides the iterator's box, and blocks that are no cells from B on -/
def OwnL {β : Type} (Bx B : Nat) (I : β → World → Prop) : Prop :=
  ∀ s W W' row, I s W → W.grownBy W' row → (∀ r, row = some r → r = Bx ∨ (B ≤ r ∧ ∃ o : Obj, W.heap[r]? = some o ∧ o.isCells = false)) → I s W'
theorem OwnL.putObj {β : Type} {Bx B : Nat} {I : β → World → Prop} (h : OwnL Bx B I) {s : β} {W : World} {l : Nat} {o : Obj} (o' : Obj) (hs : I s W) (hB : B ≤ l) (hl : W.heap[l]? = some o) (ho : o.isCells = false) : I s (W.putObj l o') :=
  h s W _ (some l) hs (grownBy_putObj' W l o') (fun r e => by cases e; exact .inr ⟨hB, o, hl, ho⟩)
theorem OwnL.alloc {β : Type} {Bx B : Nat} {I : β → World → Prop} (h : OwnL Bx B I) {s : β} {W : World} (o : Obj) (hs : I s W) : I s (W.alloc o) :=
  h s W _ none hs (World.grownBy_alloc W o none) (fun r e => by cases e)
/-- how a round may end -/
def postL (B Bx : Nat) (I : List Bs → World → Prop) (Ix : Code → List Bs → World → Prop) (xs : List Bs) (W : World) : Exit → Act → World → Prop
  | .normal, _, W' => KeepsFrom B W W' ∧ W'.heap[Bx]? = W.heap[Bx]? ∧ I xs W'
  | .ret, _, W' => KeepsFrom B W W' ∧ Ix .ret xs W'
  | .exit id, _, W' => KeepsFrom B W W' ∧ Ix (.exit id) xs W'
  | .goto t, _, W' => KeepsFrom B W W' ∧ Ix (.goto t) xs W'
  | .panic _, _, _ => False
  | .outgrown, _, _ => False
/-- the state of a loop's record -/
def recL (fn : FuncId) (a : Act) (p : Tmp) (assign body : Code) (D : Nat) (st : LoopState) (pe : Option Code) : Loop :=
  { state := st, pending := pe, fn := fn, tmps := a.tmps, params := #[p], assign := assign, body := body, defers := D }
theorem wpIn_lines {g : Operand} {p : Tmp} {assign body : Code} {Q : Exit → Act → World → Prop} {a : Act} {w : World} (n : Nat) (hn : 4 ≤ n) (Bx : Nat) (s : ByteArray) (hs : s.size ≤ 1073741824)
    (hg : a.eval g = .func (.func 70) #[] #[.pointer (some ⟨Bx, 0, none⟩)]) (hB : Boxed w Bx 9 (.string s))
    (I : List Bs → World → Prop) (Ix : Code → List Bs → World → Prop) (hI : OwnL Bx w.heap.size I) (hIx : ∀ c, OwnL Bx w.heap.size (Ix c)) (h0 : I [] w) (a₁ : Bs → Act)
    (hassign : ∀ (l : Nat) (x : Bs) (W : World) (K : Act → World → Prop), K (a₁ x) W →
      assign.wpIn (Fence.wide.inRound l) (n - 1 - 1) Tryd.prog (Exit.then K (fun _ _ _ => False)) { tmps := ((#[p] : Array Tmp).zip #[Value.string (bs x)]).foldl (fun t (p, v) => t.setIfInBounds p v) a.tmps, defers := [] } W)
    (hbody : ∀ (l : Nat) (pre : List Bs) (x : Bs) (W : World), I pre W → x.length ≤ s.size → body.wpIn (Fence.wide.inRound l) (n - 1 - 1) Tryd.prog (postL w.heap.size Bx I Ix (pre ++ [x]) W) (a₁ x) W)
    (hdone : ∀ (D : Nat) (xs : List Bs) (W : World), w.heap.size ≤ D → xs.flatten = s.data.toList → I xs W → W.heap[D]? = some (.deferred (some [])) → Q .normal { a with defers := { target := .collected D, args := #[] } :: a.defers } W)
    (hstop : ∀ (D : Nat) (c : Code) (pre : List Bs) (x r : Bs) (W : World), w.heap.size ≤ D → s.data.toList = pre.flatten ++ (x ++ r) → First x r → Ix c (pre ++ [x]) W → W.heap[D]? = some (.deferred (some [])) →
      c.wpIn Fence.wide n Tryd.prog Q { a with defers := { target := .collected D, args := #[] } :: a.defers } W) :
    (Code.rangeFunc g #[p] assign body).wpIn Fence.wide n Tryd.prog Q a w := by
  refine wpIn_rangeFunc ?_
  intro fn hfn
  have hbx := hB.lt
  obtain ⟨D, hD⟩ : ∃ D, D = w.heap.size := ⟨_, rfl⟩
  obtain ⟨W1, hW1⟩ : ∃ W1, W1 = (w.alloc (.deferred (some []))).alloc (.loop (recL fn a p assign body D .ready none)) := ⟨_, rfl⟩
  have hL1 : W1.heap[D + 1]? = some (.loop (recL fn a p assign body D .ready none)) := by
    have h := World.alloc_heap_new (w.alloc (.deferred (some []))) (.loop (recL fn a p assign body D .ready none))
    rw [World.size_alloc, ← hD, ← hW1] at h; exact h
  have hK1 : W1.heap[D]? = some (.deferred (some [])) := by
    rw [hW1, hD]; exact (Below.heap_alloc _ _ _ (by simp)).trans (World.alloc_heap_new w _)
  have hI1 : I [] W1 := by rw [hW1]; exact hI.alloc _ (hI.alloc _ h0)
  have hB1 : Boxed W1 Bx 9 (.string s) := by rw [hW1]; exact (hB.alloc _).alloc _
  refine ⟨D + 1, [{ target := .collected D, args := #[] }], W1, { target := .fn (.func 70) #[.pointer (some ⟨Bx, 0, none⟩)], args := #[.func (.yield (D + 1)) #[] #[]] }, W1, 70,
    #[.func (.yield (D + 1)) #[] #[], .pointer (some ⟨Bx, 0, none⟩)], W1, ?_, ?_, fun _ _ => trivial, ?_, fun h => by omega, ?_⟩
  · rw [hW1, hD]; exact run_enterLoop_outer _ _ _ _ _
  · simp only [resolve, hg]
    simp [go_sem]
  · simp [invoke, go_sem]
  have keep : ∀ {A B : World} {k : Nat} {o : Obj}, k ≠ Bx → A.grownBy B (some Bx) → A.heap[k]? = some o → B.heap[k]? = some o := fun {A B k o} hne hgr hk =>
    (hgr.block k (Array.getElem?_eq_some_iff.1 hk).1 (fun e => hne (by injection e))).trans hk
  have hne0 : D ≠ Bx := by omega
  have hne1 : D + 1 ≠ Bx := by omega
  refine (lines1_in (n - 1) (by omega) (D + 1) Bx s hs
    (fun pre W => I pre W ∧ W.heap[D + 1]? = some (.loop (recL fn a p assign body D .ready none)) ∧ W.heap[D]? = some (.deferred (some [])))
    (fun pre W => ∃ c, Ix c pre W ∧ W.heap[D + 1]? = some (.loop (recL fn a p assign body D .done (some c))) ∧ W.heap[D]? = some (.deferred (some [])))
    (fun t A B h hgr => ⟨hI t A B _ h.1 hgr (fun r e => by injection e with e; exact .inl e.symm), keep hne1 hgr h.2.1, keep hne0 hgr h.2.2⟩)
    ?_ W1 hB1 ⟨hI1, hL1, hK1⟩).mono ?_
  · rintro pre x W ⟨hi, hl, hk⟩ hlen
    have hlt : D + 1 < W.heap.size := (Array.getElem?_eq_some_iff.1 hl).1
    have hy := run_yield (P := Tryd.prog) (args := #[.string (bs x)]) hl rfl
    refine ⟨fn, _, assign, body, hy, roundIn_of_wpIn hfn (hassign (D + 1) x W _ ?_)⟩
    refine ⟨_, run_beginRound hl rfl, ?_⟩
    have hl2 : (W.putObj (D + 1) (.loop (recL fn a p assign body D .busy none))).heap[D + 1]? = some (.loop (recL fn a p assign body D .busy none)) := World.putObj_heap_same hlt
    have hk2 : (W.putObj (D + 1) (.loop (recL fn a p assign body D .busy none))).heap[D]? = some (.deferred (some [])) := (World.putObj_heap_other (by omega)).trans hk
    refine wpIn_mono (hbody _ pre x _ (hI.putObj _ hi (by omega) hl rfl) hlen) ?_
    rintro e a3 W3 hp
    have fin : KeepsFrom w.heap.size (W.putObj (D + 1) (.loop (recL fn a p assign body D .busy none))) W3 → ∀ jump : Option Code,
        (Instr.endRound (D + 1) jump).run Tryd.prog W3 = .ok (.bool jump.isNone) (W3.putObj (D + 1) (.loop (recL fn a p assign body D (if jump.isNone then .ready else .done) jump))) ∧
        W3.heap[D + 1]? = some (.loop (recL fn a p assign body D .busy none)) ∧
        (W3.putObj (D + 1) (.loop (recL fn a p assign body D (if jump.isNone then .ready else .done) jump))).heap[D + 1]? = some (.loop (recL fn a p assign body D (if jump.isNone then .ready else .done) jump)) ∧
        (W3.putObj (D + 1) (.loop (recL fn a p assign body D (if jump.isNone then .ready else .done) jump))).heap[D]? = some (.deferred (some [])) := fun hk3 jump => by
      have hl3 := hk3.same _ _ (by omega) hl2 rfl
      exact ⟨run_endRound (P := Tryd.prog) jump hl3, hl3, World.putObj_heap_same (Array.getElem?_eq_some_iff.1 hl3).1, (World.putObj_heap_other (by omega)).trans (hk3.same _ _ (by omega) hk2 rfl)⟩
    cases e with
    | normal =>
      obtain ⟨hk3, hbx3, hi3⟩ := hp
      obtain ⟨hr, hl3, hl4, hk4⟩ := fin hk3 none
      exact ⟨_, _, hr, .inl ⟨rfl, ⟨hI.putObj _ hi3 (by omega) hl3 rfl, hl4, hk4⟩, (World.putObj_heap_other (Ne.symm hne1)).trans (hbx3.trans (World.putObj_heap_other (Ne.symm hne1)))⟩⟩
    | ret =>
      obtain ⟨hr, hl3, hl4, hk4⟩ := fin hp.1 (some .ret)
      exact ⟨_, _, hr, .inr ⟨rfl, .ret, (hIx _).putObj _ hp.2 (by omega) hl3 rfl, hl4, hk4⟩⟩
    | exit id =>
      obtain ⟨hr, hl3, hl4, hk4⟩ := fin hp.1 (some (.exit id))
      exact ⟨_, _, hr, .inr ⟨rfl, .exit id, (hIx _).putObj _ hp.2 (by omega) hl3 rfl, hl4, hk4⟩⟩
    | goto t =>
      obtain ⟨hr, hl3, hl4, hk4⟩ := fin hp.1 (some (.goto t))
      exact ⟨_, _, hr, .inr ⟨rfl, .goto t, (hIx _).putObj _ hp.2 (by omega) hl3 rfl, hl4, hk4⟩⟩
    | panic ch => exact hp.elim
    | outgrown => exact hp.elim
  · rintro e W2 ⟨⟨v, rfl⟩, (⟨xs, hS, hi, hl, hk⟩ | ⟨pre, x, r, hsp, hf, c, hi, hl, hk⟩)⟩
    · exact ⟨none, _, run_endLoop (P := Tryd.prog) hl (by simp [recL]), hdone D xs _ (by omega) hS (hI.putObj _ hi (by omega) hl rfl) ((World.putObj_heap_other (by omega)).trans hk)⟩
    · exact ⟨some c, _, run_endLoop (P := Tryd.prog) hl (by simp [recL]), hstop D c pre x r _ (by omega) hsp hf ((hIx c).putObj _ hi (by omega) hl rfl) ((World.putObj_heap_other (by omega)).trans hk)⟩
end Go.Proofs.YtlipkplomndjcaaDoor
