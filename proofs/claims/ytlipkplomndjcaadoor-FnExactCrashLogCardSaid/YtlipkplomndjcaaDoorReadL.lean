/- The walk of readLog: the records at the beginning of bytes. -/
import Derived.Test.YtlipkplomndjcaaDoorLoop
import Derived.RangeFuncBox
import Derived.Maps.OwnIn
namespace Go.Proofs.YtlipkplomndjcaaDoor
open Go.RowKit Go.Shelf
set_option linter.unusedVariables false
attribute [local go_sem] Oper.semAt_some
theorem info_LogRecord : (Tryd.prog.info? 33).map (fun i => (i.zero, i.size, i.bytes)) = some (some (.agg #[.string ⟨#[]⟩, .string ⟨#[]⟩]), 2, 32) := by kernel_rfl
/-- records as cells -/
def flatR (es : List (Bs × Bs)) : List Value := es.flatMap fun e => [.string (bs e.1), .string (bs e.2)]
theorem flatR_snoc (es : List (Bs × Bs)) (e : Bs × Bs) : flatR (es ++ [e]) = flatR es ++ [.string (bs e.1), .string (bs e.2)] := by simp [flatR]
theorem linesS_len (k : Nat) (es : List (Bs × Bs)) (h : ∀ e ∈ es, OkE e) (hk : k + es.length ≤ 60) : (linesS k es).length ≤ 454 * es.length := by
  induction es generalizing k with
  | nil => simp [linesS]
  | cons e t ih =>
    have h1 := lnS_len (k := k) (h e (by simp)) (by simp at hk; omega)
    have h2 := ih (k + 1) (fun a ha => h a (by simp [ha])) (by simp at hk; omega)
    simp only [linesS, List.length_append, List.length_cons]
    omega
/-- the two boxes between two rounds -/
structure RL (n₀ : Nat) (w : World) (es : List (Bs × Bs)) (W : World) (v : Value) : Prop where
  ok : ∀ e ∈ es, OkE e
  le : es.length ≤ 60
  b0 : Boxed W n₀ 48 v
  b1 : Boxed W (n₀ + 1) 3 (.int .i64 (((linesS 0 es).length : Nat) : Int))
  row : W.ownsRow n₀ 33 2 v es.length (flatR es)
  bel : Below n₀ w W
  nb : v.ownBlock ≠ some (n₀ + 2)
  big : n₀ + 3 ≤ W.heap.size
def IL (n₀ : Nat) (w : World) (pre : List Bs) (W : World) : Prop := ∃ es v, pre.flatten = linesS 0 es ∧ RL n₀ w es W v
def IxL (n₀ : Nat) (w : World) (c : Code) (pre : List Bs) (W : World) : Prop :=
  c = .exit 0 ∧ ∃ es v pre0 x, pre = pre0 ++ [x] ∧ pre0.flatten = linesS 0 es ∧ RL n₀ w es W v ∧ (es.length < 60 → ∀ e, OkE e → x ≠ lnS es.length e)
theorem RL.kept {n₀ : Nat} {w : World} {es : List (Bs × Bs)} {W W' : World} {v : Value} (h : RL n₀ w es W v) {B : Nat} (hB : n₀ + 2 < B) (hn : w.heap.size = n₀) {row : Option Nat} (hg : W.grownBy W' row)
    (hr : ∀ r, row = some r → r = n₀ + 2 ∨ (B ≤ r ∧ ∃ o : Obj, W.heap[r]? = some o ∧ o.isCells = false)) : RL n₀ w es W' v := by
  have hne : ∀ k, k < n₀ + 2 → some k ≠ row := fun k hk e => by
    rcases hr k e.symm with h1 | ⟨h1, _⟩ <;> omega
  refine ⟨h.ok, h.le, h.b0.kept hg (hne _ (by omega)), h.b1.kept hg (hne _ (by omega)), h.row.kept hg ?_, ?_, h.nb, Nat.le_trans h.big hg.size⟩
  · rcases h.row.2 with ⟨rfl, _⟩ | ⟨g, cap, cur, rfl, hb, hgb, _⟩
    · exact .inl rfl
    · right
      intro e
      have e2 : some g = row := by simpa [Value.ownBlock] using e
      rcases hr g e2.symm with rfl | ⟨_, o, ho, hc⟩
      · exact h.nb rfl
      · rw [hgb] at ho; cases ho; cases hc
  · refine h.bel.grown hg (hn ▸ h.bel.size) (fun k e => ?_)
    rcases hr k e with rfl | ⟨h1, _⟩ <;> omega
theorem IL_own (w : World) {B : Nat} (hB : w.heap.size + 2 < B) : OwnL (w.heap.size + 2) B (IL w.heap.size w) := by
  rintro s W W' row ⟨es, v, h1, h2⟩ hg hr
  exact ⟨es, v, h1, h2.kept hB rfl hg hr⟩
theorem IxL_own (w : World) {B : Nat} (hB : w.heap.size + 2 < B) (c : Code) : OwnL (w.heap.size + 2) B (IxL w.heap.size w c) := by
  rintro s W W' row ⟨h0, es, v, pre0, x, h1, h2, h3, h4⟩ hg hr
  exact ⟨h0, es, v, pre0, x, h1, h2, h3.kept hB rfl hg hr, h4⟩
def ReadOut (s : ByteArray) (w : World) (e : Ending) (w' : World) : Prop :=
  ∃ v es rest, e = .returned (.tuple #[v, .int .i64 (((linesS 0 es).length : Nat) : Int)]) ∧ w'.ownsRow w.heap.size 33 2 v es.length (flatR es) ∧ Opens s.data.toList es rest ∧ Below w.heap.size w w'
theorem below_keeps {B : Nat} {W W' : World} (h : Below W.heap.size W W') : KeepsFrom B W W' := ⟨h.size, fun k o _ hk _ => (h.block k (Array.getElem?_eq_some_iff.1 hk).1).trans hk⟩
theorem RL.below {n₀ : Nat} {w : World} {es : List (Bs × Bs)} {W W' : World} {v : Value} (h : RL n₀ w es W v) (hn : w.heap.size = n₀) (hb : Below W.heap.size W W') : RL n₀ w es W' v :=
  h.kept (B := n₀ + 3) (by omega) hn (Below.gr hb) (fun r e => by cases e)
theorem RL.app {n₀ : Nat} {w : World} {es : List (Bs × Bs)} {W w1 : World} {v v' : Value} (h : RL n₀ w es W v) (hn : w.heap.size = n₀) (c r : ByteArray) (hok : OkE (c.data.toList, r.data.toList)) (hlt : es.length < 60) (A : Obj)
    (hown : w1.ownsRow n₀ 33 2 v' (es.length + 1) (flatR es ++ [.string c, .string r])) (hgrow : (W.alloc A).grownBy w1 v.ownBlock) (hat : v'.ownBlock = v.ownBlock ∨ v'.ownBlock = some (W.alloc A).heap.size) :
    Boxed w1 n₀ 48 v ∧ Boxed (w1.setCell ⟨n₀, 0, none⟩ v') (n₀ + 1) 3 (.int .i64 (((linesS 0 es).length : Nat) : Int)) ∧
    (∀ z : Int, z = (((linesS 0 (es ++ [(c.data.toList, r.data.toList)])).length : Nat) : Int) → KeepsFrom (n₀ + 3) W ((w1.setCell ⟨n₀, 0, none⟩ v').setCell ⟨n₀ + 1, 0, none⟩ (.int .i64 z)) ∧ ((w1.setCell ⟨n₀, 0, none⟩ v').setCell ⟨n₀ + 1, 0, none⟩ (.int .i64 z)).heap[n₀ + 2]? = W.heap[n₀ + 2]? ∧
      RL n₀ w (es ++ [(c.data.toList, r.data.toList)]) ((w1.setCell ⟨n₀, 0, none⟩ v').setCell ⟨n₀ + 1, 0, none⟩ (.int .i64 z)) v') := by
  have hbig := h.big
  obtain ⟨a1, a2, a3, a4, a5⟩ := h.b0.appended (by decide) h.row (by omega) (Nat.le_refl _) hown hgrow
  have b1 : Boxed w1 (n₀ + 1) 3 (.int .i64 (((linesS 0 es).length : Nat) : Int)) := (h.b1.alloc A).kept hgrow (h.b1.not_row (by decide) h.row)
  have b2 : Boxed (w1.setCell ⟨n₀, 0, none⟩ v') (n₀ + 1) 3 (.int .i64 (((linesS 0 es).length : Nat) : Int)) := b1.kept (grownBy_setCell' w1 n₀ v') (fun e => by injection e with e; omega)
  refine ⟨a1, b2, fun z hz => ?_⟩
  have hne : v'.ownBlock ≠ some (n₀ + 2) := by
    rcases hat with e | e
    · rw [e]; exact h.nb
    · rw [e]; intro e2; injection e2 with e2; simp at e2; omega
  have hne1 : v'.ownBlock ≠ some (n₀ + 1) := fun e => (b2.not_row (by decide) a3) e.symm
  refine ⟨(a4.trans (KeepsOthers.setCell _ _ _)).from _, ?_, ?_, ?_, ?_, ?_, ?_, ?_, hne, ?_⟩
  · rw [Below.heap_setCell _ _ _ _ (show n₀ + 2 ≠ n₀ + 1 by omega), Below.heap_setCell _ _ _ _ (show n₀ + 2 ≠ n₀ by omega)]
    exact (hgrow.block (n₀ + 2) (by simp; omega) (fun e => h.nb e.symm)).trans (Below.heap_alloc W A _ (by omega))
  · intro x hx
    simp only [List.mem_append, List.mem_singleton] at hx
    rcases hx with hx | rfl
    · exact h.ok x hx
    · exact hok
  · simp; omega
  · exact a2.kept (grownBy_setCell' _ (n₀ + 1) _) (fun e => by injection e with e; omega)
  · rw [← hz]; exact b2.set _
  · rw [flatR_snoc, List.length_append, bs_of, bs_of]
    exact a3.kept (grownBy_setCell' _ (n₀ + 1) _) (.inr hne1)
  · have := (h.bel.trans a5).setCell (p := ⟨n₀ + 1, 0, none⟩) (by show n₀ ≤ n₀ + 1; omega) (.int .i64 z)
    exact this
  · have := a4.size
    have h2 : ((w1.setCell ⟨n₀, 0, none⟩ v').setCell ⟨n₀ + 1, 0, none⟩ (.int .i64 z)).heap.size = (w1.setCell ⟨n₀, 0, none⟩ v').heap.size := by simp [World.setCell]
    omega
set_option maxRecDepth 100000 in
set_option maxHeartbeats 4000000 in
theorem readLog_in (n : Nat) (hn : 6 ≤ n) (s : ByteArray) (w : World) (hs : s.size ≤ 1048576) (ht : Tab w) : CallsIn Fence.wide n Tryd.prog 51 #[.string s] w (ReadOut s w) := by
  have h1 : 1 ≤ n := by omega
  obtain ⟨i0, hi, hz0, hz1, hz2⟩ := info_parts info_LogRecord
  have HT := Lib.hid ht
  clear ht
  refine callsIn_of_wp_marks Tryd.func51 rfl trivial ?_ rfl
  simp only [Tryd.ntmps51, List.size_toArray, List.length_cons, List.length_nil, Nat.reduceAdd, Nat.reduceSub, Array.replicate_succ, Array.replicate_zero, List.push_toArray, List.append_toArray, List.nil_append, List.cons_append]
  gi_wp2_with fail
  refine ⟨trivial, ?_⟩
  refine (callsIn_wide.2 (Lines_c s _)).mono ?_
  rintro e w' ⟨rfl, rfl⟩
  gi_wp2
  have hbel : Below w.heap.size w (((w.alloc (.cells #[.slice none 0 0] 48)).alloc (.cells #[.int .i64 0] 3)).alloc (.cells #[.string s] 9)) := by (repeat (first | exact Below.refl _ _ | exact (Below.refl _ _).drew | assumption | exact below_one _ | refine Below.chain ?_ (by assumption) | refine Below.drew ?_ | refine Below.alc ?_ _ | refine below_drewN ?_ | (refine Below.setCell ?_ ?_ _) | exact Nat.le_refl _ | (simp; done) | (simp; omega)))
  have hbx : Boxed (((w.alloc (.cells #[.slice none 0 0] 48)).alloc (.cells #[.int .i64 0] 3)).alloc (.cells #[.string s] 9)) (w.heap.size + 2) 9 (.string s) := by
    have := Boxed.new ((w.alloc (.cells #[.slice none 0 0] 48)).alloc (.cells #[.int .i64 0] 3)) 9 (.string s)
    simpa using this
  have hb1 : Boxed (((w.alloc (.cells #[.slice none 0 0] 48)).alloc (.cells #[.int .i64 0] 3)).alloc (.cells #[.string s] 9)) (w.heap.size + 1) 3 (.int .i64 0) := by
    have := (Boxed.new (w.alloc (.cells #[.slice none 0 0] 48)) 3 (.int .i64 0)).alloc (.cells #[.string s] 9)
    simpa using this
  have hb0 : Boxed (((w.alloc (.cells #[.slice none 0 0] 48)).alloc (.cells #[.int .i64 0] 3)).alloc (.cells #[.string s] 9)) w.heap.size 48 (.slice none 0 0) :=
    ((Boxed.new w 48 (.slice none 0 0)).alloc _).alloc _
  have h0 : IL w.heap.size w [] (((w.alloc (.cells #[.slice none 0 0] 48)).alloc (.cells #[.int .i64 0] 3)).alloc (.cells #[.string s] 9)) :=
    ⟨[], _, rfl, by simp, by simp, hb0, hb1, World.ownsRow_nil _ _ _ _, hbel, by simp [Value.ownBlock], by simp⟩
  have hsz : (((w.alloc (.cells #[.slice none 0 0] 48)).alloc (.cells #[.int .i64 0] 3)).alloc (.cells #[.string s] 9)).heap.size = w.heap.size + 3 := by simp
  generalize ((w.alloc (.cells #[.slice none 0 0] 48)).alloc (.cells #[.int .i64 0] 3)).alloc (.cells #[.string s] 9) = W0 at *
  refine wpIn_lines n (by omega) (w.heap.size + 2) s (by omega) rfl hbx (IL w.heap.size w) (IxL w.heap.size w) (IL_own w (by omega)) (fun c => IxL_own w (by omega) c) h0
    (fun x => { tmps := #[.string s, undef, .slice none 0 0, .int .i64 0, .pointer (some ⟨w.heap.size, 0, none⟩), .pointer (some ⟨w.heap.size + 1, 0, none⟩), .string (bs x), undef, undef, .string s,
      .func (.func 70) #[] #[.pointer (some ⟨w.heap.size + 1 + 1, 0, none⟩)], .string (bs x), undef, undef, undef, undef, undef, undef, undef, undef, undef, undef, undef, undef, undef, undef, undef, undef, undef, undef, undef], defers := [] }) ?assign ?body ?done ?stop
  case assign =>
    intro l x W K hK
    gi_wp2
    exact hK
  case body =>
    rintro l pre x W ⟨es, v, hpre, hR⟩ hx
    clear h0 hb0 hb1 hbx hbel
    obtain ⟨a, c, rfl, _⟩ := (Sl.of_own hR.row).slice
    have hHR := Lib.hid hR
    have hc0 := hR.b0.cell
    have hc1 := hR.b1.cell
    have hle := hR.le
    have hlen := linesS_len 0 es hR.ok (by omega)
    have HP := Lib.hid hpre
    clear hpre hR
    gi_wp2_with fail
    refine ⟨trivial, fun _ => by omega, ?_⟩
    refine (CallsIn.inRound l (callsIn_wide.2 (decodeRecord_c es.length hle (bs x) _ (by rw [bs_size]; omega) (HT.out.on hHR.out.bel)))).mono ?_
    rintro e W2 ⟨c2, r2, ok, rfl, hcs, hrs, HT1, HF1, hb2⟩
    unfold recV
    have hR2 := (hHR.out.below rfl hb2).below rfl (below_one (.cells #[.string c2, .string r2] 33))
    have HR2 := Lib.hid hR2
    have HB2 := Lib.hid (Below.alc hb2 (.cells #[.string c2, .string r2] 33))
    have hc2 := hR2.b0.cell
    have hf2 := hR2.b0.frozen
    have hd1 := hR2.b1.cell
    have hd2 := hR2.b1.frozen
    clear hR2 hb2 hc0 hc1
    cases ok with
    | false =>
      gi_wp2
      exact ⟨below_keeps HB2.out, rfl, es, _, pre, x, rfl, HP.out, HR2.out, fun hk e he hxe => HF1.out trivial hk e he (by rw [bs_list]; exact hxe)⟩
    | true =>
      obtain ⟨hok, hlt, hln⟩ := HT1.out rfl
      rw [bs_list] at hln
      have HLN := Lib.hid hln
      have HOK := Lib.hid hok
      have hxl := lnS_len hok hlt
      rw [← hln] at hxl
      have HX := Lib.hid (show ((bs x).size : Int) = (x.length : Int) by rw [bs_size])
      clear hln hok
      have hnews : ∀ j u, [Value.string c2, Value.string r2][j]? = some u → ((W2.alloc (.cells #[.string c2, .string r2] 33)).alloc (.cells #[.string c2, .string r2] 33)).cell? ((⟨W2.heap.size + 1, 0, none⟩ : Addr).add j) = some u := by
        have h := news_new (W2.alloc (.cells #[.string c2, .string r2] 33)) [.string c2, .string r2] 33
        rw [show (W2.alloc (.cells #[.string c2, .string r2] 33)).heap.size = W2.heap.size + 1 by simp] at h
        exact h
      have HNW := Lib.hid hnews
      clear hnews
      gi_wp2_with (gi_at_builtin; refine wpListIn_append_own_at _ rfl _ _ 48 rfl w.heap.size 33 i0 (.agg #[.string ⟨#[]⟩, .string ⟨#[]⟩]) 2 32 Tryd.underlying48 hi hz0 hz1 hz2 rfl (by decide) _ _ _ rfl (HR2.out.row.alloc _) ⟨W2.heap.size + 1, 0, none⟩ 1 1 [.string c2, .string r2] rfl rfl HNW.out (by simp [Value.oneCell']) (by unfold maxLen; omega) (by omega) (by have := HR2.out.big; simp at this ⊢; omega) ?_; intro v' w1 hown' hgrow _ hat; obtain ⟨ga, capa, rfl⟩ := ownsRow_succ hown'; obtain ⟨p1, p2, p3⟩ := HR2.out.app rfl c2 r2 HOK.out hlt _ hown' hgrow hat; have hq1 := p1.cell; have hq2 := p1.frozen; have hq3 := p2.cell; have hq4 := p2.frozen; have HP3 := Lib.hid p3; clear p1 p2 p3 hown' hgrow hat)
      have hz : wrap64 ((((linesS 0 es).length : Nat) : Int) + (((bs x).size : Nat) : Int)) = (((linesS 0 (es ++ [(c2.data.toList, r2.data.toList)])).length : Nat) : Int) := by
        rw [linesS_snoc, List.length_append, Nat.zero_add, ← HLN.out, HX.out, IntWalk.wrap64_in _ ⟨by omega, by omega⟩]
        omega
      obtain ⟨k1, k2, k3⟩ := HP3.out _ hz
      have hbig := hHR.out.big
      refine ⟨(below_keeps HB2.out).trans (hsz ▸ k1), k2.trans (HB2.out.block _ (by omega)), _, _, ?_, k3⟩
      rw [List.flatten_append, HP.out, linesS_snoc, Nat.zero_add, ← HLN.out]; simp
  case done =>
    rintro D xs W hD hfl ⟨es, v, hpre, hR⟩ hK
    have hc0 := hR.b0.cell
    have hc1 := hR.b1.cell
    have HR := Lib.hid hR
    have HO : Hid (Opens s.data.toList es []) := by
      have h := Opens.whole hR.ok hR.le
      rw [← hpre, hfl] at h; exact h
    have HK := Lib.hid hK
    clear hR hpre hfl hK h0 hb0 hb1 hbx hbel
    gi_wp2
    gi_region
    gi_wp2
    refine ⟨by simp, .inl ⟨_, _, rfl, run_takeDeferred (show W.drew.heap[D]? = _ from HK.out), ?_⟩⟩
    exact ⟨_, results_tmp2 rfl _ _ _, v, es, [], rfl, ownsRow_putObj (show W.drew.ownsRow _ _ _ _ _ _ from HR.out.row) _ HK.out rfl, HO.out, HR.out.bel.drew.trans (belowK_b (w := w) (Nat.le_refl _) W.drew D _ _ (by omega) HK.out rfl rfl)⟩
  case stop =>
    rintro D cj pre x r W hD hsp hf ⟨rfl, es, v, pre0, x0, hpx, hpre, hR, hno⟩ hK
    have hc0 := hR.b0.cell
    have hc1 := hR.b1.cell
    have HR := Lib.hid hR
    have HO : Hid (Opens s.data.toList es (x ++ r)) := by
      obtain ⟨rfl, e2⟩ := List.append_inj' hpx rfl
      injection e2 with e2
      subst e2
      refine ⟨hR.ok, hR.le, by rw [hsp, hpre], ?_⟩
      by_cases h60 : es.length = 60
      · exact .inl h60
      · right
        intro e hb
        exact hno (by have := hR.le; omega) e hb.1 (hf.begins hb)
    have HK := Lib.hid hK
    clear hR hpre hK h0 hb0 hb1 hbx hbel hpx hsp hf hno
    gi_wp2
    gi_region
    gi_wp2
    refine ⟨by simp, .inl ⟨_, _, rfl, run_takeDeferred (show W.drew.heap[D]? = _ from HK.out), ?_⟩⟩
    exact ⟨_, results_tmp2 rfl _ _ _, v, es, x ++ r, rfl, ownsRow_putObj (show W.drew.ownsRow _ _ _ _ _ _ from HR.out.row) _ HK.out rfl, HO.out, HR.out.bel.drew.trans (belowK_b (w := w) (Nat.le_refl _) W.drew D _ _ (by omega) HK.out rfl rfl)⟩
theorem readLog_c (s : ByteArray) (w : World) (hs : s.size ≤ 1048576) (ht : Tab w) : Calls Tryd.prog 51 #[.string s] w (ReadOut s w) :=
  (callsIn_wide (n := 8)).1 (readLog_in 8 (by omega) s w hs ht)
end Go.Proofs.YtlipkplomndjcaaDoor
