/- Texts of this claim, gathered: ReadL, OpenS, LogC, LogL, LogM. -/
import Derived.Test.YtbobiiodbbcodaaDoorK4
import Derived.RangeFuncBox
import Derived.Maps.OwnIn
namespace Go.Proofs.YtbobiiodbbcodaaDoor
open Go.RowKit Go.Shelf
set_option linter.unusedVariables false
attribute [local go_sem] Oper.semAt_some
theorem info_LogRecord : (Tryd.prog.info? 25).map (fun i => (i.zero, i.size, i.bytes)) = some (some (.agg #[.string ⟨#[]⟩, .string ⟨#[]⟩]), 2, 32) := by kernel_rfl
/-- records as cells -/
def flatR (es : List (Bs × Bs)) : List Value := es.flatMap fun e => [.string (bs e.1), .string (bs e.2)]
theorem flatR_snoc (es : List (Bs × Bs)) (e : Bs × Bs) : flatR (es ++ [e]) = flatR es ++ [.string (bs e.1), .string (bs e.2)] := by simp [flatR]
theorem linesS_len (k : Nat) (es : List (Bs × Bs)) (h : ∀ e ∈ es, OkE e) (hk : k + es.length ≤ 60) : (linesS k es).length ≤ 454 * es.length := by
  induction es generalizing k with
  | nil => simp [linesS]
  | cons e t ih =>
    have h1 := lnS_len (k := k) (h e (by simp)) (by simp at hk; omega)
    have h2 := ih (k + 1) (fun a ha => h a (by simp [ha])) (by simp at hk; omega)
    simp only [linesS, List.length_append, List.length_cons]
    omega
/-- the two boxes between two rounds -/
structure RL (n₀ : Nat) (w : World) (es : List (Bs × Bs)) (W : World) (v : Value) : Prop where
  ok : ∀ e ∈ es, OkE e
  le : es.length ≤ 60
  b0 : Boxed W n₀ 43 v
  b1 : Boxed W (n₀ + 1) 3 (.int .i64 (((linesS 0 es).length : Nat) : Int))
  row : W.ownsRow n₀ 25 2 v es.length (flatR es)
  bel : Below n₀ w W
  nb : v.ownBlock ≠ some (n₀ + 2)
  big : n₀ + 3 ≤ W.heap.size
def IL (n₀ : Nat) (w : World) (pre : List Bs) (W : World) : Prop := ∃ es v, pre.flatten = linesS 0 es ∧ RL n₀ w es W v
def IxL (n₀ : Nat) (w : World) (c : Go.Code) (pre : List Bs) (W : World) : Prop :=
  c = .exit 0 ∧ ∃ es v pre0 x, pre = pre0 ++ [x] ∧ pre0.flatten = linesS 0 es ∧ RL n₀ w es W v ∧ (es.length < 60 → ∀ e, OkE e → x ≠ lnS es.length e)
theorem RL.kept {n₀ : Nat} {w : World} {es : List (Bs × Bs)} {W W' : World} {v : Value} (h : RL n₀ w es W v) {B : Nat} (hB : n₀ + 2 < B) (hn : w.heap.size = n₀) {row : Option Nat} (hg : W.grownBy W' row)
    (hr : ∀ r, row = some r → r = n₀ + 2 ∨ (B ≤ r ∧ ∃ o : Obj, W.heap[r]? = some o ∧ o.isCells = false)) : RL n₀ w es W' v := by
  have hne : ∀ k, k < n₀ + 2 → some k ≠ row := fun k hk e => by
    rcases hr k e.symm with h1 | ⟨h1, _⟩ <;> omega
  refine ⟨h.ok, h.le, h.b0.kept hg (hne _ (by omega)), h.b1.kept hg (hne _ (by omega)), h.row.kept hg ?_, ?_, h.nb, Nat.le_trans h.big hg.size⟩
  · rcases h.row.2 with ⟨rfl, _⟩ | ⟨g, cap, cur, rfl, hb, hgb, _⟩
    · exact .inl rfl
    · right
      intro e
      have e2 : some g = row := by simpa [Value.ownBlock] using e
      rcases hr g e2.symm with rfl | ⟨_, o, ho, hc⟩
      · exact h.nb rfl
      · rw [hgb] at ho; cases ho; cases hc
  · refine h.bel.grown hg (hn ▸ h.bel.size) (fun k e => ?_)
    rcases hr k e with rfl | ⟨h1, _⟩ <;> omega
theorem IL_own (w : World) {B : Nat} (hB : w.heap.size + 2 < B) : OwnL (w.heap.size + 2) B (IL w.heap.size w) := by
  rintro s W W' row ⟨es, v, h1, h2⟩ hg hr
  exact ⟨es, v, h1, h2.kept hB rfl hg hr⟩
theorem IxL_own (w : World) {B : Nat} (hB : w.heap.size + 2 < B) (c : Go.Code) : OwnL (w.heap.size + 2) B (IxL w.heap.size w c) := by
  rintro s W W' row ⟨h0, es, v, pre0, x, h1, h2, h3, h4⟩ hg hr
  exact ⟨h0, es, v, pre0, x, h1, h2, h3.kept hB rfl hg hr, h4⟩
def ReadOut (s : ByteArray) (w : World) (e : Ending) (w' : World) : Prop :=
  ∃ v es rest, e = .returned (.tuple #[v, .int .i64 (((linesS 0 es).length : Nat) : Int)]) ∧ w'.ownsRow w.heap.size 25 2 v es.length (flatR es) ∧ Opens s.data.toList es rest ∧ Below w.heap.size w w'
theorem below_keeps {B : Nat} {W W' : World} (h : Below W.heap.size W W') : KeepsFrom B W W' := ⟨h.size, fun k o _ hk _ => (h.block k (Array.getElem?_eq_some_iff.1 hk).1).trans hk⟩
theorem RL.below {n₀ : Nat} {w : World} {es : List (Bs × Bs)} {W W' : World} {v : Value} (h : RL n₀ w es W v) (hn : w.heap.size = n₀) (hb : Below W.heap.size W W') : RL n₀ w es W' v :=
  h.kept (B := n₀ + 3) (by omega) hn (Below.gr hb) (fun r e => by cases e)
theorem RL.app {n₀ : Nat} {w : World} {es : List (Bs × Bs)} {W w1 : World} {v v' : Value} (h : RL n₀ w es W v) (hn : w.heap.size = n₀) (c r : ByteArray) (hok : OkE (c.data.toList, r.data.toList)) (hlt : es.length < 60) (A : Obj)
    (hown : w1.ownsRow n₀ 25 2 v' (es.length + 1) (flatR es ++ [.string c, .string r])) (hgrow : (W.alloc A).grownBy w1 v.ownBlock) (hat : v'.ownBlock = v.ownBlock ∨ v'.ownBlock = some (W.alloc A).heap.size) :
    Boxed w1 n₀ 43 v ∧ Boxed (w1.setCell ⟨n₀, 0, none⟩ v') (n₀ + 1) 3 (.int .i64 (((linesS 0 es).length : Nat) : Int)) ∧
    (∀ z : Int, z = (((linesS 0 (es ++ [(c.data.toList, r.data.toList)])).length : Nat) : Int) → KeepsFrom (n₀ + 3) W ((w1.setCell ⟨n₀, 0, none⟩ v').setCell ⟨n₀ + 1, 0, none⟩ (.int .i64 z)) ∧ ((w1.setCell ⟨n₀, 0, none⟩ v').setCell ⟨n₀ + 1, 0, none⟩ (.int .i64 z)).heap[n₀ + 2]? = W.heap[n₀ + 2]? ∧
      RL n₀ w (es ++ [(c.data.toList, r.data.toList)]) ((w1.setCell ⟨n₀, 0, none⟩ v').setCell ⟨n₀ + 1, 0, none⟩ (.int .i64 z)) v') := by
  have hbig := h.big
  obtain ⟨a1, a2, a3, a4, a5⟩ := h.b0.appended (by decide) h.row (by omega) (Nat.le_refl _) hown hgrow
  have b1 : Boxed w1 (n₀ + 1) 3 (.int .i64 (((linesS 0 es).length : Nat) : Int)) := (h.b1.alloc A).kept hgrow (h.b1.not_row (by decide) h.row)
  have b2 : Boxed (w1.setCell ⟨n₀, 0, none⟩ v') (n₀ + 1) 3 (.int .i64 (((linesS 0 es).length : Nat) : Int)) := b1.kept (grownBy_setCell' w1 n₀ v') (fun e => by injection e with e; omega)
  refine ⟨a1, b2, fun z hz => ?_⟩
  have hne : v'.ownBlock ≠ some (n₀ + 2) := by
    rcases hat with e | e
    · rw [e]; exact h.nb
    · rw [e]; intro e2; injection e2 with e2; simp at e2; omega
  have hne1 : v'.ownBlock ≠ some (n₀ + 1) := fun e => (b2.not_row (by decide) a3) e.symm
  refine ⟨(a4.trans (KeepsOthers.setCell _ _ _)).from _, ?_, ?_, ?_, ?_, ?_, ?_, ?_, hne, ?_⟩
  · rw [Below.heap_setCell _ _ _ _ (show n₀ + 2 ≠ n₀ + 1 by omega), Below.heap_setCell _ _ _ _ (show n₀ + 2 ≠ n₀ by omega)]
    exact (hgrow.block (n₀ + 2) (by simp; omega) (fun e => h.nb e.symm)).trans (Below.heap_alloc W A _ (by omega))
  · intro x hx
    simp only [List.mem_append, List.mem_singleton] at hx
    rcases hx with hx | rfl
    · exact h.ok x hx
    · exact hok
  · simp; omega
  · exact a2.kept (grownBy_setCell' _ (n₀ + 1) _) (fun e => by injection e with e; omega)
  · rw [← hz]; exact b2.set _
  · rw [flatR_snoc, List.length_append, bs_of, bs_of]
    exact a3.kept (grownBy_setCell' _ (n₀ + 1) _) (.inr hne1)
  · have := (h.bel.trans a5).setCell (p := ⟨n₀ + 1, 0, none⟩) (by show n₀ ≤ n₀ + 1; omega) (.int .i64 z)
    exact this
  · have := a4.size
    have h2 : ((w1.setCell ⟨n₀, 0, none⟩ v').setCell ⟨n₀ + 1, 0, none⟩ (.int .i64 z)).heap.size = (w1.setCell ⟨n₀, 0, none⟩ v').heap.size := by simp [World.setCell]
    omega
set_option maxRecDepth 100000 in
set_option maxHeartbeats 4000000 in
theorem readLog_in (n : Nat) (hn : 6 ≤ n) (s : ByteArray) (w : World) (hs : s.size ≤ 1048576) (ht : Tab w) : CallsIn Fence.wide n Tryd.prog 48 #[.string s] w (ReadOut s w) := by
  have h1 : 1 ≤ n := by omega
  obtain ⟨i0, hi, hz0, hz1, hz2⟩ := info_parts info_LogRecord
  have HT := Lib.hid ht
  clear ht
  refine callsIn_of_wp_marks Tryd.func48 rfl trivial ?_ rfl
  simp only [Tryd.ntmps48, List.size_toArray, List.length_cons, List.length_nil, Nat.reduceAdd, Nat.reduceSub, Array.replicate_succ, Array.replicate_zero, List.push_toArray, List.append_toArray, List.nil_append, List.cons_append]
  gi_wp2_with fail
  refine ⟨trivial, ?_⟩
  refine (callsIn_wide.2 (Lines_c s _)).mono ?_
  rintro e w' ⟨rfl, rfl⟩
  gi_wp2
  have hbel : Below w.heap.size w (((w.alloc (.cells #[.slice none 0 0] 43)).alloc (.cells #[.int .i64 0] 3)).alloc (.cells #[.string s] 9)) := by (repeat (first | exact Below.refl _ _ | exact (Below.refl _ _).drew | assumption | exact below_one _ | refine Below.chain ?_ (by assumption) | refine Below.drew ?_ | refine Below.alc ?_ _ | refine below_drewN ?_ | (refine Below.setCell ?_ ?_ _) | exact Nat.le_refl _ | (simp; done) | (simp; omega)))
  have hbx : Boxed (((w.alloc (.cells #[.slice none 0 0] 43)).alloc (.cells #[.int .i64 0] 3)).alloc (.cells #[.string s] 9)) (w.heap.size + 2) 9 (.string s) := by
    have := Boxed.new ((w.alloc (.cells #[.slice none 0 0] 43)).alloc (.cells #[.int .i64 0] 3)) 9 (.string s)
    simpa using this
  have hb1 : Boxed (((w.alloc (.cells #[.slice none 0 0] 43)).alloc (.cells #[.int .i64 0] 3)).alloc (.cells #[.string s] 9)) (w.heap.size + 1) 3 (.int .i64 0) := by
    have := (Boxed.new (w.alloc (.cells #[.slice none 0 0] 43)) 3 (.int .i64 0)).alloc (.cells #[.string s] 9)
    simpa using this
  have hb0 : Boxed (((w.alloc (.cells #[.slice none 0 0] 43)).alloc (.cells #[.int .i64 0] 3)).alloc (.cells #[.string s] 9)) w.heap.size 43 (.slice none 0 0) :=
    ((Boxed.new w 43 (.slice none 0 0)).alloc _).alloc _
  have h0 : IL w.heap.size w [] (((w.alloc (.cells #[.slice none 0 0] 43)).alloc (.cells #[.int .i64 0] 3)).alloc (.cells #[.string s] 9)) :=
    ⟨[], _, rfl, by simp, by simp, hb0, hb1, World.ownsRow_nil _ _ _ _, hbel, by simp [Value.ownBlock], by simp⟩
  have hsz : (((w.alloc (.cells #[.slice none 0 0] 43)).alloc (.cells #[.int .i64 0] 3)).alloc (.cells #[.string s] 9)).heap.size = w.heap.size + 3 := by simp
  generalize ((w.alloc (.cells #[.slice none 0 0] 43)).alloc (.cells #[.int .i64 0] 3)).alloc (.cells #[.string s] 9) = W0 at *
  refine wpIn_lines n (by omega) (w.heap.size + 2) s (by omega) rfl hbx (IL w.heap.size w) (IxL w.heap.size w) (IL_own w (by omega)) (fun c => IxL_own w (by omega) c) h0
    (fun x => { tmps := #[.string s, undef, .slice none 0 0, .int .i64 0, .pointer (some ⟨w.heap.size, 0, none⟩), .pointer (some ⟨w.heap.size + 1, 0, none⟩), .string (bs x), undef, undef, .string s,
      .func (.func 67) #[] #[.pointer (some ⟨w.heap.size + 1 + 1, 0, none⟩)], .string (bs x), undef, undef, undef, undef, undef, undef, undef, undef, undef, undef, undef, undef, undef, undef, undef, undef, undef, undef, undef], defers := [] }) ?assign ?body ?done ?stop
  case assign =>
    intro l x W K hK
    gi_wp2
    exact hK
  case body =>
    rintro l pre x W ⟨es, v, hpre, hR⟩ hx
    clear h0 hb0 hb1 hbx hbel
    obtain ⟨a, c, rfl, _⟩ := (Sl.of_own hR.row).slice
    have hHR := Lib.hid hR
    have hc0 := hR.b0.cell
    have hc1 := hR.b1.cell
    have hle := hR.le
    have hlen := linesS_len 0 es hR.ok (by omega)
    have HP := Lib.hid hpre
    clear hpre hR
    gi_wp2_with fail
    refine ⟨trivial, fun _ => by omega, ?_⟩
    refine (CallsIn.inRound l (callsIn_wide.2 (decodeRecord_c es.length hle (bs x) _ (by rw [bs_size]; omega) (HT.out.on hHR.out.bel)))).mono ?_
    rintro e W2 ⟨c2, r2, ok, rfl, hcs, hrs, HT1, HF1, hb2⟩
    unfold recV
    have hR2 := (hHR.out.below rfl hb2).below rfl (below_one (.cells #[.string c2, .string r2] 25))
    have HR2 := Lib.hid hR2
    have HB2 := Lib.hid (Below.alc hb2 (.cells #[.string c2, .string r2] 25))
    have hc2 := hR2.b0.cell
    have hf2 := hR2.b0.frozen
    have hd1 := hR2.b1.cell
    have hd2 := hR2.b1.frozen
    clear hR2 hb2 hc0 hc1
    cases ok with
    | false =>
      gi_wp2
      exact ⟨below_keeps HB2.out, rfl, es, _, pre, x, rfl, HP.out, HR2.out, fun hk e he hxe => HF1.out trivial hk e he (by rw [bs_list]; exact hxe)⟩
    | true =>
      obtain ⟨hok, hlt, hln⟩ := HT1.out rfl
      rw [bs_list] at hln
      have HLN := Lib.hid hln
      have HOK := Lib.hid hok
      have hxl := lnS_len hok hlt
      rw [← hln] at hxl
      have HX := Lib.hid (show ((bs x).size : Int) = (x.length : Int) by rw [bs_size])
      clear hln hok
      have hnews : ∀ j u, [Value.string c2, Value.string r2][j]? = some u → ((W2.alloc (.cells #[.string c2, .string r2] 25)).alloc (.cells #[.string c2, .string r2] 25)).cell? ((⟨W2.heap.size + 1, 0, none⟩ : Addr).add j) = some u := by
        have h := news_new (W2.alloc (.cells #[.string c2, .string r2] 25)) [.string c2, .string r2] 25
        rw [show (W2.alloc (.cells #[.string c2, .string r2] 25)).heap.size = W2.heap.size + 1 by simp] at h
        exact h
      have HNW := Lib.hid hnews
      clear hnews
      gi_wp2_with (gi_at_builtin; refine wpListIn_append_own_at _ rfl _ _ 43 rfl w.heap.size 25 i0 (.agg #[.string ⟨#[]⟩, .string ⟨#[]⟩]) 2 32 Tryd.underlying43 hi hz0 hz1 hz2 rfl (by decide) _ _ _ rfl (HR2.out.row.alloc _) ⟨W2.heap.size + 1, 0, none⟩ 1 1 [.string c2, .string r2] rfl rfl HNW.out (by simp [Value.oneCell']) (by unfold maxLen; omega) (by omega) (by have := HR2.out.big; simp at this ⊢; omega) ?_; intro v' w1 hown' hgrow _ hat; obtain ⟨ga, capa, rfl⟩ := ownsRow_succ hown'; obtain ⟨p1, p2, p3⟩ := HR2.out.app rfl c2 r2 HOK.out hlt _ hown' hgrow hat; have hq1 := p1.cell; have hq2 := p1.frozen; have hq3 := p2.cell; have hq4 := p2.frozen; have HP3 := Lib.hid p3; clear p1 p2 p3 hown' hgrow hat)
      have hz : wrap64 ((((linesS 0 es).length : Nat) : Int) + (((bs x).size : Nat) : Int)) = (((linesS 0 (es ++ [(c2.data.toList, r2.data.toList)])).length : Nat) : Int) := by
        rw [linesS_snoc, List.length_append, Nat.zero_add, ← HLN.out, HX.out, IntWalk.wrap64_in _ ⟨by omega, by omega⟩]
        omega
      obtain ⟨k1, k2, k3⟩ := HP3.out _ hz
      have hbig := hHR.out.big
      refine ⟨(below_keeps HB2.out).trans (hsz ▸ k1), k2.trans (HB2.out.block _ (by omega)), _, _, ?_, k3⟩
      rw [List.flatten_append, HP.out, linesS_snoc, Nat.zero_add, ← HLN.out]; simp
  case done =>
    rintro D xs W hD hfl ⟨es, v, hpre, hR⟩ hK
    have hc0 := hR.b0.cell
    have hc1 := hR.b1.cell
    have HR := Lib.hid hR
    have HO : Hid (Opens s.data.toList es []) := by
      have h := Opens.whole hR.ok hR.le
      rw [← hpre, hfl] at h; exact h
    have HK := Lib.hid hK
    clear hR hpre hfl hK h0 hb0 hb1 hbx hbel
    gi_wp2
    gi_region
    gi_wp2
    refine ⟨by simp, .inl ⟨_, _, rfl, run_takeDeferred (show W.drew.heap[D]? = _ from HK.out), ?_⟩⟩
    exact ⟨_, results_tmp2 rfl _ _ _, v, es, [], rfl, ownsRow_putObj (show W.drew.ownsRow _ _ _ _ _ _ from HR.out.row) _ HK.out rfl, HO.out, HR.out.bel.drew.trans (belowK_b (w := w) (Nat.le_refl _) W.drew D _ _ (by omega) HK.out rfl rfl)⟩
  case stop =>
    rintro D cj pre x r W hD hsp hf ⟨rfl, es, v, pre0, x0, hpx, hpre, hR, hno⟩ hK
    have hc0 := hR.b0.cell
    have hc1 := hR.b1.cell
    have HR := Lib.hid hR
    have HO : Hid (Opens s.data.toList es (x ++ r)) := by
      obtain ⟨rfl, e2⟩ := List.append_inj' hpx rfl
      injection e2 with e2
      subst e2
      refine ⟨hR.ok, hR.le, by rw [hsp, hpre], ?_⟩
      by_cases h60 : es.length = 60
      · exact .inl h60
      · right
        intro e hb
        exact hno (by have := hR.le; omega) e hb.1 (hf.begins hb)
    have HK := Lib.hid hK
    clear hR hpre hK h0 hb0 hb1 hbx hbel hpx hsp hf hno
    gi_wp2
    gi_region
    gi_wp2
    refine ⟨by simp, .inl ⟨_, _, rfl, run_takeDeferred (show W.drew.heap[D]? = _ from HK.out), ?_⟩⟩
    exact ⟨_, results_tmp2 rfl _ _ _, v, es, x ++ r, rfl, ownsRow_putObj (show W.drew.ownsRow _ _ _ _ _ _ from HR.out.row) _ HK.out rfl, HO.out, HR.out.bel.drew.trans (belowK_b (w := w) (Nat.le_refl _) W.drew D _ _ (by omega) HK.out rfl rfl)⟩
theorem readLog_c (s : ByteArray) (w : World) (hs : s.size ≤ 1048576) (ht : Tab w) : Calls Tryd.prog 48 #[.string s] w (ReadOut s w) :=
  (callsIn_wide (n := 8)).1 (readLog_in 8 (by omega) s w hs ht)
end Go.Proofs.YtbobiiodbbcodaaDoor
namespace Go.Proofs.YtbobiiodbbcodaaDoor
open Go.RowKit
set_option linter.unusedVariables false
set_option maxRecDepth 100000
theorem Opens.done {s : Bs} {es : List (Bs × Bs)} (h : ∀ e ∈ es, OkE e) (hl : es.length ≤ 60) (he : s = linesS 0 es) : Opens s es [] := by rw [he]; exact Opens.whole h hl
/-- why nothing more is read -/
theorem no_begin {R A : Bs} {n k : Nat} (h : Head 10 R A n) (hno : n < 2 ∨ ∀ e, OkE e → A ++ [10] ≠ lnS k e) (e : Bs × Bs) : ¬ Begins k R e := by
  rintro ⟨he, x, hx⟩
  unfold lnS at hx
  rw [List.append_assoc] at hx
  rcases h with ⟨b, hb, hA, hn⟩ | ⟨h1, _, _⟩
  · obtain ⟨h3, _⟩ := part_inj hA (sealS_no10 he) (hb.symm.trans hx)
    rcases hno with h2 | h2
    · omega
    · exact h2 e he (by rw [h3]; rfl)
  · exact h1 (by rw [hx]; simp)
/-- what is read when a line goes through -/
theorem yes_begin {R A : Bs} {n k : Nat} {e : Bs × Bs} (h : Head 10 R A n) (hn : 2 ≤ n) (hl : A ++ [10] = lnS k e) : ∃ x, R = lnS k e ++ x := by
  rcases h with ⟨b, hb, hA, _⟩ | ⟨_, _, h1⟩
  · exact ⟨b, by rw [← hl, hb]; simp⟩
  · omega
def OpenOut (s : ByteArray) (w : World) (e : Ending) (w' : World) : Prop :=
  ∃ v es rest, e = .returned (.tuple #[v, .int .i64 (((linesS 0 es).length : Nat) : Int)]) ∧ w'.ownsRow w.heap.size 25 2 v es.length (flatR es) ∧ Opens s.data.toList es rest ∧ Below w.heap.size w w'
set_option maxHeartbeats 4000000 in
theorem l12Open_c (s : ByteArray) (w : World) (hs : s.size ≤ 1048576) : Calls Tryd.prog 45 #[.string s] w (OpenOut s w) := by
  obtain ⟨i0, hi, hz0, hz1, hz2⟩ := info_parts info_LogRecord
  have ho0 := World.ownsRow_lit (e := 25) (size := 2) (base := w.heap.size) w #[] 0 (by simp) (by decide) rfl
  go_enter Tryd.func45, Tryd.ntmps45
  go_wp2
  go_loopw [4, 5] (fun out at_ wr => ∃ es : List (Bs × Bs), at_ = .int .i64 (((linesS 0 es).length : Nat) : Int) ∧ (∀ e ∈ es, OkE e) ∧ es.length ≤ 60 ∧ Hid (∃ rest, s.data.toList = linesS 0 es ++ rest) ∧ wr.ownsRow w.heap.size 25 2 out es.length (flatR es) ∧ Below w.heap.size w wr) (fun _ at_ _ => s.size - (intOf at_).toNat)
  case atStart => exact ⟨[], rfl, by simp, by simp, ⟨_, rfl⟩, by simpa [flatR] using ho0, below_one _⟩
  case round =>
    obtain ⟨es, rfl, hok, hle, hrest, ho, hB⟩ := hrel
    clear ho0
    have hLlen := linesS_len 0 es hok (by omega)
    obtain ⟨a, c, rfl, _⟩ := (Sl.of_own ho).slice
    have hLs : (linesS 0 es).length ≤ s.size := by obtain ⟨rest, h⟩ := hrest.out; rw [← ba_len, h]; simp
    have HEX : Hid (∃ rest, s.data.toList = linesS 0 es ++ rest ∧ (s.extract (linesS 0 es).length s.size).data.toList = rest) := by
      obtain ⟨rest, h⟩ := hrest.out
      exact ⟨rest, h, by rw [Lib.extract_to_end, h]; simp⟩
    have HOK := Lib.hid hok
    have HO := Lib.hid ho
    have HB := Lib.hid hB
    clear hok hrest ho hB
    by_cases hlt : (linesS 0 es).length < s.size
    · have hd : decide ((((linesS 0 es).length : Nat) : Int) < (s.size : Int)) = true := by simp; omega
      by_cases h60 : es.length < 60
      · have hd2 : decide ((es.length : Int) < 60) = true := by simp; omega
        generalize hL : (linesS 0 es).length = L at *
        have HLn := Lib.hid hL
        clear hL
        have hp0 : (0 : Int) ≤ (L : Int) := by omega
        have hp1 : (L : Int) ≤ (s.size : Int) := by omega
        have hRsz : (s.extract L s.size).size ≤ s.size := by rw [← ba_len, Lib.extract_to_end, List.length_drop, ba_len]; omega
        go_wp2_with fail
        refine (l1SplitH_c _ 10 _ (by omega)).mono ?_
        rintro e w2 ⟨g, n, cap, A, rfl, hg0, hn1, hm1, hq, hA, HH, hb2⟩
        generalize s.extract L s.size = R at *
        have hT : (bs A).size = A.length := bs_size A
        have HTL := Lib.hid (bs_list A)
        have hTs : (bs A).size ≤ s.size := by omega
        generalize bs A = T at *
        have HTn := Lib.hid hT
        have HO2 := Lib.hid (own_keep HO.out hb2)
        have HLT : Hid (∀ k, (Value.slice a es.length c).ownBlock = some k → k < wr.heap.size) := fun k hk => (HO.out.lt k hk).2
        have HB2 := Lib.hid (Below.chain HB.out hb2)
        clear hT hb2 HO HB
        go_wp2_with fail
        refine (l12Decode_c es.length hle T _ (by omega)).mono ?_
        rintro e w3 ⟨c2, r2, ok, rfl, hcs, hrs, HT1, HF1, hb3⟩
        unfold recV
        have hq3 := cell_later hb3 hq
        have HO3 := Lib.hid (own_keep HO2.out hb3)
        have HB3 := Lib.hid (Below.chain HB2.out hb3)
        have hw3 : w.heap.size ≤ w3.heap.size := HB3.out.size
        clear hb3 HO2 HB2 hq
        have STOP : Hid ((n < 2 ∨ ∀ e, OkE e → A ++ [10] ≠ lnS es.length e) → ∃ rest, Opens s.data.toList es rest) := fun hno => by
          obtain ⟨rest, h, h2⟩ := HEX.out
          exact ⟨rest, HOK.out, hle, h, .inr fun e => no_begin (by rw [← h2]; exact HH.out) hno e⟩
        by_cases hn2 : n < 2
        · have hdn : decide ((n : Int) < 2) = true := by simp; omega
          have HOp := Lib.hid (STOP.out (.inl hn2))
          clear STOP
          go_wp2
          go_ret2
          obtain ⟨rest, h⟩ := HOp.out
          exact ⟨_, es, rest, by rw [HLn.out]; rfl, HO3.out.alloc _, h, Below.alc HB3.out _⟩
        · have hdn : decide ((n : Int) < 2) = false := by simp; omega
          cases ok with
          | false =>
            have HOp := Lib.hid (STOP.out (.inr (fun e he => by have := HF1.out rfl e he; rwa [HTL.out] at this)))
            clear STOP
            go_wp2
            go_ret2
            obtain ⟨rest, h⟩ := HOp.out
            exact ⟨_, es, rest, by rw [HLn.out]; rfl, HO3.out.alloc _, h, Below.alc HB3.out _⟩
          | true =>
            clear STOP
            obtain ⟨hok2, hln⟩ := HT1.out rfl
            have HOK2 := Lib.hid hok2
            have HLN := Lib.hid hln
            have hlen2 := lnS_len hok2 h60
            rw [← hln] at hlen2
            have hTT : T.size + 1 ≤ 454 := by rw [List.length_append, ba_len] at hlen2; exact hlen2
            clear hok2 hln hlen2
            have hnews : ∀ j u, [Value.string c2, Value.string r2][j]? = some u → ((w3.alloc (.cells #[.string c2, .string r2] 25)).alloc (.cells #[.string c2, .string r2] 25)).cell? ((⟨w3.heap.size + 1, 0, none⟩ : Addr).add j) = some u := by
              have h := news_new (w3.alloc (.cells #[.string c2, .string r2] 25)) [.string c2, .string r2] 25
              rw [show (w3.alloc (.cells #[.string c2, .string r2] 25)).heap.size = w3.heap.size + 1 by simp] at h
              exact h
            have HNW := Lib.hid hnews
            clear hnews
            go_wp2_with (at_builtin; refine wpList_append_own_at _ rfl _ _ 43 rfl w.heap.size 25 i0 (.agg #[.string ⟨#[]⟩, .string ⟨#[]⟩]) 2 32 Tryd.underlying43 hi hz0 hz1 hz2 rfl (by decide) _ es.length (flatR es) rfl ((HO3.out.alloc _).alloc _) ⟨w3.heap.size + 1, 0, none⟩ 1 1 [.string c2, .string r2] rfl rfl HNW.out (by simp [Value.oneCell']) (by unfold maxLen; omega) (by omega) (by simp; omega) ?_; intro v' w5 ho5 hg5 _ hat; have hq5 : w5.cell? ⟨g, 0, none⟩ = some (.string T) := hg5.cell (cell_later (below_one _) (cell_later (below_one _) hq3)) (fun e => by have := HLT.out g e.symm; omega))
            have hb7 : Below w.heap.size w w5 := (Below.alc (Below.alc HB3.out _) _).grown hg5 (by simp; omega) (fun k hk => (HO3.out.lt k hk).1)
            obtain ⟨rest, hr1, hr2⟩ := HEX.out
            obtain ⟨x, hx⟩ := yes_begin (R := R.data.toList) HH.out (by omega) (by rw [← HTL.out]; exact HLN.out)
            have hlnl : (lnS es.length (c2.data.toList, r2.data.toList)).length = T.size + 1 := by rw [← HLN.out, List.length_append, ba_len]; rfl
            have hst : (linesS 0 (es ++ [(c2.data.toList, r2.data.toList)])).length = L + (T.size + 1) := by
              rw [linesS_snoc, List.length_append, Nat.zero_add, hlnl, HLn.out]
            constructor
            · refine ⟨es ++ [(c2.data.toList, r2.data.toList)], ?_, ?_, by simp; omega, ⟨x, ?_⟩, ?_, hb7⟩
              · rw [hst]; go_num
              · intro e he
                simp only [List.mem_append, List.mem_singleton] at he
                rcases he with he | rfl
                · exact HOK.out e he
                · exact HOK2.out
              · rw [linesS_snoc, Nat.zero_add, List.append_assoc, ← hx, hr2, hr1]
              · rw [flatR_snoc, List.length_append, bs_of, bs_of]; exact ho5
            · simp [intOf]; omega
      · have hd2 : decide ((es.length : Int) < 60) = false := by simp; omega
        have HOp : Hid (∃ rest, Opens s.data.toList es rest) := by
          obtain ⟨rest, h, _⟩ := HEX.out
          exact ⟨rest, HOK.out, hle, h, .inl (by omega)⟩
        go_wp2
        go_ret2
        obtain ⟨rest, h⟩ := HOp.out
        exact ⟨_, es, rest, rfl, HO.out, h, HB.out⟩
    · have hd : decide ((((linesS 0 es).length : Nat) : Int) < (s.size : Int)) = false := by simp; omega
      have HOp : Hid (Opens s.data.toList es []) := by
        obtain ⟨rest, h, _⟩ := HEX.out
        have h2 := congrArg List.length h
        rw [ba_len, List.length_append] at h2
        have h3 : rest = [] := List.eq_nil_of_length_eq_zero (by omega)
        rw [h3, List.append_nil] at h
        exact Opens.done HOK.out hle h
      go_wp2
      go_ret2
      exact ⟨_, es, [], rfl, HO.out, HOp.out, HB.out⟩
end Go.Proofs.YtbobiiodbbcodaaDoor
namespace Go.Proofs.YtbobiiodbbcodaaDoor
open Go.RowKit
set_option linter.unusedVariables false
set_option linter.unusedSimpArgs false
set_option maxRecDepth 100000
structure ValidL (d p : Bs) (n : Int) (es : List (Bs × Bs)) : Prop where
  sz : (d ++ p).length ≤ 30000
  ok : ∀ e ∈ es, OkE e
  le : es.length ≤ 60
  eq : d ++ p = linesS 0 es
  fin : d = [] ∨ ∃ t, d = t ++ [10]
  cnt : n = (es.length : Int)
theorem ValidL.opens {d p : Bs} {n : Int} {es : List (Bs × Bs)} (h : ValidL d p n es) : Opens (d ++ p) es [] := Opens.done h.ok h.le h.eq
theorem ValidL.uniq {d p : Bs} {n n' : Int} {es es' : List (Bs × Bs)} (h : ValidL d p n es) (h' : ValidL d p n' es') : es = es' := (h.opens.uniq h'.opens).1
/-- what makes a log valid, said of what was read -/
theorem valid_of {d p : Bs} {n : Int} {es : List (Bs × Bs)} {rest : Bs} (ho : Opens (d ++ p) es rest) (h1 : (d ++ p).length ≤ 30000) (h2 : (linesS 0 es).length = (d ++ p).length) (h3 : n = (es.length : Int)) (h4 : d = [] ∨ ∃ t, d = t ++ [10]) : ValidL d p n es := by
  refine ⟨h1, ho.ok, ho.le, ?_, h4, h3⟩
  have h := ho.eq
  have hr : rest = [] := List.eq_nil_of_length_eq_zero (by have h5 := h2; rw [h, List.length_append] at h5; omega)
  rw [hr, List.append_nil] at h; exact h
theorem valid_to {d p : Bs} {n : Int} {es es' : List (Bs × Bs)} {rest : Bs} (ho : Opens (d ++ p) es rest) (h : ValidL d p n es') : (linesS 0 es).length = (d ++ p).length ∧ n = (es.length : Int) := by
  obtain ⟨rfl, rfl⟩ := ho.uniq h.opens
  exact ⟨by rw [← h.eq], h.cnt⟩
theorem kept_iff {d p : Bs} {es es2 : List (Bs × Bs)} {rest2 : Bs} (hok : ∀ e ∈ es, OkE e) (hle : es.length ≤ 60) (heq : d ++ p = linesS 0 es) (ho2 : Opens d es2 rest2) : (linesS 0 es2).length = d.length ↔ (d = [] ∨ ∃ t, d = t ++ [10]) := by
  constructor
  · intro h
    have h2 := ho2.eq
    have hr : rest2 = [] := List.eq_nil_of_length_eq_zero (by have := congrArg List.length h2; rw [List.length_append] at this; omega)
    rw [hr, List.append_nil] at h2
    rw [h2]; exact linesS_end 0 es2
  · intro h
    obtain ⟨i, hi, hd⟩ := cut_lines hok heq h
    have := Opens.done (s := d) (es := es.take i) (fun e he => hok e (List.mem_of_mem_take he)) (by rw [List.length_take]; omega) hd
    rw [(ho2.uniq this).1, ← hd]
def logV (d p : ByteArray) (n : Int) : Value := .agg #[.string d, .string p, .int .i64 n]
def RecOut (d p : ByteArray) (n : Int) (w : World) (e : Ending) (w' : World) : Prop :=
  ∃ v es ok, e = .returned (.tuple #[v, .bool ok]) ∧ w'.ownsRow w.heap.size 25 2 v es.length (flatR es) ∧
    Hid (ok = true → ValidL d.data.toList p.data.toList n es) ∧ Hid (ok = false → ∀ es', ¬ ValidL d.data.toList p.data.toList n es') ∧ Below w.heap.size w w'
theorem app_list (d p : ByteArray) : (d ++ p).data.toList = d.data.toList ++ p.data.toList := by simp
theorem app_size (d p : ByteArray) : (d ++ p).size = d.size + p.size := by simp [ByteArray.size_append]
theorem HasSuffix_c (s : ByteArray) (w : World) (hs : s.size ≤ 1073741824) : Calls Tryd.prog 58 #[.string s, .string ⟨#[10]⟩] w fun e w' => e = .returned (.bool (Lib.hasSuffix s.data.toList [10])) ∧ w = w' :=
  (Tryd.strings_HasSuffix s ⟨#[10]⟩ w (by omega)).mono fun e w' h => ⟨h.1, h.2.symm⟩
set_option maxHeartbeats 4000000 in
theorem records_c (d p : ByteArray) (n : Int) (w : World) (hd : d.size ≤ 1048576) (hp : p.size ≤ 1048576) (ht : Tab w) : Calls Tryd.prog 44 #[logV d p n] w (RecOut d p n w) := by
  unfold logV
  have hb0 := Lib.hid (below_one (w := w) (.cells #[.string d, .string p, .int .i64 n] 33))
  have HT := Lib.hid ht
  clear ht
  by_cases hbig : 30000 < d.size + p.size
  · have ht1 : decide ((30000 : Int) < (d.size : Int) + (p.size : Int)) = true := by simp; omega
    have HF : Hid (∀ es', ¬ ValidL d.data.toList p.data.toList n es') := fun es' h => by
      have := h.sz
      rw [List.length_append, ba_len, ba_len] at this; omega
    go_enter Tryd.func44, Tryd.ntmps44
    go_wp2
    go_ret2
    exact ⟨_, [], false, rfl, World.ownsRow_nil _ _ _ _, (fun h => by cases h), (fun _ => HF.out), hb0.out⟩
  · have ht1 : decide ((30000 : Int) < (d.size : Int) + (p.size : Int)) = false := by simp; omega
    have hAL := Lib.hid (app_list d p)
    have hAS := Lib.hid (app_size d p)
    have HRL := Lib.hid (fun w => readLog_c (d ++ p) w (by rw [app_size]; omega))
    have hB0 := Lib.hid (Bk.new w 33 #[.string d, .string p, .int .i64 n])
    go_enter Tryd.func44, Tryd.ntmps44
    go_wp2_with fail
    refine (HRL.out _ (HT.out.on hb0.out)).mono ?_
    rintro e w2 ⟨v, es, rest, rfl, ho, hopn, hb2⟩
    rw [hAL.out] at hopn
    generalize d ++ p = all at *
    have hall : all.size ≤ 2097152 := by have := hAS.out; omega
    obtain ⟨a, c, rfl, _⟩ := (Sl.of_own ho).slice
    have B2 := hB0.out.below hb2
    have q0 : w2.cell? ⟨w.heap.size, 0, none⟩ = some (.string d) := B2.cell 0
    have q2 : w2.cell? ⟨w.heap.size, 2, none⟩ = some (.int .i64 n) := B2.cell 2
    have HO := Lib.hid (own_lo (lo' := w.heap.size) ho (by simp))
    have HOp := Lib.hid hopn
    have HB := Lib.hid (Below.chain hb0.out hb2)
    have hlen := linesS_len 0 es hopn.ok (by have := hopn.le; omega)
    have hle := hopn.le
    clear ho hopn hb2 B2 hB0 HRL
    have NO : Hid (((linesS 0 es).length ≠ all.size ∨ n ≠ (es.length : Int) ∨ ¬ (d.data.toList = [] ∨ ∃ t, d.data.toList = t ++ [10])) → RecOut d p n w (.returned (.tuple #[.slice a es.length c, .bool false])) w2) := fun h =>
      ⟨_, es, false, rfl, HO.out, (fun h => by cases h), (fun _ es' hv => by
        obtain ⟨h1, h2⟩ := valid_to HOp.out hv
        rw [List.length_append, ba_len, ba_len, ← hAS.out] at h1
        rcases h with h | h | h
        · exact h h1
        · exact h h2
        · exact h hv.fin), HB.out⟩
    generalize hL : (linesS 0 es).length = L at *
    have HL := Lib.hid hL
    clear hL
    by_cases h1 : L = all.size
    · have t1 : ((L : Int) == (all.size : Int)) = true := by rw [h1]; simp
      by_cases h2 : n = (es.length : Int)
      · have t2 : (n == (es.length : Int)) = true := by rw [h2]; simp
        have YES : Hid ((d.data.toList = [] ∨ ∃ t, d.data.toList = t ++ [10]) → RecOut d p n w (.returned (.tuple #[.slice a es.length c, .bool true])) w2) := fun h =>
          ⟨_, es, true, rfl, HO.out, (fun _ => valid_of HOp.out (by rw [List.length_append, ba_len, ba_len]; omega) (by rw [HL.out, List.length_append, ba_len, ba_len, ← hAS.out, h1]) h2 h), (fun h => by cases h), HB.out⟩
        have H2 := Lib.hid h2
        have H1 := Lib.hid h1
        clear h1 h2
        by_cases h3 : d.size = 0
        · have t3 : d.toList.isEmpty = true := by rw [empty_size]; simp [h3]
          have Y := Lib.hid (YES.out (.inl (List.eq_nil_of_length_eq_zero (by rw [ba_len]; exact h3))))
          clear h3 YES NO
          go_wp2
          go_ret2
          exact Y.out
        · have t3 : d.toList.isEmpty = false := by rw [empty_size]; simp [h3]
          have HS := Lib.hid (HasSuffix_c d)
          have hne : d.data.toList ≠ [] := fun h => h3 (by rw [← ba_len, h]; rfl)
          rcases hsf : Lib.hasSuffix d.data.toList [10] with _ | _
          · have N := Lib.hid (NO.out (.inr (.inr (fun h => by
              rcases h with h | h
              · exact hne h
              · rw [(suffix_iff _).2 h] at hsf; cases hsf))))
            have HSF := Lib.hid hsf
            clear hsf NO YES hne
            go_wp2_with fail
            refine (HS.out _ (by omega)).mono ?_
            rintro e w3 ⟨rfl, rfl⟩
            rw [HSF.out]
            go_wp2
            go_ret2
            exact N.out
          · have Y := Lib.hid (YES.out (.inr ((suffix_iff _).1 hsf)))
            have HSF := Lib.hid hsf
            clear hsf NO YES hne
            go_wp2_with fail
            refine (HS.out _ (by omega)).mono ?_
            rintro e w3 ⟨rfl, rfl⟩
            rw [HSF.out]
            go_wp2
            go_ret2
            exact Y.out
      · have t2 : (n == (es.length : Int)) = false := by simp [h2]
        have N := Lib.hid (NO.out (.inr (.inl h2)))
        clear h2 h1 NO
        go_wp2
        go_ret2
        exact N.out
    · have t1 : ((L : Int) == (all.size : Int)) = false := by simp; omega
      have N := Lib.hid (NO.out (.inl h1))
      clear h1 NO
      go_wp2
      go_ret2
      exact N.out
def ValOut (d p : ByteArray) (n : Int) (w : World) (e : Ending) (w' : World) : Prop :=
  ∃ ok, e = .returned (.bool ok) ∧ (ok = true ↔ ∃ es, ValidL d.data.toList p.data.toList n es) ∧ Below w.heap.size w w'
theorem valOut_no {d p : ByteArray} {n : Int} {w w' : World} (h : ¬ ∃ es, ValidL d.data.toList p.data.toList n es) (hb : Below w.heap.size w w') : ValOut d p n w (.returned (.bool false)) w' :=
  ⟨false, rfl, ⟨(fun h => by cases h), fun h2 => absurd h2 h⟩, hb⟩
theorem valOut_yes {d p : ByteArray} {n : Int} {w w' : World} (h : ∃ es, ValidL d.data.toList p.data.toList n es) (hb : Below w.heap.size w w') : ValOut d p n w (.returned (.bool true)) w' :=
  ⟨true, rfl, ⟨fun _ => h, fun _ => rfl⟩, hb⟩
set_option maxHeartbeats 4000000 in
theorem l12Valid_c (d p : ByteArray) (n : Int) (w : World) (hd : d.size ≤ 1048576) (hp : p.size ≤ 1048576) : Calls Tryd.prog 41 #[logV d p n] w (ValOut d p n w) := by
  unfold logV
  have hb0 := Lib.hid (below_one (w := w) (.cells #[.string d, .string p, .int .i64 n] 33))
  by_cases hbig : 30000 < d.size + p.size
  · have ht1 : decide ((30000 : Int) < (d.size : Int) + (p.size : Int)) = true := by simp; omega
    have HF : Hid (¬ ∃ es', ValidL d.data.toList p.data.toList n es') := fun ⟨es', h⟩ => by
      have := h.sz
      rw [List.length_append, ba_len, ba_len] at this; omega
    go_enter Tryd.func41, Tryd.ntmps41
    go_wp2
    go_ret
    exact valOut_no HF.out hb0.out
  · have ht1 : decide ((30000 : Int) < (d.size : Int) + (p.size : Int)) = false := by simp; omega
    have hAL := Lib.hid (app_list d p)
    have hAS := Lib.hid (app_size d p)
    have HRL := Lib.hid (fun w => l12Open_c (d ++ p) w (by rw [app_size]; omega))
    have HRD := Lib.hid (fun w => l12Open_c d w hd)
    have hB0 := Lib.hid (Bk.new w 33 #[.string d, .string p, .int .i64 n])
    go_enter Tryd.func41, Tryd.ntmps41
    go_wp2_with fail
    refine (HRL.out _).mono ?_
    rintro e w2 ⟨v, es, rest, rfl, ho, hopn, hb2⟩
    rw [hAL.out] at hopn
    generalize d ++ p = all at *
    obtain ⟨a, c, rfl, _⟩ := (Sl.of_own ho).slice
    have B2 := Lib.hid (hB0.out.below hb2)
    have q0 : w2.cell? ⟨w.heap.size, 0, none⟩ = some (.string d) := B2.out.cell 0
    have q1 : w2.cell? ⟨w.heap.size, 1, none⟩ = some (.string p) := B2.out.cell 1
    have q2 : w2.cell? ⟨w.heap.size, 2, none⟩ = some (.int .i64 n) := B2.out.cell 2
    have HOp := Lib.hid hopn
    have HB := Lib.hid (Below.chain hb0.out hb2)
    have hlen := linesS_len 0 es hopn.ok (by have := hopn.le; omega)
    have hle := hopn.le
    clear ho hopn hb2 hB0 HRL
    go_wp2_with fail
    refine (HRD.out _).mono ?_
    rintro e w3 ⟨v2, es2, rest2, rfl, _, hopn2, hb2⟩
    have r0 := cell_later hb2 q0
    have r1 := cell_later hb2 q1
    have r2 := cell_later hb2 q2
    have HOp2 := Lib.hid hopn2
    have HB3 := Lib.hid (Below.chain HB.out hb2)
    clear q0 q1 q2 hb2 hopn2 HB B2 HRD
    have HV : Hid ((∃ es', ValidL d.data.toList p.data.toList n es') ↔ ((linesS 0 es).length = d.size + p.size ∧ (linesS 0 es2).length = d.size ∧ n = (es.length : Int))) := by
      have e1 : (d.data.toList ++ p.data.toList).length = d.size + p.size := by rw [List.length_append, ba_len, ba_len]
      constructor
      · rintro ⟨es', hv⟩
        obtain ⟨h1, h2⟩ := valid_to HOp.out hv
        obtain ⟨rfl, hr⟩ := HOp.out.uniq hv.opens
        have h3 := (kept_iff hv.ok hv.le hv.eq HOp2.out).2 hv.fin
        rw [ba_len] at h3
        exact ⟨by rw [h1, e1], h3, h2⟩
      · rintro ⟨h1, h2, h3⟩
        have hrest : rest = [] := List.eq_nil_of_length_eq_zero (by
          have h := congrArg List.length HOp.out.eq
          rw [e1, List.length_append] at h; omega)
        have heq := HOp.out.eq
        rw [hrest, List.append_nil] at heq
        exact ⟨es, valid_of HOp.out (by rw [e1]; omega) (by rw [e1]; exact h1) h3 ((kept_iff HOp.out.ok HOp.out.le heq HOp2.out).1 (by rw [ba_len]; exact h2))⟩
    generalize (linesS 0 es).length = L at *
    generalize (linesS 0 es2).length = L2 at *
    by_cases h1 : L = d.size + p.size
    · have t1 : ((L : Int) == (d.size : Int) + (p.size : Int)) = true := by rw [h1]; simp
      by_cases h2 : L2 = d.size
      · have t2 : ((L2 : Int) == (d.size : Int)) = true := by rw [h2]; simp
        by_cases h3 : n = (es.length : Int)
        · have t3 : ((es.length : Int) == n) = true := by rw [h3]; simp
          have Y := Lib.hid (valOut_yes (w := w) (w' := w3) (HV.out.2 ⟨h1, h2, h3⟩) HB3.out)
          clear h1 h2 h3 HV
          go_wp2
          go_ret
          exact Y.out
        · have t3 : ((es.length : Int) == n) = false := by simp; omega
          have N := Lib.hid (valOut_no (w := w) (w' := w3) (fun h => h3 (HV.out.1 h).2.2) HB3.out)
          clear h1 h2 h3 HV
          go_wp2
          go_ret
          exact N.out
      · have t2 : ((L2 : Int) == (d.size : Int)) = false := by simp; omega
        have N := Lib.hid (valOut_no (w := w) (w' := w3) (fun h => h2 (HV.out.1 h).2.1) HB3.out)
        clear h1 h2 HV
        go_wp2
        go_ret
        exact N.out
    · have t1 : ((L : Int) == (d.size : Int) + (p.size : Int)) = false := by simp; omega
      have N := Lib.hid (valOut_no (w := w) (w' := w3) (fun h => h1 (HV.out.1 h).1) HB3.out)
      clear h1 HV
      go_wp2
      go_ret
      exact N.out
theorem IsValidLog_c (d p : ByteArray) (n : Int) (w : World) (hd : d.size ≤ 1048576) (hp : p.size ≤ 1048576) (ht : Tab w) : Calls Tryd.prog 17 #[logV d p n] w (ValOut d p n w) := by
  have HR := Lib.hid (fun w => records_c d p n w hd hp)
  unfold logV at *
  have hb0 := Lib.hid (below_one (w := w) (.cells #[.string d, .string p, .int .i64 n] 33))
  have HT := Lib.hid ht
  clear ht
  go_enter Tryd.func17, Tryd.ntmps17
  go_wp2_with fail
  refine (HR.out _ (HT.out.on hb0.out)).mono ?_
  rintro e w2 ⟨v, es, ok, rfl, ho, H1, H2, hb2⟩
  have hB := Lib.hid (Below.chain hb0.out hb2)
  clear hb2 ho
  go_wp2
  go_ret
  refine ⟨ok, rfl, ⟨fun h => ⟨es, H1.out h⟩, fun ⟨es', h⟩ => ?_⟩, hB.out⟩
  cases ok with
  | true => rfl
  | false => exact absurd h (H2.out rfl es')
theorem IsValidLogS_c (d p : ByteArray) (n : Int) (w : World) (hd : d.size ≤ 1048576) (hp : p.size ≤ 1048576) : Calls Tryd.prog 18 #[logV d p n] w (ValOut d p n w) := by
  have HR := Lib.hid (fun w => l12Valid_c d p n w hd hp)
  unfold logV at *
  have hb0 := Lib.hid (below_one (w := w) (.cells #[.string d, .string p, .int .i64 n] 33))
  go_enter Tryd.func18, Tryd.ntmps18
  go_wp2_with fail
  refine (HR.out _).mono ?_
  rintro e w2 ⟨ok, rfl, H1, hb2⟩
  have hB := Lib.hid (Below.chain hb0.out hb2)
  have HH := Lib.hid H1
  clear hb2 H1
  go_wp2
  go_ret
  exact ⟨ok, rfl, HH.out, hB.out⟩
end Go.Proofs.YtbobiiodbbcodaaDoor
namespace Go.Proofs.YtbobiiodbbcodaaDoor
open Go.RowKit
set_option linter.unusedVariables false
set_option linter.unusedSimpArgs false
set_option maxRecDepth 100000
def szL (d p : ByteArray) (k : Int) : Int := if k - d.size < 0 then -1 else if k - d.size - p.size < 0 then -1 else k - d.size - p.size
theorem szL_le {d p : ByteArray} (hs : ¬ szL d p 1048576 < 0) : d.size ≤ 1048576 ∧ p.size ≤ 1048576 := by
  unfold szL at hs; split at hs
  · omega
  · split at hs <;> omega
theorem szL_bd (d p : ByteArray) (k : Int) (hk : k ≤ 1048576) : -1 ≤ szL d p k ∧ szL d p k ≤ 1048576 := by
  unfold szL; split
  · omega
  · split <;> omega
/-- what SyncLog answers -/
def syncV (ok : Bool) (d p : ByteArray) (n : Int) : Value := if ok then logV (d ++ p) ⟨#[]⟩ n else logV ⟨#[]⟩ ⟨#[]⟩ 0
def SyncOut (d p : ByteArray) (n : Int) (w : World) (e : Ending) (w' : World) : Prop :=
  ∃ ok, e = .returned (.tuple #[syncV ok d p n, .bool ok]) ∧ (ok = true ↔ ∃ es, ValidL d.data.toList p.data.toList n es) ∧ Below w.heap.size w w'
set_option maxHeartbeats 1000000 in
theorem SyncLog_c (d p : ByteArray) (n : Int) (w : World) (hd : d.size ≤ 1048576) (hp : p.size ≤ 1048576) (ht : Tab w) : Calls Tryd.prog 19 #[logV d p n] w (SyncOut d p n w) := by
  have HR := Lib.hid (fun w => IsValidLog_c d p n w hd hp)
  unfold logV at *
  have hb0 := Lib.hid (Below.alc (below_one (w := w) (.cells #[.string d, .string p, .int .i64 n] 33)) (.cells #[.string ⟨#[]⟩, .string ⟨#[]⟩, .int .i64 0] 33))
  have B0 := Lib.hid ((Bk.new w 33 #[.string d, .string p, .int .i64 n]).alloc (.cells #[.string ⟨#[]⟩, .string ⟨#[]⟩, .int .i64 0] 33))
  have C0 := Bk.new (w.alloc (.cells #[.string d, .string p, .int .i64 n] 33)) 33 #[.string ⟨#[]⟩, .string ⟨#[]⟩, .int .i64 0]
  rw [show (w.alloc (.cells #[.string d, .string p, .int .i64 n] 33)).heap.size = w.heap.size + 1 by simp] at C0
  have HC := Lib.hid C0
  have HT := Lib.hid ht
  clear ht C0
  go_enter Tryd.func19, Tryd.ntmps19
  go_wp2_with fail
  refine (HR.out _ (HT.out.on hb0.out)).mono ?_
  rintro e w2 ⟨ok, rfl, hiff, hb2⟩
  have B2 := B0.out.below hb2
  have C2 := HC.out.below hb2
  have hB := Lib.hid (Below.chain hb0.out hb2)
  have q0 : w2.cell? ⟨w.heap.size, 0, none⟩ = some (.string d) := B2.cell 0
  have q1 : w2.cell? ⟨w.heap.size, 1, none⟩ = some (.string p) := B2.cell 1
  have q2 : w2.cell? ⟨w.heap.size, 2, none⟩ = some (.int .i64 n) := B2.cell 2
  have z0 : w2.cell? ⟨w.heap.size + 1, 0, none⟩ = some (.string ⟨#[]⟩) := C2.cell 0
  have z1 : w2.cell? ⟨w.heap.size + 1, 1, none⟩ = some (.string ⟨#[]⟩) := C2.cell 1
  have z2 : w2.cell? ⟨w.heap.size + 1, 2, none⟩ = some (.int .i64 0) := C2.cell 2
  have f0 : w2.frozen? ⟨w.heap.size + 1, 0, none⟩ = false := C2.frozen 0
  have f1 : w2.frozen? ⟨w.heap.size + 1, 1, none⟩ = false := C2.frozen 1
  have f2 : w2.frozen? ⟨w.heap.size + 1, 2, none⟩ = false := C2.frozen 2
  have FIN : Hid (∀ w', Below w.heap.size w w' → SyncOut d p n w (.returned (.tuple #[syncV ok d p n, .bool ok])) w') := fun w' hb => ⟨ok, rfl, hiff, hb⟩
  clear hb2 B2 C2 hiff
  cases ok with
  | false =>
    go_wp2
    exact bodyPost_ret (v := .tuple #[.agg #[.string ⟨#[]⟩, .string ⟨#[]⟩, .int .i64 0], .bool false]) (by simp [results, Tryd.results19, go_sem, z0, z1, z2]) rfl (FIN.out _ (by have hb := hB.out; exact ((hb.setCell (p := ⟨w.heap.size + 1, 0, none⟩) (Nat.le_succ _) _).setCell (p := ⟨w.heap.size + 1, 1, none⟩) (Nat.le_succ _) _).setCell (p := ⟨w.heap.size + 1, 2, none⟩) (Nat.le_succ _) _))
  | true =>
    go_wp2
    exact bodyPost_ret (v := .tuple #[.agg #[.string (d ++ p), .string ⟨#[]⟩, .int .i64 n], .bool true]) (by simp [results, Tryd.results19, go_sem, z0, z1, z2]) rfl (FIN.out _ (by have hb := hB.out; exact ((hb.setCell (p := ⟨w.heap.size + 1, 0, none⟩) (Nat.le_succ _) _).setCell (p := ⟨w.heap.size + 1, 1, none⟩) (Nat.le_succ _) _).setCell (p := ⟨w.heap.size + 1, 2, none⟩) (Nat.le_succ _) _))
set_option maxHeartbeats 1000000 in
theorem SyncLogS_c (d p : ByteArray) (n : Int) (w : World) (hd : d.size ≤ 1048576) (hp : p.size ≤ 1048576) : Calls Tryd.prog 20 #[logV d p n] w (SyncOut d p n w) := by
  have HR := Lib.hid (fun w => l12Valid_c d p n w hd hp)
  unfold logV at *
  have hb0 := Lib.hid (Below.alc (below_one (w := w) (.cells #[.string d, .string p, .int .i64 n] 33)) (.cells #[.string ⟨#[]⟩, .string ⟨#[]⟩, .int .i64 0] 33))
  have B0 := Lib.hid ((Bk.new w 33 #[.string d, .string p, .int .i64 n]).alloc (.cells #[.string ⟨#[]⟩, .string ⟨#[]⟩, .int .i64 0] 33))
  have C0 := Bk.new (w.alloc (.cells #[.string d, .string p, .int .i64 n] 33)) 33 #[.string ⟨#[]⟩, .string ⟨#[]⟩, .int .i64 0]
  rw [show (w.alloc (.cells #[.string d, .string p, .int .i64 n] 33)).heap.size = w.heap.size + 1 by simp] at C0
  have HC := Lib.hid C0
  clear C0
  go_enter Tryd.func20, Tryd.ntmps20
  go_wp2_with fail
  refine (HR.out _).mono ?_
  rintro e w2 ⟨ok, rfl, hiff, hb2⟩
  have B2 := B0.out.below hb2
  have C2 := HC.out.below hb2
  have hB := Lib.hid (Below.chain hb0.out hb2)
  have q0 : w2.cell? ⟨w.heap.size, 0, none⟩ = some (.string d) := B2.cell 0
  have q1 : w2.cell? ⟨w.heap.size, 1, none⟩ = some (.string p) := B2.cell 1
  have q2 : w2.cell? ⟨w.heap.size, 2, none⟩ = some (.int .i64 n) := B2.cell 2
  have z0 : w2.cell? ⟨w.heap.size + 1, 0, none⟩ = some (.string ⟨#[]⟩) := C2.cell 0
  have z1 : w2.cell? ⟨w.heap.size + 1, 1, none⟩ = some (.string ⟨#[]⟩) := C2.cell 1
  have z2 : w2.cell? ⟨w.heap.size + 1, 2, none⟩ = some (.int .i64 0) := C2.cell 2
  have f0 : w2.frozen? ⟨w.heap.size + 1, 0, none⟩ = false := C2.frozen 0
  have f1 : w2.frozen? ⟨w.heap.size + 1, 1, none⟩ = false := C2.frozen 1
  have f2 : w2.frozen? ⟨w.heap.size + 1, 2, none⟩ = false := C2.frozen 2
  have FIN : Hid (∀ w', Below w.heap.size w w' → SyncOut d p n w (.returned (.tuple #[syncV ok d p n, .bool ok])) w') := fun w' hb => ⟨ok, rfl, hiff, hb⟩
  clear hb2 B2 C2 hiff
  cases ok with
  | false =>
    go_wp2
    exact bodyPost_ret (v := .tuple #[.agg #[.string ⟨#[]⟩, .string ⟨#[]⟩, .int .i64 0], .bool false]) (by simp [results, Tryd.results20, go_sem, z0, z1, z2]) rfl (FIN.out _ (by have hb := hB.out; exact ((hb.setCell (p := ⟨w.heap.size + 1, 0, none⟩) (Nat.le_succ _) _).setCell (p := ⟨w.heap.size + 1, 1, none⟩) (Nat.le_succ _) _).setCell (p := ⟨w.heap.size + 1, 2, none⟩) (Nat.le_succ _) _))
  | true =>
    go_wp2
    exact bodyPost_ret (v := .tuple #[.agg #[.string (d ++ p), .string ⟨#[]⟩, .int .i64 n], .bool true]) (by simp [results, Tryd.results20, go_sem, z0, z1, z2]) rfl (FIN.out _ (by have hb := hB.out; exact ((hb.setCell (p := ⟨w.heap.size + 1, 0, none⟩) (Nat.le_succ _) _).setCell (p := ⟨w.heap.size + 1, 1, none⟩) (Nat.le_succ _) _).setCell (p := ⟨w.heap.size + 1, 2, none⟩) (Nat.le_succ _) _))
theorem ok_same {a b : Bool} {q : Prop} (h1 : a = true ↔ q) (h2 : b = true ↔ q) : a = b := by
  rw [Bool.eq_iff_iff, h1, h2]
end Go.Proofs.YtbobiiodbbcodaaDoor
namespace Go.Proofs.YtbobiiodbbcodaaDoor
open Go.RowKit
set_option linter.unusedVariables false
set_option linter.unusedSimpArgs false
set_option maxRecDepth 100000
def recovV (s : ByteArray) (es : List (Bs × Bs)) : Value := logV (s.extract 0 (linesS 0 es).length) ⟨#[]⟩ (es.length : Int)
def RecovOut (s : ByteArray) (w : World) (e : Ending) (w' : World) : Prop :=
  ((30000 < s.size ∧ e = .returned (.tuple #[logV ⟨#[]⟩ ⟨#[]⟩ 0, .int .i64 0, .bool false])) ∨
    (¬ 30000 < s.size ∧ ∃ es rest, Opens s.data.toList es rest ∧ e = .returned (.tuple #[recovV s es, .int .i64 (((linesS 0 es).length : Nat) : Int), .bool true]))) ∧ Below w.heap.size w w'
theorem recov_le {s : ByteArray} {es : List (Bs × Bs)} {rest : Bs} (h : Opens s.data.toList es rest) : (linesS 0 es).length ≤ s.size := by
  rw [← ba_len, h.eq]; simp
set_option maxHeartbeats 1000000 in
theorem RecoverLog_c (s : ByteArray) (w : World) (hs : s.size ≤ 1048576) (ht : Tab w) : Calls Tryd.prog 28 #[.string s] w (RecovOut s w) := by
  have C0 := Bk.new w 33 #[.string ⟨#[]⟩, .string ⟨#[]⟩, .int .i64 0]
  have HC := Lib.hid C0
  have hb0 := Lib.hid (below_one (w := w) (.cells #[.string ⟨#[]⟩, .string ⟨#[]⟩, .int .i64 0] 33))
  have HR := Lib.hid (fun w => readLog_c s w hs)
  have HT := Lib.hid ht
  clear ht C0
  by_cases hbig : 30000 < s.size
  · have hd : decide ((30000 : Int) < (s.size : Int)) = true := by simp; omega
    have HBIG := Lib.hid hbig
    go_enter Tryd.func28, Tryd.ntmps28
    go_wp2
    exact bodyPost_ret (v := .tuple #[.agg #[.string ⟨#[]⟩, .string ⟨#[]⟩, .int .i64 0], .int .i64 0, .bool false]) (by simp [results, Tryd.results28, go_sem]) rfl ⟨.inl ⟨HBIG.out, rfl⟩, by have hb := hb0.out; first | exact hb | ((repeat (first | exact Below.refl _ _ | exact (Below.refl _ _).drew | assumption | exact below_one _ | refine Below.chain ?_ (by assumption) | refine Below.drew ?_ | refine Below.alc ?_ _ | refine below_drewN ?_ | (refine Below.setCell ?_ ?_ _) | exact Nat.le_refl _ | (simp; done) | (simp; omega))))⟩
  · have hd : decide ((30000 : Int) < (s.size : Int)) = false := by simp; omega
    have HBIG := Lib.hid hbig
    go_enter Tryd.func28, Tryd.ntmps28
    go_wp2_with fail
    refine (HR.out _ (HT.out.on hb0.out)).mono ?_
    rintro e w2 ⟨v, es, rest, rfl, ho, hop, hb2⟩
    obtain ⟨a, c, rfl, _⟩ := (Sl.of_own ho).slice
    have hle := hop.le
    have hL := recov_le hop
    have C2 := HC.out.below hb2
    have hB := Lib.hid (Below.chain hb0.out hb2)
    have z0 : w2.cell? ⟨w.heap.size, 0, none⟩ = some (.string ⟨#[]⟩) := C2.cell 0
    have z1 : w2.cell? ⟨w.heap.size, 1, none⟩ = some (.string ⟨#[]⟩) := C2.cell 1
    have z2 : w2.cell? ⟨w.heap.size, 2, none⟩ = some (.int .i64 0) := C2.cell 2
    have f0 : w2.frozen? ⟨w.heap.size, 0, none⟩ = false := C2.frozen 0
    have f1 : w2.frozen? ⟨w.heap.size, 1, none⟩ = false := C2.frozen 1
    have f2 : w2.frozen? ⟨w.heap.size, 2, none⟩ = false := C2.frozen 2
    have FIN : Hid (∀ w', Below w.heap.size w w' → RecovOut s w (.returned (.tuple #[recovV s es, .int .i64 (((linesS 0 es).length : Nat) : Int), .bool true])) w') := fun w' hb => ⟨.inr ⟨HBIG.out, es, rest, hop, rfl⟩, hb⟩
    unfold recovV logV at FIN
    generalize (linesS 0 es).length = L at *
    clear hb2 C2 hop ho
    go_wp2
    exact bodyPost_ret (v := .tuple #[.agg #[.string (s.extract 0 L), .string ⟨#[]⟩, .int .i64 (es.length : Int)], .int .i64 (L : Int), .bool true]) (by simp [results, Tryd.results28, go_sem, z0, z1, z2]) rfl (FIN.out _ (by have hb := hB.out; exact ((hb.setCell (p := ⟨w.heap.size, 0, none⟩) (Nat.le_refl _) _).setCell (p := ⟨w.heap.size, 1, none⟩) (Nat.le_refl _) _).setCell (p := ⟨w.heap.size, 2, none⟩) (Nat.le_refl _) _))
set_option maxHeartbeats 1000000 in
theorem RecoverLogS_c (s : ByteArray) (w : World) (hs : s.size ≤ 1048576) : Calls Tryd.prog 29 #[.string s] w (RecovOut s w) := by
  have C0 := Bk.new w 33 #[.string ⟨#[]⟩, .string ⟨#[]⟩, .int .i64 0]
  have HC := Lib.hid C0
  have hb0 := Lib.hid (below_one (w := w) (.cells #[.string ⟨#[]⟩, .string ⟨#[]⟩, .int .i64 0] 33))
  have HR := Lib.hid (fun w => l12Open_c s w hs)
  clear C0
  by_cases hbig : 30000 < s.size
  · have hd : decide ((30000 : Int) < (s.size : Int)) = true := by simp; omega
    have HBIG := Lib.hid hbig
    go_enter Tryd.func29, Tryd.ntmps29
    go_wp2
    exact bodyPost_ret (v := .tuple #[.agg #[.string ⟨#[]⟩, .string ⟨#[]⟩, .int .i64 0], .int .i64 0, .bool false]) (by simp [results, Tryd.results29, go_sem]) rfl ⟨.inl ⟨HBIG.out, rfl⟩, by have hb := hb0.out; first | exact hb | ((repeat (first | exact Below.refl _ _ | exact (Below.refl _ _).drew | assumption | exact below_one _ | refine Below.chain ?_ (by assumption) | refine Below.drew ?_ | refine Below.alc ?_ _ | refine below_drewN ?_ | (refine Below.setCell ?_ ?_ _) | exact Nat.le_refl _ | (simp; done) | (simp; omega))))⟩
  · have hd : decide ((30000 : Int) < (s.size : Int)) = false := by simp; omega
    have HBIG := Lib.hid hbig
    go_enter Tryd.func29, Tryd.ntmps29
    go_wp2_with fail
    refine (HR.out _).mono ?_
    rintro e w2 ⟨v, es, rest, rfl, ho, hop, hb2⟩
    obtain ⟨a, c, rfl, _⟩ := (Sl.of_own ho).slice
    have hle := hop.le
    have hL := recov_le hop
    have C2 := HC.out.below hb2
    have hB := Lib.hid (Below.chain hb0.out hb2)
    have z0 : w2.cell? ⟨w.heap.size, 0, none⟩ = some (.string ⟨#[]⟩) := C2.cell 0
    have z1 : w2.cell? ⟨w.heap.size, 1, none⟩ = some (.string ⟨#[]⟩) := C2.cell 1
    have z2 : w2.cell? ⟨w.heap.size, 2, none⟩ = some (.int .i64 0) := C2.cell 2
    have f0 : w2.frozen? ⟨w.heap.size, 0, none⟩ = false := C2.frozen 0
    have f1 : w2.frozen? ⟨w.heap.size, 1, none⟩ = false := C2.frozen 1
    have f2 : w2.frozen? ⟨w.heap.size, 2, none⟩ = false := C2.frozen 2
    have FIN : Hid (∀ w', Below w.heap.size w w' → RecovOut s w (.returned (.tuple #[recovV s es, .int .i64 (((linesS 0 es).length : Nat) : Int), .bool true])) w') := fun w' hb => ⟨.inr ⟨HBIG.out, es, rest, hop, rfl⟩, hb⟩
    unfold recovV logV at FIN
    generalize (linesS 0 es).length = L at *
    clear hb2 C2 hop ho
    go_wp2
    exact bodyPost_ret (v := .tuple #[.agg #[.string (s.extract 0 L), .string ⟨#[]⟩, .int .i64 (es.length : Int)], .int .i64 (L : Int), .bool true]) (by simp [results, Tryd.results29, go_sem, z0, z1, z2]) rfl (FIN.out _ (by have hb := hB.out; exact ((hb.setCell (p := ⟨w.heap.size, 0, none⟩) (Nat.le_refl _) _).setCell (p := ⟨w.heap.size, 1, none⟩) (Nat.le_refl _) _).setCell (p := ⟨w.heap.size, 2, none⟩) (Nat.le_refl _) _))
/-- what LogRecords answers -/
def LRecOut (d p : ByteArray) (n : Int) (w : World) (e : Ending) (w' : World) : Prop :=
  ∃ v es ok, e = .returned (.tuple #[v, .bool ok]) ∧ w'.ownsRow w.heap.size 25 2 v es.length (flatR es) ∧
    ((ok = true ∧ ValidL d.data.toList p.data.toList n es) ∨ (ok = false ∧ es = [] ∧ ∀ es', ¬ ValidL d.data.toList p.data.toList n es')) ∧ Below w.heap.size w w'
set_option maxHeartbeats 1000000 in
theorem LogRecords_c (d p : ByteArray) (n : Int) (w : World) (hd : d.size ≤ 1048576) (hp : p.size ≤ 1048576) (ht : Tab w) : Calls Tryd.prog 21 #[logV d p n] w (LRecOut d p n w) := by
  have HR := Lib.hid (fun w => records_c d p n w hd hp)
  unfold logV at *
  have hb0 := Lib.hid (below_one (w := w) (.cells #[.string d, .string p, .int .i64 n] 33))
  have HT := Lib.hid ht
  clear ht
  go_enter Tryd.func21, Tryd.ntmps21
  go_wp2_with fail
  refine (HR.out _ (HT.out.on hb0.out)).mono ?_
  rintro e w2 ⟨v, es, ok, rfl, ho, H1, H2, hb2⟩
  have hB := Lib.hid (Below.chain hb0.out hb2)
  have HO := Lib.hid (own_lo (lo' := w.heap.size) ho (by simp))
  clear hb2 ho
  cases ok with
  | false =>
    go_wp2
    go_ret2
    exact ⟨_, [], false, rfl, World.ownsRow_nil _ _ _ _, .inr ⟨rfl, rfl, H2.out trivial⟩, hB.out⟩
  | true =>
    go_wp2
    go_ret2
    exact ⟨v, es, true, rfl, HO.out, .inl ⟨rfl, H1.out trivial⟩, hB.out⟩
set_option maxHeartbeats 1000000 in
theorem LogRecordsS_c (d p : ByteArray) (n : Int) (w : World) (hd : d.size ≤ 1048576) (hp : p.size ≤ 1048576) : Calls Tryd.prog 22 #[logV d p n] w (LRecOut d p n w) := by
  have HR := Lib.hid (fun w => l12Valid_c d p n w hd hp)
  unfold logV at *
  have hb0 := Lib.hid (below_one (w := w) (.cells #[.string d, .string p, .int .i64 n] 33))
  have B0 := Lib.hid (Bk.new w 33 #[.string d, .string p, .int .i64 n])
  go_enter Tryd.func22, Tryd.ntmps22
  go_wp2_with fail
  refine (HR.out _).mono ?_
  rintro e w2 ⟨ok, rfl, hiff, hb2⟩
  have HI := Lib.hid hiff
  have hB := Lib.hid (Below.chain hb0.out hb2)
  have B2 := B0.out.below hb2
  have q0 : w2.cell? ⟨w.heap.size, 0, none⟩ = some (.string d) := B2.cell 0
  have q1 : w2.cell? ⟨w.heap.size, 1, none⟩ = some (.string p) := B2.cell 1
  clear hb2 B2 hiff
  cases ok with
  | false =>
    have hown := World.ownsRow_lit (e := 25) (size := 2) (base := w.heap.size) w2 #[] 0 hB.out.size (by decide) rfl
    have HW := Lib.hid hown
    clear hown
    go_wp2
    go_ret2
    exact ⟨_, [], false, rfl, HW.out, .inr ⟨rfl, rfl, fun es' h => by have := HI.out.2 ⟨es', h⟩; cases this⟩, Below.alc hB.out _⟩
  | true =>
    have hdp : d.size + p.size ≤ 30000 := by
      obtain ⟨es, h⟩ := HI.out.1 rfl
      have := h.sz
      rw [List.length_append, ba_len, ba_len] at this; exact this
    have HAL := Lib.hid (app_list d p)
    go_wp2_with fail
    refine (l12Open_c (d ++ p) _ (by rw [app_size]; omega)).mono ?_
    rintro e w3 ⟨v, es, rest, rfl, ho, hop, hb3⟩
    have HOp := Lib.hid hop
    have HO3 := Lib.hid (own_lo (lo' := w.heap.size) ho hB.out.size)
    have hB3 := Lib.hid (Below.chain hB.out hb3)
    clear ho hop hb3
    generalize d ++ p = all at *
    go_wp2
    go_ret2
    refine ⟨v, es, true, rfl, HO3.out, .inl ⟨rfl, ?_⟩, hB3.out⟩
    obtain ⟨es', h⟩ := HI.out.1 trivial
    have h2 := HOp.out
    rw [HAL.out] at h2
    rw [(h2.uniq h.opens).1]; exact h
end Go.Proofs.YtbobiiodbbcodaaDoor
