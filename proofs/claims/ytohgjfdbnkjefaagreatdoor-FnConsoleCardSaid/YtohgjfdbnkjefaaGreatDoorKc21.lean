import Derived.Test.YtohgjfdbnkjefaaGreatDoorKc20
import Derived.Deep.RegionHeld3
open Go.Lib (hid)
namespace Go.Proofs.YtohgjfdbnkjefaaGreatDoor
open Go.RowKit
set_option linter.unusedVariables false
set_option linter.unusedSimpArgs false
set_option maxRecDepth 100000
theorem nums_snoc (l : List Bs) (x : Bs) : numsM (l ++ [x]) = (numsM l).bind fun a => (rdO x).map fun n => a ++ [n] := by
 unfold numsM
 rw [List.mapM_append]
 cases l.mapM rdO with
 | none => rfl
 | some a =>
  cases h : rdO x with
  | none => simp [h]
  | some n => simp [h]
theorem nums_stop (l t : List Bs) (h : numsM l = none) : numsM (l ++ t) = none := by
 unfold numsM at *
 rw [List.mapM_append, h]; rfl
theorem nums_len : ∀ (l : List Bs) (a : List Int), numsM l = some a → a.length = l.length := by
 intro l
 induction l with
 | nil => intro a h; unfold numsM at h; simp at h; subst h; rfl
 | cons x t ih =>
  intro a h
  unfold numsM at h
  simp only [List.mapM_cons] at h
  cases hx : rdO x with
  | none => rw [hx] at h; cases h
  | some n =>
   rw [hx] at h
   cases ht : t.mapM rdO with
   | none => rw [ht] at h; cases h
   | some q =>
    rw [ht] at h
    have := ih q ht
    have h2 : n :: q = a := Option.some.inj h
    rw [← h2]; simp [this]
theorem take_tail {l : List Bs} {k : Nat} {x : Bs} (hk : 1 ≤ k) (hx : l[k]? = some x) : (l.take (k + 1)).tail = (l.take k).tail ++ [x] := by
 rw [take_snoc hx]
 cases h : l.take k with
 | nil =>
  have := congrArg List.length h
  rw [List.length_take, List.length_nil] at this
  have hl := (List.getElem?_eq_some_iff.1 hx).1
  omega
 | cons y t => rfl
theorem tail_split (l : List Bs) (k : Nat) (hk : 1 ≤ k) : l.tail = (l.take k).tail ++ l.drop k := by
 cases l with
 | nil => simp
 | cons y t =>
  obtain ⟨m, rfl⟩ : ∃ m, k = m + 1 := ⟨k - 1, by omega⟩
  simp
def ReadsOut (o : Option (List Int)) (w : World) (e : Ending) (w' : World) : Prop :=
 ∃ u, e = .returned (.tuple #[u, .bool o.isSome]) ∧ w'.ownsRow w.heap.size 3 1 u (o.getD []).length ((o.getD []).map (Value.int .i64)) ∧ Below w.heap.size w w'
set_option maxHeartbeats 2000000 in
theorem l12Read_c (v : Value) (ws : List Bs) (w : World) (hv : Sl w 1 v ws.length (ws.map strV)) (hl : ws.length ≤ 1048577) (hpos : 1 ≤ ws.length) (hs : ∀ x ∈ ws, x.length ≤ 1048576) :
 Calls Tryz.prog 126 #[v] w (ReadsOut (numsM ws.tail) w) := by
 obtain ⟨inf, hi, hz0, hz1, hz2⟩ := info_parts info_int
 obtain ⟨a, c, rfl, h1, h2, h3, h4⟩ := hv
 obtain ⟨b, off, rfl, hc⟩ := h4 (by omega)
 have HC := hid hc
 have HS := hid hs
 have HO0 := hid (World.ownsRow_lit (e := 3) (size := 1) (base := w.heap.size) w #[] 0 (Nat.le_refl _) (by decide) rfl)
 have HB0 := hid (below_one (w := w) (.cells #[] 3))
 clear hc hs h4 h3
 go_enter Tryz.func126, Tryz.ntmps126
 go_wp2
 go_loopw [4, 5, 6, 7] (fun o i _ _ wr => ∃ (k : Nat) (q : List Int), 1 ≤ k ∧ k ≤ ws.length ∧ i = .int .i64 (k : Int) ∧ Hid (numsM (ws.take k).tail = some q) ∧ wr.ownsRow w.heap.size 3 1 o q.length (q.map (Value.int .i64)) ∧ Below w.heap.size w wr) (fun _ i _ _ _ => ws.length + 1 - (intOf i).toNat)
 case atStart => exact ⟨1, [], by omega, hpos, rfl, (by
  show numsM (ws.take 1).tail = some []
  cases ws with
  | nil => rfl
  | cons y t => rfl), ownsRow_cast HO0.out rfl rfl, HB0.out⟩
 case round =>
  obtain ⟨k, q, hk1, hk, rfl, HQ, ho, hb⟩ := hrel
  have HO := hid ho
  have HB := hid hb
  clear ho hb HO0 HB0
  by_cases hlt : k < ws.length
  · have hd : decide ((k : Int) < (ws.length : Int)) = true := by simp; omega
    obtain ⟨x, hxx⟩ := elem_at hlt
    have hcell0 : w.cell? ⟨b, off + k, none⟩ = some (.string (bs x)) := by
     rw [HC.out k (by omega), List.getElem?_map, hxx.out]; rfl
    have hcell := cell_later HB.out hcell0
    have hxl := HS.out x (List.mem_of_getElem? hxx.out)
    have HL := hid (fun W => l1Read_c (bs x) W (by rw [bs_size]; exact hxl))
    rw [bs_list] at HL
    have HN := hid (nums_snoc (ws.take k).tail x)
    have HT := hid (take_tail hk1 hxx.out)
    have hql : q.length ≤ 1048577 := by
     rw [nums_len _ _ HQ.out, List.length_tail, List.length_take]; omega
    clear hcell0
    cases hr : rdO x with
    | none =>
     have HV := hid (rdV_no hr)
     have HE : Hid (numsM ws.tail = none) := by
      show _ = _
      rw [tail_split ws (k + 1) (by omega), HT.out]
      refine nums_stop _ _ ?_
      rw [HN.out, HQ.out, hr]; rfl
     clear hr
     generalize bs x = X at *
     go_wp2_with fail
     refine (HL.out _).mono ?_
     rintro e w2 ⟨rfl, hb2⟩
     rw [HV.out]
     have HB2 := hid (Below.chain HB.out hb2)
     clear hb2
     have HZ := hid (World.ownsRow_lit (e := 3) (size := 1) (base := w.heap.size) w2 #[] 0 HB2.out.size (by decide) rfl)
     go_wp2
     exact bodyPost_ret (v := .tuple #[.slice (some ⟨w2.heap.size, 0, none⟩) 0 0, .bool false]) (by simp [results, Tryz.results126, go_sem]) rfl ⟨_, by rw [HE.out]; rfl, by rw [HE.out]; exact ownsRow_cast HZ.out rfl rfl, Below.alc HB2.out _⟩
    | some n =>
     have HV := hid (rdV_yes hr)
     have HQ2 : Hid (numsM (ws.take (k + 1)).tail = some (q ++ [n])) := by
      show _ = _
      rw [HT.out, HN.out, HQ.out, hr]; rfl
     clear hr
     generalize bs x = X at *
     go_wp2_with fail
     refine (HL.out _).mono ?_
     rintro e w2 ⟨rfl, hb2⟩
     rw [HV.out]
     have HB2 := hid (Below.chain HB.out hb2)
     have HO2 := hid (own_keep HO.out hb2)
     clear hb2 HO HB
     go_wp2_with (at_builtin; refine wpList_append_own_at _ rfl _ _ 37 rfl w.heap.size 3 inf (.int .i64 0) 1 8 Tryz.underlying37 hi hz0 hz1 hz2 rfl (by decide) _ q.length (q.map (Value.int .i64)) rfl (HO2.out.alloc _) ⟨w2.heap.size, 0, none⟩ 1 1 [.int .i64 n] rfl rfl (news_new _ [.int .i64 n] _) (by simp [Value.oneCell']) (by unfold maxLen; omega) (by omega) (by have := HB2.out.size; simp only [World.size_alloc]; omega) ?_)
     intro v' w3 ho5 hg5 _ _
     have HB7 := hid ((Below.alc HB2.out _).grown hg5 (by have := HB2.out.size; simp only [World.size_alloc]; omega) (fun g hg => (HO2.out.lt g hg).1))
     have HO5 := hid ho5
     clear ho5 hg5
     go_wp2
     go_roundw
     case rel => exact ⟨k + 1, q ++ [n], by omega, by omega, by go_num, HQ2.out, ownsRow_cast HO5.out (by simp) (by simp), HB7.out⟩
     case measure => first | (simp [intOf]; done) | (simp [intOf]; omega)
  · obtain rfl : k = ws.length := by omega
    have hd : decide ((ws.length : Int) < (ws.length : Int)) = false := by simp
    have HE : Hid (numsM ws.tail = some q) := by show _ = _; have := HQ.out; rw [List.take_length] at this; exact this
    obtain ⟨ua, uc, rfl, _⟩ := (Sl.of_own HO.out).slice
    go_wp2
    exact bodyPost_ret (v := .tuple #[.slice ua q.length uc, .bool true]) (by simp [results, Tryz.results126, go_sem]) rfl ⟨_, by rw [HE.out]; rfl, by rw [HE.out]; exact HO.out, HB.out⟩
theorem split_mem (c : UInt8) (s : Bs) : ∀ x ∈ splitS c s, x.length ≤ s.length := by
 have key : (∀ x ∈ (splSt c s).1, x.length ≤ s.length) ∧ (splSt c s).2.length ≤ s.length := by
  refine snocB (M := fun s => (∀ x ∈ (splSt c s).1, x.length ≤ s.length) ∧ (splSt c s).2.length ≤ s.length) ⟨(fun x hx => by cases hx), Nat.le_refl 0⟩ (fun l y ih => ?_) s
  rw [splSt_snoc, List.length_append]
  unfold splStep
  split
  · refine ⟨fun x hx => ?_, Nat.zero_le _⟩
    rcases List.mem_append.1 hx with h | h
    · have := ih.1 x h; omega
    · rw [List.mem_singleton.1 h]; have := ih.2; omega
  · refine ⟨fun x hx => ?_, ?_⟩
    · have := ih.1 x hx; omega
    · have := ih.2
      simp only [List.length_append, List.length_cons, List.length_nil]; omega
 intro x hx
 unfold splitS at hx
 rcases List.mem_append.1 hx with h | h
 · exact key.1 x h
 · rw [List.mem_singleton.1 h]; exact key.2
theorem split_len (c : UInt8) (s : Bs) : (splitS c s).length ≤ s.length + 1 := by
 obtain ⟨p, h1, h2⟩ := splSt_cur c s
 have h3 := congrArg List.length h1
 rw [List.length_append] at h3
 unfold splitS
 rw [List.length_append]
 simp only [List.length_cons, List.length_nil]
 omega
theorem split_pos (c : UInt8) (s : Bs) : 1 ≤ (splitS c s).length := by unfold splitS; rw [List.length_append]; simp
theorem split_one {c : UInt8} {s x : Bs} (h : splitS c s = [x]) : s = x := by
 rcases first_at s c with ⟨a, b, rfl, ha⟩ | hno
 · obtain ⟨q, l, hq⟩ := split_hit (b := b) ha
   rw [hq] at h; cases h
 · rw [split_miss hno] at h; exact (List.cons.inj h).1
theorem split_head (c : UInt8) (s : Bs) : (splitS c s)[0]? = some ((splitS c s).headD []) := by
 have := split_pos c s
 cases h : splitS c s with
 | nil => rw [h] at this; simp at this
 | cons x t => rfl
def wsL (line : Bs) : List Bs := splitS 32 line
def hdL (line : Bs) : Bs := (wsL line).headD []
theorem execM_def (b : List Int) (line : Bs) : execM b line = match numsM (wsL line).tail with
 | none => (b, none)
 | some l => if 2 < l.length then (b, none) else match kindM (hdL line) with
  | some (k, n) => if l.length = n ∧ possB b k (l.getD 0 0) (l.getD 1 0) = true then (doB b k (l.getD 0 0) (l.getD 1 0), some (rowTx (showR (doB b k (l.getD 0 0) (l.getD 1 0))))) else (b, none)
  | none => (b, askM b (hdL line) l) := rfl
theorem execM_bad {b : List Int} {line : Bs} (h : numsM (wsL line).tail = none) : execM b line = (b, none) := by rw [execM_def, h]
theorem execM_long {b : List Int} {line : Bs} {l : List Int} (h : numsM (wsL line).tail = some l) (hl : 2 < l.length) : execM b line = (b, none) := by
 rw [execM_def, h]; simp only; rw [if_pos hl]
theorem execM_ask {b : List Int} {line : Bs} {l : List Int} (h : numsM (wsL line).tail = some l) (hl : ¬ 2 < l.length) (hk : kindM (hdL line) = none) : execM b line = (b, askM b (hdL line) l) := by
 rw [execM_def, h]; simp only; rw [if_neg hl, hk]
theorem execM_no {b : List Int} {line : Bs} {l : List Int} {k : Int} {n : Nat} (h : numsM (wsL line).tail = some l) (hl : ¬ 2 < l.length) (hk : kindM (hdL line) = some (k, n)) (hno : ¬ (l.length = n ∧ possB b k (l.getD 0 0) (l.getD 1 0) = true)) : execM b line = (b, none) := by
 rw [execM_def, h]; simp only; rw [if_neg hl, hk]; simp only; rw [if_neg hno]
theorem execM_do {b : List Int} {line : Bs} {l : List Int} {k : Int} {n : Nat} (h : numsM (wsL line).tail = some l) (hl : ¬ 2 < l.length) (hk : kindM (hdL line) = some (k, n)) (hn : l.length = n) (hp : possB b k (l.getD 0 0) (l.getD 1 0) = true) :
 execM b line = (doB b k (l.getD 0 0) (l.getD 1 0), some (rowTx (showR (doB b k (l.getD 0 0) (l.getD 1 0))))) := by
 rw [execM_def, h]; simp only; rw [if_neg hl, hk]; simp only; rw [if_pos ⟨hn, hp⟩]
theorem wds_ne : ∀ j : Fin 7, wdsL.getD j.1 [] ≠ wRow ∧ wdsL.getD j.1 [] ≠ wSent ∧ wdsL.getD j.1 [] ≠ wNumber ∧ wdsL.getD j.1 [] ≠ wBars ∧ wdsL.getD j.1 [] ≠ wFirst ∧ wdsL.getD j.1 [] ≠ wLeast ∧ wdsL.getD j.1 [] ≠ wBulbs ∧ wdsL.getD j.1 [] ≠ wFull := by decide +kernel
theorem wds_ne2 : ∀ j : Fin 7, wdsL.getD j.1 [] ≠ wDigits ∧ wdsL.getD j.1 [] ≠ wTold ∧ wdsL.getD j.1 [] ≠ wImages ∧ wdsL.getD j.1 [] ≠ wHarmless ∧ wdsL.getD j.1 [] ≠ wNear ∧ wdsL.getD j.1 [] ≠ wSame := by decide +kernel
theorem kind_le {w : Bs} {k : Int} {n : Nat} (h : kindM w = some (k, n)) : 1 ≤ k ∧ k ≤ 7 ∧ n ≤ 2 := by
 obtain ⟨j, hj, _, rfl, rfl⟩ := kind_of h
 have : ∀ i : Fin 7, manyL.getD i.1 0 ≤ 2 := by decide
 exact ⟨by omega, by omega, this ⟨j, hj⟩⟩
theorem kind_tell {b : List Int} {w : Bs} {k : Int} {n : Nat} (h : kindM w = some (k, n)) : tellM b w = none := by
 obtain ⟨j, hj, rfl, _, _⟩ := kind_of h
 obtain ⟨h1, h2, h3, h4, h5, h6, _, _⟩ := wds_ne ⟨j, hj⟩
 unfold tellM
 rw [if_neg h1, if_neg h2, if_neg h3, if_neg h4, if_neg h5, if_neg h6]
theorem kind_place {b : List Int} {w : Bs} {k : Int} {n : Nat} (h : kindM w = some (k, n)) (x : Int) : placeM b w x = none := by
 obtain ⟨j, hj, rfl, _, _⟩ := kind_of h
 obtain ⟨h1, h2, h3, h4, h5, h6⟩ := wds_ne2 ⟨j, hj⟩
 unfold placeM
 split
 · rfl
 · first
   | rw [if_neg h1, if_neg h2, if_neg h3, if_neg h4, if_neg h5, if_neg h6]
   | (simp only; rw [if_neg h1, if_neg h2, if_neg h3, if_neg h4, if_neg h5, if_neg h6])
   | (simp only; done)
theorem kind_ask {b : List Int} {w : Bs} {k : Int} {n : Nat} (h : kindM w = some (k, n)) (l : List Int) : askM b w l = none := by
 obtain ⟨j, hj, hw, _, _⟩ := kind_of h
 obtain ⟨_, _, _, _, _, _, h7, h8⟩ := wds_ne ⟨j, hj⟩
 rw [← hw] at h7 h8
 unfold askM
 split
 · exact kind_tell h
 · rw [if_neg h7]; exact kind_place h _
 · rw [if_neg h8]
 · rfl
theorem line_one {line : Bs} (h : (wsL line).tail = []) : hdL line = line := by
 have h1 := split_pos 32 line
 have h2 : splitS 32 line = [hdL line] := by
  unfold hdL wsL at *
  cases hs : splitS 32 line with
  | nil => rw [hs] at h1; simp at h1
  | cons x t => rw [hs] at h; simp at h; rw [h]; rfl
 exact (split_one h2).symm
theorem nums_nil {ws : List Bs} (h : numsM ws = some []) : ws = [] := by
 have := nums_len _ _ h
 exact List.eq_nil_of_length_eq_zero this.symm
theorem sayM_ask {b : List Int} {line : Bs} {l : List Int} (h : numsM (wsL line).tail = some l) (hk : ∀ k n, kindM (hdL line) = some (k, n) → l.length ≠ n) : execM b line = (b, askM b (hdL line) l) := by
 by_cases hl : 2 < l.length
 · rw [execM_long h hl]
   rcases l with _ | ⟨x, _ | ⟨y, _ | ⟨z, t⟩⟩⟩
   · simp at hl
   · simp at hl
   · simp at hl
   · rfl
 · cases hq : kindM (hdL line) with
   | none => exact execM_ask h hl hq
   | some p =>
    obtain ⟨k, n⟩ := p
    rw [execM_no h hl hq (fun hh => hk k n hq hh.1), kind_ask hq]
theorem row_none (w : World) (lo : Nat) (h : lo ≤ w.heap.size) : (w.alloc (.cells #[] 3)).ownsRow lo 3 1 (.slice (some ⟨w.heap.size, 0, none⟩) 0 0) 0 [] :=
 World.ownsRow_lit (e := 3) (size := 1) (base := lo) w #[] 0 h (by decide) rfl
set_option maxHeartbeats 2000000 in
theorem l5Nearest_c (v : Value) (c : Int) (c0 : 0 ≤ c) (c1 : c ≤ 127) (w : World) (hv : Ints w v dig) :
 Calls Tryz.prog 236 #[v, .int .i64 c] w fun e w' => ∃ u m, e = .returned (.tuple #[u, .int .i64 m]) ∧ w'.ownsRow w.heap.size 3 1 u (nearL c).length ((nearL c).map (Value.int .i64)) ∧ Below w.heap.size w w' := by
 obtain ⟨inf, hi, hz0, hz1, hz2⟩ := info_parts info_int
 obtain ⟨a, cc, rfl, hcc, hcm, HC⟩ := hv.parts
 clear hv
 have HLD : Hid (dig.length = 10) := rfl
 rw [HLD.out] at hcc ⊢
 have HNL : Hid (nearL c = atC c (leastC c 10) 10) := rfl
 have HO0 := hid (row_none w w.heap.size (Nat.le_refl _))
 have HB0 := hid (below_one (w := w) (.cells #[] 3))
 go_enter Tryz.func236, Tryz.ntmps236
 go_wp2
 go_loopw [6, 7, 8, 9] (fun o m i _ wr => ∃ k : Nat, k ≤ 10 ∧ i = .int .i64 (k : Int) ∧ m = .int .i64 ((leastC c k : Nat) : Int) ∧ wr.ownsRow w.heap.size 3 1 o (atC c (leastC c k) k).length ((atC c (leastC c k) k).map (Value.int .i64)) ∧ Below w.heap.size w wr) (fun _ _ i _ _ => 11 - (intOf i).toNat)
 case atStart => exact ⟨0, by omega, rfl, rfl, ownsRow_cast HO0.out rfl rfl, HB0.out⟩
 case round =>
  obtain ⟨k, hk, rfl, rfl, ho, hb⟩ := hrel
  have HO := hid ho
  have HB := hid hb
  clear ho hb HO0 HB0
  by_cases hlt : k < 10
  · have hd : decide ((k : Int) < 10) = true := by simp; omega
    obtain ⟨b, off, rfl, hc0⟩ := HC.out k (dg (k : Int)) (digs_get hlt)
    have hcell := cell_later HB.out hc0
    have HF := hid (fun W => l2FarC_c k c c0 c1 W)
    have HL : Hid (leastC c (k + 1) = min (leastC c k) (farC c k)) := rfl
    have HS := hid (fun m => atC_succ c m k)
    have HZ := hid (fun (h : farC c k < leastC c k) => atC_none h)
    have hle := atC_le c (leastC c k) k
    have hl8 := least_le c k
    clear hc0
    generalize hcur : atC c (leastC c k) k = cur at *
    generalize leastC c k = m at *
    have HCU := hid hcur
    clear hcur
    generalize hf : farC c k = f at *
    have HFF := hid hf
    clear hf
    by_cases h1 : f < m
    · have t1 : (f : Int) < (m : Int) := by omega
      have HL2 : Hid (leastC c (k + 1) = f) := by show _ = _; rw [HL.out]; omega
      have HS2 : Hid (atC c f (k + 1) = [(k : Int)]) := by show _ = _; rw [HS.out, HZ.out h1]; simp
      have HOZ := hid (row_none wr w.heap.size HB.out.size)
      have HBZ := hid (Below.alc HB.out (.cells #[] 3))
      clear HL HS HZ HO
      go_wp2_with fail
      refine (HF.out _).mono ?_
      rintro e w2 ⟨rfl, rfl⟩
      go_wp2_with (at_builtin; refine wpList_append_own_at _ rfl _ _ 37 rfl w.heap.size 3 inf (.int .i64 0) 1 8 Tryz.underlying37 hi hz0 hz1 hz2 rfl (by decide) _ 0 ([] : List Value) rfl (HOZ.out.alloc _) ⟨wr.heap.size + 1, 0, none⟩ 1 1 [.int .i64 (k : Int)] rfl rfl (by have h := news_new (wr.alloc (.cells #[] 3)) [.int .i64 (k : Int)] 3; rw [World.size_alloc] at h; exact h) (by simp [Value.oneCell']) (by unfold maxLen; omega) (by omega) (by have := HB.out.size; simp only [World.size_alloc]; omega) ?_)
      intro v' w3 ho5 hg5 _ _
      have HB7 := hid ((Below.alc HBZ.out _).grown hg5 (by have := HB.out.size; simp only [World.size_alloc]; omega) (fun g hg => (HOZ.out.lt g hg).1))
      have HO5 := hid ho5
      clear ho5 hg5
      go_wp2
      go_roundw
      case rel => exact ⟨k + 1, by omega, by go_num, by rw [HL2.out], by rw [HL2.out, HS2.out]; exact ownsRow_cast HO5.out rfl rfl, HB7.out⟩
      case measure => first | (simp [intOf]; done) | (simp [intOf]; omega)
    · have t1 : ¬ (f : Int) < (m : Int) := by omega
      have HL2 : Hid (leastC c (k + 1) = m) := by show _ = _; rw [HL.out]; omega
      by_cases h2 : f = m
      · subst h2
        have HS2 : Hid (atC c f (k + 1) = cur ++ [(k : Int)]) := by show _ = _; rw [HS.out, HCU.out]; simp
        have hee : ((f : Int) == (f : Int)) = true := by simp
        clear HL HS HZ
        go_wp2_with fail
        refine (HF.out _).mono ?_
        rintro e w2 ⟨rfl, rfl⟩
        go_wp2_with (at_builtin; refine wpList_append_own_at _ rfl _ _ 37 rfl w.heap.size 3 inf (.int .i64 0) 1 8 Tryz.underlying37 hi hz0 hz1 hz2 rfl (by decide) _ cur.length (cur.map (Value.int .i64)) rfl (HO.out.alloc _) ⟨wr.heap.size, 0, none⟩ 1 1 [.int .i64 (k : Int)] rfl rfl (news_new _ [.int .i64 (k : Int)] _) (by simp [Value.oneCell']) (by unfold maxLen; omega) (by omega) (by have := HB.out.size; simp only [World.size_alloc]; omega) ?_)
        intro v' w3 ho5 hg5 _ _
        have HB7 := hid ((Below.alc HB.out _).grown hg5 (by have := HB.out.size; simp only [World.size_alloc]; omega) (fun g hg => (HO.out.lt g hg).1))
        have HO5 := hid ho5
        clear ho5 hg5
        go_wp2
        go_roundw
        case rel => exact ⟨k + 1, by omega, by go_num, by rw [HL2.out], by rw [HL2.out, HS2.out]; exact ownsRow_cast HO5.out (by simp) (by simp), HB7.out⟩
        case measure => first | (simp [intOf]; done) | (simp [intOf]; omega)
      · have hee : ((f : Int) == (m : Int)) = false := by simp; omega
        have HS2 : Hid (atC c m (k + 1) = cur) := by show _ = _; rw [HS.out, HCU.out]; simp [h2]
        clear HL HS HZ
        go_wp2_with fail
        refine (HF.out _).mono ?_
        rintro e w2 ⟨rfl, rfl⟩
        go_wp2
        go_roundw
        case rel => exact ⟨k + 1, by omega, by go_num, by rw [HL2.out], by rw [HL2.out, HS2.out]; exact HO.out, HB.out⟩
        case measure => first | (simp [intOf]; done) | (simp [intOf]; omega)
  · obtain rfl : k = 10 := by omega
    go_wp2
    exact bodyPost_ret (v := .tuple #[_, .int .i64 ((leastC c 10 : Nat) : Int)]) (by simp [results, Tryz.results236, go_sem]; rfl) rfl ⟨_, _, rfl, by rw [HNL.out]; exact HO.out, HB.out⟩
theorem ten_new : ∀ k : Fin 10, (k.1 : Int) ∉ tenI.take k.1 := by decide +kernel
theorem ten_at {k : Nat} (h : k < 10) : tenI[k]? = some (k : Int) := by
 have : ∀ j : Fin 10, tenI[j.1]? = some (j.1 : Int) := by decide +kernel
 exact this ⟨k, h⟩
theorem Has_c (v : Value) (xs : List Int) (x : Int) (w : World) (hv : Ints w v xs) (hn : x ∉ xs) : Calls Tryz.prog 271 #[v, .int .i64 x] w fun e w' => e = .returned (.bool false) ∧ w = w' := by
 obtain ⟨a, c, rfl, _, _, HC⟩ := hv.parts
 have HN := hid hn
 clear hv hn
 go_enter Tryz.func271, Tryz.ntmps271
 go_wp2
 go_loopw [5] (fun i wr => ∃ k : Nat, k ≤ xs.length ∧ i = .int .i64 (k : Int) ∧ w = wr) (fun i _ => xs.length + 1 - (intOf i).toNat)
 case atStart => exact ⟨0, by omega, rfl, by trivial⟩
 case round =>
  obtain ⟨k, hk, rfl, rfl⟩ := hrel
  by_cases hlt : k < xs.length
  · have hd : decide ((k : Int) < (xs.length : Int)) = true := by simp; omega
    obtain ⟨y, hy⟩ := elem_at hlt
    obtain ⟨b, off, rfl, hc⟩ := HC.out k y hy.out
    have hne : (y == x) = false := by
     simp
     intro e
     exact HN.out (e ▸ List.mem_of_getElem? hy.out)
    go_wp2
    go_roundw
    case rel => exact ⟨k + 1, by omega, by go_num, by trivial⟩
    case measure => first | (simp [intOf]; done) | (simp [intOf]; omega)
  · obtain rfl : k = xs.length := by omega
    have hd : decide ((xs.length : Int) < (xs.length : Int)) = false := by simp
    go_wp2
    go_ret
    exact ⟨rfl, rfl⟩
set_option maxHeartbeats 4000000 in
theorem DigitCode_c (v : Value) (w : World) (hv : Ints w v tenI) :
 Calls Tryz.prog 235 #[v] w fun e w' => ∃ u, e = .returned (.tuple #[u, .bool true]) ∧ w'.ownsRow w.heap.size 3 1 u 10 (dig.map (Value.int .i64)) ∧ Below w.heap.size w w' := by
 obtain ⟨inf, hi, hz0, hz1, hz2⟩ := info_parts info_int
 have HV := hid hv
 obtain ⟨a, cc, rfl, hcc, hcm, HC⟩ := hv.parts
 clear hv
 have HLD : Hid (tenI.length = 10) := rfl
 rw [HLD.out] at hcc ⊢
 have hin : inB 10 1 10 = true := by decide
 have HO0 := hid (row_none w w.heap.size (Nat.le_refl _))
 have HB0 := hid (below_one (w := w) (.cells #[] 3))
 go_enter Tryz.func235, Tryz.ntmps235
 go_wp2_with fail
 refine (l1In_c _ _ _ _).mono ?_
 rintro e w1 ⟨rfl, rfl⟩
 rw [hin]
 go_wp2
 go_loopw [4, 5] (fun o i wr => ∃ k : Nat, k ≤ 10 ∧ i = .int .i64 (k : Int) ∧ wr.ownsRow w.heap.size 3 1 o k ((dig.take k).map (Value.int .i64)) ∧ Below w.heap.size w wr) (fun _ i _ => 11 - (intOf i).toNat)
 case atStart => exact ⟨0, by omega, rfl, HO0.out, HB0.out⟩
 case round =>
  obtain ⟨k, hk, rfl, ho, hb⟩ := hrel
  have HO := hid ho
  have HB := hid hb
  clear ho hb HO0 HB0
  by_cases hlt : k < 10
  · have hd : decide ((k : Int) < 10) = true := by simp; omega
    obtain ⟨b, off, rfl, hc0⟩ := HC.out k (k : Int) (ten_at hlt)
    have HPT := hid ((HV.out.take (k := k) (by rw [HLD.out]; omega)).below HB.out)
    have HIN : Hid (inB (k : Int) 0 9 = true) := inB_mk (by omega) (by omega)
    have HS := hid (take_map (Value.int .i64) (digs_get hlt))
    have hcell := cell_later HB.out hc0
    have hkc : k ≤ cc := by omega
    have hk10 : (k : Int) < 10 := by omega
    clear hc0
    go_wp2_with fail
    rename World => wz
    refine wp_region_noPanic ?_
    refine wp_region_held_drew (S := fun w' : World => w'.cell? ⟨b, off + k, none⟩ = some (.int .i64 (k : Int)) ∧ Below wz.heap.size wz w') (by kernel_rfl) ⟨hcell, (Below.refl _ _).drew⟩ (fun hHeld => ?_)
    refine' tkY 0 hHeld ?r_1
    try simp only [Act.put, xqA, xqB, xqC]
    refine' tkY 1 hHeld ?r_2
    try simp only [Act.put, xqA, xqB, xqC]
    refine' tkY 2 hHeld ?r_3
    try simp only [Act.put, xqA, xqB, xqC]
    refine' tkX 3 hHeld ?y_4 ?r_4
    case y_4 => exact Or.inl ⟨by rfl, by (intro w hSw; obtain ⟨h0, _⟩ := hSw; go_simp; first | done | with_reducible rfl)⟩
    try simp only [Act.put, xqA, xqB, xqC]
    refine wpAnyH_ready (rs := [4]) (by kernel_rfl) (by simp) ?_
    refine' AllReadyH.cons (o := _) ?e_5 ?st_5 AllReadyH.nil
    case e_5 => (simp only [xeA, xeB, xeC]; exact rfl)
    intro K hK
    go_simp
    have lB := hHeld
    with_reducible refine (l1In_c _ _ _ _).mono ?_
    rintro e c1 ⟨rfl, rfl⟩
    rw [HIN.out]
    go_wp2_with fail
    refine hK.out _ _ lB (fun hHeld => ?_)
    clear lB
    clear hK K
    try simp only [Act.put, xqA, xqB, xqC]
    refine' tkY 5 hHeld ?r_6
    try simp only [Act.put, xqA, xqB, xqC]
    refine' tkY 6 hHeld ?r_7
    try simp only [Act.put, xqA, xqB, xqC]
    refine' tkY 7 hHeld ?r_8
    try simp only [Act.put, xqA, xqB, xqC]
    refine' tkY 8 hHeld ?r_9
    try simp only [Act.put, xqA, xqB, xqC]
    refine' tkY 9 hHeld ?r_10
    try simp only [Act.put, xqA, xqB, xqC]
    refine' tkY 10 hHeld ?r_11
    try simp only [Act.put, xqA, xqB, xqC]
    refine' tkY 11 hHeld ?r_12
    try simp only [Act.put, xqA, xqB, xqC]
    refine' tkY 12 hHeld ?r_13
    try simp only [Act.put, xqA, xqB, xqC]
    refine' tkX 13 hHeld ?y_14 ?r_14
    case y_14 => exact Or.inl ⟨by rfl, by (intro w hSw; obtain ⟨h0, _⟩ := hSw; go_simp; first | done | with_reducible rfl)⟩
    try simp only [Act.put, xqA, xqB, xqC]
    refine wpAnyH_ready (rs := [14]) (by kernel_rfl) (by simp) ?_
    refine' AllReadyH.cons (o := _) ?e_15 ?st_15 AllReadyH.nil
    case e_15 => (simp only [xeA, xeB, xeC]; exact rfl)
    intro K hK
    go_simp
    have lB := hHeld
    with_reducible refine (Has_c _ (tenI.take k) (k : Int) _ (HPT.out.below lB.2) (ten_new ⟨k, hlt⟩)).mono ?_
    rintro e c2 ⟨rfl, rfl⟩
    go_wp2_with fail
    refine hK.out _ _ lB (fun hHeld => ?_)
    clear lB
    clear hK K
    try simp only [Act.put, xqA, xqB, xqC]
    refine' tkY 15 hHeld ?r_16
    try simp only [Act.put, xqA, xqB, xqC]
    refine wpAnyH_done (by kernel_rfl) ?_ _
    refine NoPanic.normal ?_
    obtain ⟨hc2, hB2⟩ := hHeld
    have HBZ := hid (Below.chain HB.out hB2)
    have HOZ := hid (own_keep HO.out hB2)
    clear hB2 hcell
    go_wp2_with fail
    with_reducible refine (l2Digit_c (k : Int) (by omega) (by omega) _).mono ?_
    rintro e w2 ⟨rfl, hb2⟩
    have HB2 := hid (Below.chain HBZ.out hb2)
    have HO2 := hid (own_keep HOZ.out hb2)
    clear hb2
    go_wp2_with (at_builtin; refine wpList_append_own_at _ rfl _ _ 37 rfl w.heap.size 3 inf (.int .i64 0) 1 8 Tryz.underlying37 hi hz0 hz1 hz2 rfl (by decide) _ k ((dig.take k).map (Value.int .i64)) rfl (HO2.out.alloc _) ⟨w2.heap.size, 0, none⟩ 1 1 [.int .i64 (dg (k : Int))] rfl rfl (news_new _ [.int .i64 (dg (k : Int))] _) (by simp [Value.oneCell']) (by unfold maxLen; omega) (by omega) (by have := HB2.out.size; simp only [World.size_alloc]; omega) ?_)
    intro v' w3 ho5 hg5 _ _
    have HB7 := hid ((Below.alc HB2.out _).grown hg5 (by have := HB2.out.size; simp only [World.size_alloc]; omega) (fun g hg => (HO2.out.lt g hg).1))
    have HO5 := hid ho5
    clear ho5 hg5
    go_wp2
    go_roundw
    case rel => exact ⟨k + 1, by omega, by go_num, ownsRow_cast HO5.out rfl (by rw [HS.out, List.map_take]), HB7.out⟩
    case measure => first | (simp [intOf]; done) | (simp [intOf]; omega)
  · obtain rfl : k = 10 := by omega
    go_wp2
    exact bodyPost_ret (v := .tuple #[_, .bool true]) (by simp [results, Tryz.results235, go_sem] <;> rfl) rfl ⟨_, rfl, HO.out, HB.out⟩
theorem OwnSS.partsB {w : World} {lo : Nat} {u : Value} {xss : List (List Int)} (h : OwnSS w lo u xss) : ∃ a c, u = .slice a xss.length c ∧ xss.length ≤ 9223372036854775807 ∧
 Hid (∀ (k : Nat) (xs : List Int), xss[k]? = some xs → ∃ b off a' c', a = some ⟨b, off, none⟩ ∧ lo ≤ b ∧ b < w.heap.size ∧ w.cell? ⟨b, off + k, none⟩ = some (.slice a' xs.length c') ∧ xs.length ≤ 9223372036854775807 ∧
  ∀ x, xs[0]? = some x → ∃ b2 o2, a' = some ⟨b2, o2, none⟩ ∧ lo ≤ b2 ∧ b2 < w.heap.size ∧ w.cell? ⟨b2, o2, none⟩ = some (.int .i64 x)) := by
 have hb := h
 obtain ⟨vs, ho, hi⟩ := h
 obtain ⟨a, c, e, hl, HP⟩ := hb.parts
 refine ⟨a, c, e, hl, fun k xs hk => ?_⟩
 obtain ⟨b, off, a', c', ea, hc, hxl, hI⟩ := HP.out k xs hk
 have hlt := ho.lt b (by rw [e, ea]; rfl)
 have hkl : k < vs.length := by rw [hi.1]; exact (List.getElem?_eq_some_iff.1 hk).1
 have hv : vs[k]? = some vs[k] := List.getElem?_eq_getElem hkl
 have hcell : w.cell? ⟨b, off + k, none⟩ = vs[k]? := by
  obtain ⟨a2, c2, e2, _, _, _, h4⟩ := Sl.of_own ho
  obtain ⟨b4, off4, e4, h5⟩ := h4 (by have := (List.getElem?_eq_some_iff.1 hk).1; omega)
  rw [e] at e2
  cases e2
  rw [ea] at e4
  cases e4
  exact h5 k (by have := (List.getElem?_eq_some_iff.1 hk).1; omega)
 have hvk : vs[k] = .slice a' xs.length c' := by
  rw [hcell, hv] at hc; exact Option.some.inj hc
 refine ⟨b, off, a', c', ea, hlt.1, hlt.2, hc, hxl, fun x hx => ?_⟩
 obtain ⟨a3, c3, e3, _, _, HI⟩ := hI.parts
 cases e3
 obtain ⟨b2, o2, e5, h6⟩ := HI.out 0 x hx
 have hin := (hi.2.1 k _ xs hv hk).lt b2 (by rw [hvk, e5]; rfl)
 exact ⟨b2, o2, e5, hin.1, hin.2, by simpa using h6⟩
theorem sToldDigits_c (d l : Int) (w : World) : Calls Tryz.prog 232 #[.agg #[.int .i64 d, .int .i64 l]] w (IntsPost w (tdL d l) (faultB d l)) := by
 obtain ⟨i, hi, hz0, hz1, hz2⟩ := info_parts info_int
 have B0 := hid ((Bk.new w 46 #[.int .i64 d, .int .i64 l]).alloc (.cells #[] 3))
 have HO : Hid (((w.alloc (.cells #[.int .i64 d, .int .i64 l] 46)).alloc (.cells #[] 3)).ownsRow w.heap.size 3 1 (.slice (some ⟨w.heap.size + 1, 0, none⟩) 0 0) 0 []) := by
  have := World.ownsRow_lit (e := 3) (size := 1) (base := w.heap.size) (w.alloc (.cells #[.int .i64 d, .int .i64 l] 46)) #[] 0 (by simp) (by decide) rfl
  rw [World.size_alloc] at this
  exact this
 have HB : Hid (Below w.heap.size w ((w.alloc (.cells #[.int .i64 d, .int .i64 l] 46)).alloc (.cells #[] 3))) := Below.alc (below_one _) _
 have hs0 : ((w.alloc (.cells #[.int .i64 d, .int .i64 l] 46)).alloc (.cells #[] 3)).heap.size = w.heap.size + 2 := by simp
 rcases ha : faultB d l with _ | _
 · have HL := hid (show tdL d l = [] by simp [tdL, ha])
   have HA := hid ha; clear ha
   go_enter Tryz.func232, Tryz.ntmps232
   go_wp2_with fail
   refine (l3Fault_c d l _).mono ?_
   rintro e w1 ⟨rfl, hb1⟩
   rw [HA.out]
   have ho1 := hid (own_keep HO.out hb1)
   have hb2 := hid (HB.out.trans (hb1.mono HB.out.size))
   clear hb1
   go_wp2
   go_ret2
   exact IntsPost.mk' HL.out rfl ho1.out hb2.out
 · have HL := hid (show tdL d l = toldTo (grpL d l) (grpL d l).length by simp [tdL, ha])
   have bd := faultB_true ha
   have HA := hid ha; clear ha
   go_enter Tryz.func232, Tryz.ntmps232
   go_wp2_with fail
   refine (l3Fault_c d l _).mono ?_
   rintro e w1 ⟨rfl, hb1⟩
   rw [HA.out]
   have ho1 := hid (own_keep HO.out hb1)
   have hb2 := hid (HB.out.trans (hb1.mono HB.out.size))
   have q0 : w1.cell? ⟨w.heap.size, 0, none⟩ = some (.int .i64 d) := (B0.out.below hb1).cell 0
   have q1 : w1.cell? ⟨w.heap.size, 1, none⟩ = some (.int .i64 l) := (B0.out.below hb1).cell 1
   have hs1 : w.heap.size + 2 ≤ w1.heap.size := by have := hb1.size; omega
   clear hb1 B0 HO HB hs0
   go_wp2_with fail
   refine (l3Groups_c d l _ bd.1 bd.2.1 bd.2.2.1 bd.2.2.2.1).mono ?_
   rintro e w2 ⟨u, rfl, ho, hb3⟩
   have hb4 := hid (Below.chain hb2.out hb3)
   have ho2 := hid (own_keep ho1.out hb3)
   have hs2 : w1.heap.size ≤ w2.heap.size := hb3.size
   clear hb3 hb2 q0 q1 ho1
   have h10 : (grpL d l).length ≤ 10 := grpTo_le _ _ _
   have HN : Hid (∀ (k : Nat) (xs : List Int), (grpL d l)[k]? = some xs → 0 < xs.length) := fun k xs h => grpL_pos h
   generalize grpL d l = xss at *
   obtain ⟨a, c, rfl, hxl, HC⟩ := ho.partsB
   clear ho
   go_wp2
   go_loopw [4, 6] (fun o j wr => ∃ k : Nat, k ≤ xss.length ∧ j = .int .i64 (k : Int) ∧ Hid (wr.ownsRow w.heap.size 3 1 o (toldTo xss k).length ((toldTo xss k).map (Value.int .i64))) ∧ Hid (Below w.heap.size w wr) ∧ Hid (∀ g, o.ownBlock = some g → g < w1.heap.size ∨ w2.heap.size ≤ g) ∧ Hid (w2.heap.size ≤ wr.heap.size) ∧ Hid (∀ (b o : Nat) (x : Value), w1.heap.size ≤ b → b < w2.heap.size → w2.cell? ⟨b, o, none⟩ = some x → wr.cell? ⟨b, o, none⟩ = some x)) (fun _ j _ => xss.length - (intOf j).toNat)
   case atStart => exact ⟨0, by omega, rfl, ho2, hb4, (fun g hg => by simp [Value.ownBlock] at hg; omega), Nat.le_refl _, fun _ _ _ _ _ h => h⟩
   case round =>
    obtain ⟨k, hk, rfl, HO, HBr, HD, HZ, HK⟩ := hrel
    clear hb4 ho2
    by_cases hlt : k < xss.length
    · have hd : decide ((k : Int) < (xss.length : Int)) = true := by simp; omega
      obtain ⟨xs, hx⟩ := elem_at hlt
      obtain ⟨b, off, a', c', rfl, hbl, hbh, f0, hxsl, HX⟩ := HC.out k xs hx.out
      have hpos := HN.out k xs hx.out
      obtain ⟨x0, hx0⟩ := elem_at hpos
      obtain ⟨b3, o3, rfl, hbl3, hbh3, f1⟩ := HX x0 hx0.out
      have hhd : xs.headD 0 = x0 := headD_of hx0.out
      have g0 := HK.out _ _ _ hbl hbh f0
      have g1 := HK.out _ _ _ hbl3 hbh3 f1
      have hS := toldTo_succ hx.out
      have hle := toldTo_le xss k
      rw [hhd] at hS
      generalize toldTo xss k = cur at *
      have HS := hid hS; clear hS f0 f1 HX hhd hx hx0
      rcases hq : xs.length == 1 with _ | _
      · have hq1 : decide ((xs.length : Int) = 1) = false := by simp at hq ⊢; omega
        have HS2 := hid (show toldTo xss (k + 1) = cur by rw [HS.out, hq]; simp)
        clear HS
        go_wp2
        go_roundw
        case rel => exact ⟨k + 1, by omega, by go_num, by rw [HS2.out]; exact HO, HBr, HD, HZ, HK⟩
        case measure => simp [intOf]; omega
      · have hq1 : decide ((xs.length : Int) = 1) = true := by simp at hq ⊢; omega
        have HS2 := hid (show toldTo xss (k + 1) = cur ++ [x0] by rw [HS.out, hq]; simp)
        clear HS
        go_wp2_with (at_builtin; refine wpList_append_own_at _ rfl _ _ 37 rfl w.heap.size 3 i (.int .i64 0) 1 8 Tryz.underlying37 hi hz0 hz1 hz2 rfl (by decide) _ cur.length (cur.map (Value.int .i64)) rfl (HO.out.alloc _) ⟨wr.heap.size, 0, none⟩ 1 1 [.int .i64 x0] rfl rfl (news_new _ [.int .i64 x0] _) (by simp [Value.oneCell']) (by unfold maxLen; omega) (by omega) (by have := HBr.out.size; simp; omega) ?_)
        intro v' w3 ho5 hg5 _ hat
        have HB3 := hid ((Below.alc HBr.out _).grown hg5 (by have := HBr.out.size; simp; omega) (fun g hg => ((HO.out.alloc (.cells #[.int .i64 x0] 3)).lt g hg).1))
        have HZ3 : Hid (w2.heap.size ≤ w3.heap.size) := by have h1 := hg5.size; have h2 := HZ.out; (try simp only [World.size_alloc] at h1); exact Nat.le_trans h2 (by omega)
        have HD3 : Hid (∀ g, v'.ownBlock = some g → g < w1.heap.size ∨ w2.heap.size ≤ g) := by
         intro g hg
         rcases hat with e | e
         · exact HD.out g (by rw [← e]; exact hg)
         · rw [e] at hg
           simp only [Option.some.injEq] at hg
           have := HZ.out
           (try simp only [World.size_alloc] at hg); omega
        have HK3 : Hid (∀ (b o : Nat) (x : Value), w1.heap.size ≤ b → b < w2.heap.size → w2.cell? ⟨b, o, none⟩ = some x → w3.cell? ⟨b, o, none⟩ = some x) := by
         intro b o x h1 h2 h3
         refine hg5.cell (cell_later (below_one _) (HK.out b o x h1 h2 h3)) (fun e => ?_)
         have := HD.out b e.symm
         omega
        have HO3 := hid ho5
        clear ho5 hg5 hat
        go_wp2
        go_roundw
        case rel => exact ⟨k + 1, by omega, by go_num, by rw [HS2.out]; exact ownsRow_cast HO3.out (by simp) (ints_snoc _ _).symm, HB3, HD3, HZ3, HK3⟩
        case measure => simp [intOf]; omega
    · obtain rfl : k = xss.length := by omega
      have hd : decide ((xss.length : Int) < (xss.length : Int)) = false := by simp
      go_wp2
      go_ret2
      exact IntsPost.mk' HL.out rfl HO.out HBr.out
end Go.Proofs.YtohgjfdbnkjefaaGreatDoor
