/- Texts of this claim, gathered: Cwx, LwDoJob, Trip, Jobs, Cwk, Cws, Cwb, Cwh, Cwc, Cwi, Cwy, Cwd, Told2. -/
import Derived.Test.YtohgjfdbnkjefaaGreatDoorKw14
import Derived.Deep.DeepCutAuto
import Derived.Deep.RegionHeld3
namespace Go.Proofs.YtohgjfdbnkjefaaGreatDoor
open Go.RowKit
set_option linter.unusedVariables false
set_option linter.unusedSimpArgs false
set_option maxRecDepth 100000
theorem xor_c {c : Int} (c0 : 0 ≤ c) (c1 : c ≤ 127) {k : Nat} : ∃ z : Int, bits .xor .i64 (dg (k : Int)) c = z ∧ bits .xor .i64 (dg (k : Int)) c = z ∧ 0 ≤ z ∧ z ≤ 127 ∧ cnt z = (farC c k : Int) ∧ farC c k ≤ 7 := by
 obtain ⟨d0, d1⟩ := dg_bd (k : Int)
 obtain ⟨n, rfl⟩ := Int.eq_ofNat_of_zero_le c0
 obtain ⟨m, hm⟩ := Int.eq_ofNat_of_zero_le d0
 have h1 : bits .xor .i64 (dg (k : Int)) (n : Int) = ((m ^^^ n : Nat) : Int) := by rw [hm]; exact i64_xor_nat m n (by omega) (by omega)
 have h2 : m ^^^ n < 2 ^ 7 := Nat.xor_lt_two_pow (by omega) (by omega)
 have hz : (0 : Int) ≤ ((m ^^^ n : Nat) : Int) ∧ ((m ^^^ n : Nat) : Int) ≤ 127 := ⟨by omega, by omega⟩
 obtain ⟨e1, e2⟩ := cnt_cN hz.1 hz.2
 have hf : farC (n : Int) k = cN ((m ^^^ n : Nat) : Int) := by
  unfold farC cN
  rw [hm, Int.toNat_natCast, Int.toNat_natCast]
 exact ⟨_, h1, h1, hz.1, hz.2, by rw [e1, hf], by rw [hf]; exact e2⟩
theorem least_le (c : Int) (k : Nat) : leastC c k ≤ 8 := by
 induction k with
 | zero => exact Nat.le_refl 8
 | succ k ih => unfold leastC; omega
def atC (c : Int) (m k : Nat) : List Int := ((List.range k).filter fun i => farC c i == m).map fun (i : Nat) => (i : Int)
theorem atC_succ (c : Int) (m k : Nat) : atC c m (k + 1) = atC c m k ++ if farC c k == m then [(k : Int)] else [] := by
 unfold atC
 rw [List.range_succ, List.filter_append, List.map_append]
 congr 1
 by_cases h : (farC c k == m) = true
 · simp [h]
 · simp [h]
theorem atC_le (c : Int) (m k : Nat) : (atC c m k).length ≤ k := by
 unfold atC
 rw [List.length_map]
 exact Nat.le_trans (List.length_filter_le _ _) (by simp)
theorem nearL_at (c : Int) : nearL c = atC c (leastC c 10) 10 := rfl
set_option maxHeartbeats 1000000 in
theorem nearest_c (v : Value) (c : Int) (c0 : 0 ≤ c) (c1 : c ≤ 127) (w : World) (hv : Ints w v dig) : Calls Tryz.prog 256 #[v, .int .i64 c] w fun e w' => e = .returned (.int .i64 (leastC c 10 : Int)) ∧ Below w.heap.size w w' := by
 obtain ⟨a, cc, rfl, _, _, HC⟩ := hv.parts
 clear hv
 have hl10 : dig.length = 10 := rfl
 rw [hl10]
 go_enter Tryz.func256, Tryz.ntmps256
 go_wp2
 go_loopw [5, 7, 10] (fun m _ i wr => ∃ k : Nat, k ≤ 10 ∧ i = .int .i64 (k : Int) ∧ m = .int .i64 ((leastC c k : Nat) : Int) ∧ Below w.heap.size w wr) (fun _ _ i _ => 11 - (intOf i).toNat)
 case atStart => exact ⟨0, by omega, rfl, rfl, Below.refl _ _⟩
 case round =>
  obtain ⟨k, hk, rfl, rfl, hb⟩ := hrel
  have HB := Lib.hid hb
  clear hb
  by_cases hlt : k < 10
  · have hd : decide ((k : Int) < 10) = true := by simp; omega
    obtain ⟨b, off, rfl, hc0⟩ := HC.out k (dg (k : Int)) (digs_get hlt)
    have hcell := cell_later HB.out hc0
    obtain ⟨z, hz, _, z0, z1, hcn, hf7⟩ := xor_c c0 c1 (k := k)
    have HN := Lib.hid (fun W => count_c z z0 z1 W)
    rw [hcn] at HN
    have HS : Hid (leastC c (k + 1) = min (leastC c k) (farC c k)) := rfl
    have hle := least_le c k
    clear hc0 hcn
    generalize leastC c k = m at *
    generalize farC c k = f at *
    go_wp2_with fail
    refine (HN.out _).mono ?_
    rintro e w2 ⟨rfl, rfl⟩
    have hmin : min (m : Int) (f : Int) = ((min m f : Nat) : Int) := by omega
    go_wp2
    go_roundw
    case rel => exact ⟨k + 1, by omega, by go_num, by rw [HS.out], HB.out⟩
    case measure => first | (simp [intOf]; done) | (simp [intOf]; omega)
  · obtain rfl : k = 10 := by omega
    go_wp2
    go_ret
    exact ⟨rfl, HB.out⟩
theorem dig_new : ∀ k : Fin 10, firstAt (fun y => decide (dg (k.1 : Int) = y)) (dig.take k.1) = -1 := by decide +kernel
theorem ContainsN_c (v : Value) (xs : List Int) (x : Int) (w : World) (hv : Ints w v xs) (hn : firstAt (fun y => decide (x = y)) xs = -1) :
 Calls Tryz.prog 285 #[v, .int .i64 x] w fun e w' => e = .returned (.bool false) ∧ w = w' := by
 have HI := Lib.hid (Index_c v xs x w hv)
 rw [hn] at HI
 obtain ⟨a, c, rfl, _, _, _⟩ := hv.parts
 clear hv
 go_enter Tryz.func285, Tryz.ntmps285
 go_wp2_with fail
 refine HI.out.mono ?_
 rintro e w2 ⟨rfl, rfl⟩
 go_wp2
 go_ret
 exact ⟨rfl, rfl⟩
theorem Ints.take {w : World} {a : Option Addr} {c n : Nat} {xs : List Int} (h : Ints w (.slice a n c) xs) {k : Nat} (hk : k ≤ n) : Ints w (.slice a k c) (xs.take k) := by
 obtain ⟨a', c', he, h1, h2, h3, h4⟩ := h
 simp only [Value.slice.injEq] at he
 obtain ⟨rfl, rfl, rfl⟩ := he
 have hl : (xs.take k).length = k := by rw [List.length_take]; omega
 refine ⟨a, c, by rw [hl], by omega, h2, by rw [List.length_map]; omega, fun h0 => ?_⟩
 obtain ⟨b, off, e, hc⟩ := h4 (by omega)
 refine ⟨b, off, e, fun j hj => ?_⟩
 rw [hc j (by omega), List.map_take, List.getElem?_take, if_pos (by omega)]
set_option maxHeartbeats 1000000 in
theorem IsCodeD_c (v : Value) (w : World) (hv : Ints w v dig) : Calls Tryz.prog 255 #[v] w fun e w' => e = .returned (.bool true) ∧ w = w' := by
 have HV := Lib.hid hv
 obtain ⟨a, cc, rfl, hcc, hcm, HC⟩ := hv.parts
 clear hv
 have HLD : Hid (dig.length = 10) := rfl
 rw [HLD.out] at hcc ⊢
 have hin : inB 10 1 12 = true := by decide
 go_enter Tryz.func255, Tryz.ntmps255
 go_wp2_with fail
 refine (within_c _ _ _ _).mono ?_
 rintro e w1 ⟨rfl, rfl⟩
 rw [hin]
 go_wp2
 go_loopw [3, 4, 11] (fun _ _ i wr => ∃ k : Nat, k ≤ 10 ∧ i = .int .i64 (k : Int) ∧ w = wr) (fun _ _ i _ => 11 - (intOf i).toNat)
 case atStart => exact ⟨0, by omega, rfl, by trivial⟩
 case round =>
  obtain ⟨k, hk, rfl, rfl⟩ := hrel
  by_cases hlt : k < 10
  · have hd : decide ((k : Int) < 10) = true := by simp; omega
    obtain ⟨b, off, rfl, hc0⟩ := HC.out k (dg (k : Int)) (digs_get hlt)
    have hcb : cellB (dg (k : Int)) = true := inB_mk (dg_bd (k : Int)).1 (dg_bd (k : Int)).2
    have HCT := Lib.hid (ContainsN_c _ (dig.take k) (dg (k : Int)) w (HV.out.take (k := k) (by rw [HLD.out]; omega)) (dig_new ⟨k, hlt⟩))
    have hkc : k ≤ cc := by omega
    go_wp2_with fail
    refine (IsCell_c _ _).mono ?_
    rintro e w2 ⟨rfl, rfl⟩
    rw [hcb]
    go_wp2_with fail
    refine HCT.out.mono ?_
    rintro e w3 ⟨rfl, rfl⟩
    go_wp2
    go_roundw
    case rel => exact ⟨k + 1, by omega, by go_num, by trivial⟩
    case measure => first | (simp [intOf]; done) | (simp [intOf]; omega)
  · obtain rfl : k = 10 := by omega
    go_wp2
    go_ret
    exact ⟨rfl, rfl⟩
set_option maxHeartbeats 1000000 in
theorem NearestOf_c (v : Value) (c : Int) (c0 : 0 ≤ c) (c1 : c ≤ 127) (w : World) (hv : Ints w v dig) :
 Calls Tryz.prog 201 #[v, .int .i64 c] w fun e w' => ∃ u m, e = .returned (.tuple #[u, .int .i64 m, .bool true]) ∧ w'.ownsRow w.heap.size 3 1 u (nearL c).length ((nearL c).map (Value.int .i64)) ∧ Below w.heap.size w w' := by
 obtain ⟨inf, hi, hz0, hz1, hz2⟩ := info_parts info_int
 have HV := Lib.hid hv
 have HI := Lib.hid (IsCodeD_c v w hv)
 have HN := Lib.hid (nearest_c v c c0 c1 w hv)
 obtain ⟨a, cc, rfl, hcc, hcm, HC⟩ := hv.parts
 clear hv
 have HLD : Hid (dig.length = 10) := rfl
 rw [HLD.out] at hcc ⊢
 have hcb : cellB c = true := inB_mk c0 c1
 go_enter Tryz.func201, Tryz.ntmps201
 go_wp2_with fail
 refine HI.out.mono ?_
 rintro e w1 ⟨rfl, rfl⟩
 go_wp2_with fail
 refine (IsCell_c _ _).mono ?_
 rintro e w2 ⟨rfl, rfl⟩
 rw [hcb]
 go_wp2_with fail
 refine HN.out.mono ?_
 rintro e w3 ⟨rfl, hb3⟩
 have HB3 := Lib.hid hb3
 have hw3 := hb3.size
 clear hb3
 have HNL : Hid (nearL c = atC c (leastC c 10) 10) := rfl
 generalize leastC c 10 = m at *
 go_wp2
 go_loopw [8, 9, 10, 24] (fun o _ _ i wr => ∃ k : Nat, k ≤ 10 ∧ i = .int .i64 (k : Int) ∧ wr.ownsRow w.heap.size 3 1 o (atC c m k).length ((atC c m k).map (Value.int .i64)) ∧ Below w.heap.size w wr) (fun _ _ _ i _ => 11 - (intOf i).toNat)
 case atStart => exact ⟨0, by omega, rfl, World.ownsRow_nil _ _ _ _, HB3.out⟩
 case round =>
  obtain ⟨k, hk, rfl, ho, hb⟩ := hrel
  have HO := Lib.hid ho
  have HB := Lib.hid hb
  clear ho hb
  by_cases hlt : k < 10
  · have hd : decide ((k : Int) < 10) = true := by simp; omega
    obtain ⟨b, off, rfl, hc0⟩ := HC.out k (dg (k : Int)) (digs_get hlt)
    have hcell := cell_later HB.out hc0
    obtain ⟨z, hz, _, z0, z1, hcn, hf7⟩ := xor_c c0 c1 (k := k)
    have HF := Lib.hid (fun W => count_c z z0 z1 W)
    rw [hcn] at HF
    have HS := Lib.hid (atC_succ c m k)
    have hle := atC_le c m k
    clear hc0 hcn
    generalize atC c m k = cur at *
    generalize farC c k = f at *
    go_wp2_with fail
    refine (HF.out _).mono ?_
    rintro e w4 ⟨rfl, rfl⟩
    by_cases hfm : f = m
    · subst hfm
      have HS2 : Hid (atC c f (k + 1) = cur ++ [(k : Int)]) := by show _ = _; rw [HS.out]; simp
      have hee : ((f : Int) == (f : Int)) = true := by simp
      go_wp2_with (at_builtin; refine wpList_append_own_at _ rfl _ _ 37 rfl w.heap.size 3 inf (.int .i64 0) 1 8 Tryz.underlying37 hi hz0 hz1 hz2 rfl (by decide) _ cur.length (cur.map (Value.int .i64)) rfl (HO.out.alloc _) ⟨wr.heap.size, 0, none⟩ 1 1 [.int .i64 (k : Int)] rfl rfl (news_new _ [.int .i64 (k : Int)] _) (by simp [Value.oneCell']) (by unfold maxLen; omega) (by omega) (by have := HB.out.size; simp; omega) ?_)
      intro v' w3 ho5 hg5 _ _
      have HB7 := Lib.hid ((Below.alc HB.out _).grown hg5 (by have := HB.out.size; simp; omega) (fun g hg => (HO.out.lt g hg).1))
      have HO5 := Lib.hid ho5
      clear ho5 hg5
      go_wp2
      go_roundw
      case rel => exact ⟨k + 1, by omega, by go_num, ownsRow_cast HO5.out (by rw [HS2.out]; simp) (by rw [HS2.out]; simp), HB7.out⟩
      case measure => first | (simp [intOf]; done) | (simp [intOf]; omega)
    · have hee : ((f : Int) == (m : Int)) = false := by simp; omega
      have HS2 : Hid (atC c m (k + 1) = cur) := by show _ = _; rw [HS.out]; simp [hfm]
      go_wp2
      go_roundw
      case rel => exact ⟨k + 1, by omega, by go_num, by rw [HS2.out]; exact HO.out, HB.out⟩
      case measure => first | (simp [intOf]; done) | (simp [intOf]; omega)
  · obtain rfl : k = 10 := by omega
    go_wp2
    rename_i vv _
    exact bodyPost_ret (v := .tuple #[_, .int .i64 (m : Int), .bool true]) (by simp [results, Tryz.results201, go_sem]; rfl) rfl ⟨_, _, rfl, by rw [HNL.out]; exact HO.out, HB.out⟩
end Go.Proofs.YtohgjfdbnkjefaaGreatDoor
namespace Go.Proofs.YtohgjfdbnkjefaaGreatDoor
open Go.RowKit
set_option linter.unusedVariables false
set_option linter.unusedSimpArgs false
set_option maxRecDepth 100000
attribute [local go_sem ↓] Go.wp_at_zero Go.wp_at_succ
end Go.Proofs.YtohgjfdbnkjefaaGreatDoor
namespace Go.Proofs.YtohgjfdbnkjefaaGreatDoor
open Go.RowKit
set_option linter.unusedVariables false
set_option maxRecDepth 100000
abbrev J3 : Type := Int × Int × Int
def flat3 (ps : List J3) : List Value := ps.flatMap fun p => [.int .i64 p.1, .int .i64 p.2.1, .int .i64 p.2.2]
theorem flat3_cons (p : J3) (ps : List J3) : flat3 (p :: ps) = .int .i64 p.1 :: .int .i64 p.2.1 :: .int .i64 p.2.2 :: flat3 ps := by simp [flat3]
theorem flat3_at {ps : List J3} {k : Nat} {p : J3} (h : ps[k]? = some p) : (flat3 ps)[k * 3]? = some (.int .i64 p.1) ∧ (flat3 ps)[k * 3 + 1]? = some (.int .i64 p.2.1) ∧ (flat3 ps)[k * 3 + 2]? = some (.int .i64 p.2.2) := by
 induction ps generalizing k with
 | nil => simp at h
 | cons q ps ih =>
  rw [flat3_cons]
  cases k with
  | zero => simp at h; subst h; simp
  | succ k =>
   simp at h
   have := ih h
   refine ⟨?_, ?_, ?_⟩
   · rw [show (k + 1) * 3 = k * 3 + 3 by omega]; simpa using this.1
   · rw [show (k + 1) * 3 + 1 = k * 3 + 1 + 3 by omega]; simpa using this.2.1
   · rw [show (k + 1) * 3 + 2 = k * 3 + 2 + 3 by omega]; simpa using this.2.2
def Trips (w : World) (v : Value) (ps : List J3) : Prop := Sl w 3 v ps.length (flat3 ps)
theorem Trips.below {w w' : World} {v : Value} {ps : List J3} (h : Trips w v ps) (hb : Below w.heap.size w w') : Trips w' v ps := Sl.below h hb
theorem Trips.le {w : World} {v : Value} {ps : List J3} (h : Trips w v ps) : ps.length ≤ 9223372036854775807 := Sl.le h
theorem Trips.of_own {w : World} {lo : Nat} {e : TypeId} {v : Value} {ps : List J3} (h : w.ownsRow lo e 3 v ps.length (flat3 ps)) : Trips w v ps := Sl.of_own h
theorem Trips.parts {w : World} {v : Value} {ps : List J3} (h : Trips w v ps) : ∃ a c, v = .slice a ps.length c ∧ ps.length ≤ c ∧ c ≤ 9223372036854775807 ∧
 Hid (∀ k p, ps[k]? = some p → ∃ b off, a = some ⟨b, off, none⟩ ∧ w.cell? ⟨b, off + k * 3, none⟩ = some (.int .i64 p.1) ∧ w.cell? ⟨b, off + k * 3 + 1, none⟩ = some (.int .i64 p.2.1) ∧ w.cell? ⟨b, off + k * 3 + 2, none⟩ = some (.int .i64 p.2.2)) := by
 obtain ⟨a, c, rfl, h1, h2, h3, h4⟩ := h
 refine ⟨a, c, rfl, h1, by unfold maxLen at h2; omega, fun k p hk => ?_⟩
 have hlt : k < ps.length := (List.getElem?_eq_some_iff.1 hk).1
 obtain ⟨b, off, rfl, hc⟩ := h4 (by omega)
 have := flat3_at hk
 refine ⟨b, off, rfl, ?_, ?_, ?_⟩
 · rw [hc _ (by omega)]; exact this.1
 · rw [Nat.add_assoc, hc _ (by omega)]; exact this.2.1
 · rw [Nat.add_assoc, hc _ (by omega)]; exact this.2.2
def z3 : J3 := (0, 0, 0)
end Go.Proofs.YtohgjfdbnkjefaaGreatDoor
namespace Go.Proofs.YtohgjfdbnkjefaaGreatDoor
open Go.RowKit
set_option linter.unusedVariables false
set_option linter.unusedSimpArgs false
set_option maxRecDepth 100000
attribute [local go_sem ↓] Go.wp_at_zero Go.wp_at_succ
def runJ : List J3 → List Int → List Int × Nat
 | [], b => (b, 0)
 | j :: t, b => if possB b j.1 j.2.1 j.2.2 then ((runJ t (doB b j.1 j.2.1 j.2.2)).1, (runJ t (doB b j.1 j.2.1 j.2.2)).2 + 1) else (b, 0)
theorem poss_make {b : List Int} {k a v : Int} (h : possB b k a v = true) : makeB b k a v = true := by
 unfold possB at h; simp only [Bool.and_eq_true] at h; exact h.2
theorem poss_good {b : List Int} {k a v : Int} (hb : b.length = 19) (hg : goodB b = true) (h : possB b k a v = true) : goodB (doB b k a v) = true ∧ (doB b k a v).length = 19 := by
 have hc := cnt_good hb hg (poss_make h)
 unfold possB at h; simp only [Bool.and_eq_true] at h
 exact ⟨by rw [hc.1]; exact h.1, hc.2.1⟩
def RunAt (js : List J3) (b0 : List Int) (k : Nat) (cur : List Int) : Prop := runJ js b0 = ((runJ (js.drop k) cur).1, k + (runJ (js.drop k) cur).2)
theorem RunAt.zero (js : List J3) (b0 : List Int) : RunAt js b0 0 b0 := by unfold RunAt; simp
theorem drop_at {α : Type} {js : List α} {k : Nat} {x : α} (hx : js[k]? = some x) : js.drop k = x :: js.drop (k + 1) := by
 have hlt := (List.getElem?_eq_some_iff.1 hx).1
 rw [List.drop_eq_getElem_cons hlt]
 rw [List.getElem?_eq_getElem hlt] at hx
 rw [Option.some.inj hx]
theorem RunAt.next {js : List J3} {b0 cur : List Int} {k : Nat} {x : J3} (h : RunAt js b0 k cur) (hx : js[k]? = some x) (hp : possB cur x.1 x.2.1 x.2.2 = true) : RunAt js b0 (k + 1) (doB cur x.1 x.2.1 x.2.2) := by
 unfold RunAt at *
 rw [h, drop_at hx]
 conv => lhs; unfold runJ
 rw [if_pos hp]
 simp; omega
theorem RunAt.stop {js : List J3} {b0 cur : List Int} {k : Nat} {x : J3} (h : RunAt js b0 k cur) (hx : js[k]? = some x) (hp : possB cur x.1 x.2.1 x.2.2 = false) : runJ js b0 = (cur, k) := by
 unfold RunAt at *
 rw [h, drop_at hx]
 unfold runJ
 rw [if_neg (by rw [hp]; simp)]; rfl
theorem RunAt.done {js : List J3} {b0 cur : List Int} (h : RunAt js b0 js.length cur) : runJ js b0 = (cur, js.length) := by
 unfold RunAt at *
 rw [h, List.drop_length]; rfl
theorem res_cell3 {P : Program} {fn : Func} {r k m : Nat} {t : TypeId} {tmps : Array Value} {w : World} {g : Nat} {v : Value} (h : fn.results = #[.cell r t, .tmp k, .tmp m]) (hr : tmps.getD r undef = .pointer (some ⟨g, 0, none⟩)) (hl : (loadVar t ⟨g, 0, none⟩).run P w = .ok v w) :
 (results fn tmps).run P w = .ok (.tuple #[v, tmps.getD k undef, tmps.getD m undef]) w := by
 unfold results
 rw [h]
 simp only [List.mapM_toArray, List.mapM_cons, List.mapM_nil, Sem.run_bind, Sem.run_pure, Sem.run_map, Result.andThen_ok, hr, asAddr, hl]
 rfl
end Go.Proofs.YtohgjfdbnkjefaaGreatDoor
namespace Go.Proofs.YtohgjfdbnkjefaaGreatDoor
set_option linter.unusedVariables false
set_option linter.unusedSimpArgs false
structure Rp (m : Nat) (s : Bs) : Prop where
 len : s.length ≤ m
 prt : ∀ c ∈ s, 32 ≤ c.toNat ∧ c.toNat ≤ 126 ∧ c ≠ 35
theorem Rp.le {m n : Nat} {s : Bs} (h : Rp m s) (hm : m ≤ n) : Rp n s := ⟨Nat.le_trans h.len hm, h.prt⟩
theorem Rp.dec {u : Nat} (h : u ≤ 999999) : Rp 6 (Lib.decDigits u) :=
 ⟨dec_len 5 u (by omega), fun c hc => by
  have := decDigits_digit u c hc
  exact ⟨by omega, by omega, fun e => by subst e; exact absurd this.1 (by decide)⟩⟩
theorem join_rp {m : Nat} : ∀ (xs : List Bs), (∀ x ∈ xs, Rp m x) → Rp ((m + 1) * xs.length) (joinS xs)
 | [], _ => ⟨Nat.le_refl 0, fun c hc => by cases hc⟩
 | [x], h => by
  have h1 := h x (by simp)
  unfold joinS
  rw [join_one']
  exact ⟨by have := h1.len; simp only [List.length_cons, List.length_nil]; omega, h1.prt⟩
 | x :: y :: t, h => by
  have h1 := h x (by simp)
  have h2 := join_rp (y :: t) (fun z hz => h z (List.mem_cons_of_mem _ hz))
  unfold joinS at *
  rw [join_cons2]
  refine ⟨?_, fun c hc => ?_⟩
  · have a := h1.len
    have b := h2.len
    rw [List.length_append, List.length_append, List.length_cons (a := x), Nat.mul_succ]
    simp only [List.length_cons, List.length_nil] at *
    omega
  · rw [List.mem_append, List.mem_append] at hc
    rcases hc with (hc | hc) | hc
    · exact h1.prt c hc
    · rw [List.mem_singleton.1 hc]; decide
    · exact h2.prt c hc
theorem listT_rp {l : List Int} (hl : l.length ≤ 10) (hx : ∀ x ∈ l, 0 ≤ x ∧ x ≤ 999999) : Rp 70 (listT l) := by
 unfold listT
 split
 · exact ⟨by decide, by decide⟩
 · have h := join_rp (m := 6) (l.map Lib.itoa) (fun s hs => by
    obtain ⟨x, hx', rfl⟩ := List.mem_map.1 hs
    obtain ⟨h0, h1⟩ := hx x hx'
    obtain ⟨u, rfl⟩ := Int.eq_ofNat_of_zero_le h0
    rw [itoa_nat]
    exact Rp.dec (by omega))
   rw [List.length_map] at h
   exact h.le (by omega)
theorem rowW_rp (c : Int) : Rp 7 (rowW c) := ⟨rowW_len c, fun x hx => by
 unfold rowW at hx
 split at hx
 · rw [List.mem_singleton.1 hx]; decide
 · unfold barsTo at hx
   obtain ⟨i, hi, h⟩ := List.mem_filterMap.1 hx
   have hi7 := List.mem_range.1 hi
   split at h
   · obtain rfl := Option.some.inj h
     have : ∀ j : Fin 7, 32 ≤ (UInt8.ofNat (97 + j.1)).toNat ∧ (UInt8.ofNat (97 + j.1)).toNat ≤ 126 ∧ UInt8.ofNat (97 + j.1) ≠ 35 := by decide +kernel
     exact this ⟨i, hi7⟩
   · cases h⟩
theorem rowTx_rp {r : List Int} (h : r.length ≤ 6) : Rp 48 (rowTx r) := by
 have := join_rp (m := 7) (r.map rowW) (fun s hs => by obtain ⟨x, _, rfl⟩ := List.mem_map.1 hs; exact rowW_rp x)
 rw [List.length_map] at this
 exact this.le (by omega)
theorem partT_rp {a b : Nat} (ha : a ≤ 999999) (hb : b ≤ 999999) : Rp 13 (partT a b) := by
 have h1 := Rp.dec ha
 have h2 := Rp.dec hb
 unfold partT
 refine ⟨?_, fun c hc => ?_⟩
 · rw [List.length_append, List.length_cons]; have a := h1.len; have b := h2.len; omega
 · rw [List.mem_append, List.mem_cons] at hc
   rcases hc with hc | hc | hc
   · exact h1.prt c hc
   · rw [hc]; decide
   · exact h2.prt c hc
theorem yesT_rp (b : Bool) : Rp 3 (yesT b) := by cases b <;> exact ⟨by decide, by decide⟩
theorem frA_le (ok : Bool) (a b : Nat) : frA ok a b ≤ a := by unfold frA; split; exact Nat.div_le_self _ _; exact Nat.zero_le _
theorem frB_le (ok : Bool) (a b : Nat) : frB ok a b ≤ b := by unfold frB; split; exact Nat.div_le_self _ _; exact Nat.zero_le _
theorem csA_le (d l : Int) : csA d l ≤ 999999 ∧ csB d l ≤ 999999 := by
 have h1 := frA_le (faultB d l) (csS d l) 100
 have h2 := frB_le (faultB d l) (csS d l) 100
 have h3 := (cs_facts d l).1
 unfold csA csB
 exact ⟨by omega, by omega⟩
theorem mbA_le {n : Int} (h : inB n 0 9999 = true) : mbA n ≤ 999999 ∧ mbB n ≤ 999999 := by
 have h0 := inB_true h
 have h1 := frA_le (inB n 0 9999) (mbS (n.toNat + 1)) (n.toNat + 1)
 have h2 := frB_le (inB n 0 9999) (mbS (n.toNat + 1)) (n.toNat + 1)
 have h3 := mbS_le (n.toNat + 1) (by omega)
 unfold mbA mbB
 exact ⟨by omega, by omega⟩
theorem tdL_bd (d l : Int) : ∀ x ∈ tdL d l, 0 ≤ x ∧ x ≤ 999999 := fun x hx => by
 unfold tdL at hx
 split at hx
 · unfold toldTo at hx
   rw [List.take_length, List.mem_map] at hx
   obtain ⟨g, hg, rfl⟩ := hx
   obtain ⟨hg1, _⟩ := List.mem_filter.1 hg
   unfold grpL grpTo at hg1
   obtain ⟨y, _, rfl⟩ := List.mem_map.1 hg1
   cases hq : grpOf d l y with
   | nil => exact ⟨Int.le_refl 0, by decide⟩
   | cons a t =>
    have : a ∈ grpOf d l y := by rw [hq]; simp
    exact digL_bd _ _ _ a this
 · cases hx
theorem nearL_le (c : Int) : (nearL c).length ≤ 10 := by rw [nearL_at]; exact atC_le _ _ _
theorem nearL_bd (c : Int) : ∀ x ∈ nearL c, 0 ≤ x ∧ x ≤ 999999 := fun x hx => by
 unfold nearL nearTo at hx
 obtain ⟨i, hi, rfl⟩ := List.mem_map.1 hx
 have := List.mem_range.1 (List.mem_filter.1 hi).1
 omega
theorem some_ite {α : Type} {c : Prop} [Decidable c] {x : α} {o : Option α} {s : α} (h : (if c then some x else o) = some s) : x = s ∨ o = some s := by
 by_cases hc : c
 · rw [if_pos hc] at h; exact .inl (Option.some.inj h)
 · rw [if_neg hc] at h; exact .inr h
theorem showR_len (b : List Int) : (showR b).length = 6 := shTo_len b 6
theorem tellM_rp {b : List Int} (hb : b.length = 19) (hg : goodB b = true) (w : Bs) (s : Bs) (h : tellM b w = some s) : Rp 250 s := by
 unfold tellM at h
 rcases some_ite h with rfl | h
 · exact (rowTx_rp (by rw [showR_len]; omega)).le (by decide)
 rcases some_ite h with rfl | h
 · exact (rowTx_rp (by rw [List.length_take]; omega)).le (by decide)
 split at h
 · cases hn : numO (showR b) with
   | none => rw [hn] at h; cases h
   | some n =>
    rw [hn] at h
    obtain rfl := Option.some.inj h
    exact (Rp.dec (numO_le hn (by rw [showR_len]; omega))).le (by decide)
 rcases some_ite h with rfl | h
 · exact (Rp.dec (lit_le hg)).le (by decide)
 split at h
 · rcases some_ite h with rfl | h
   · exact (listT_rp (by have := fnL_le (fsB b) (showR b); omega) (fnL_bd _ _)).le (by decide)
   · cases h
 rcases some_ite h with rfl | h
 · exact (Rp.dec ltA_le).le (by decide)
 · cases h
theorem placeM_rp {b : List Int} (w : Bs) (k : Int) (s : Bs) (h : placeM b w k = some s) : Rp 250 s := by
 unfold placeM at h
 split at h
 · cases h
 rcases some_ite h with rfl | h
 · exact (listT_rp (digL_le _ _ _) (digL_bd _ _ _)).le (by decide)
 rcases some_ite h with rfl | h
 · exact (listT_rp (tdL_le _ _) (tdL_bd _ _)).le (by decide)
 rcases some_ite h with rfl | h
 · exact (Rp.dec (by have : (grpL (bF b k.toNat).1 (bF b k.toNat).2).length ≤ 10 := grpTo_le _ _ _; omega)).le (by decide)
 rcases some_ite h with rfl | h
 · exact (yesT_rp _).le (by decide)
 rcases some_ite h with rfl | h
 · exact (listT_rp (nearL_le _) (nearL_bd _)).le (by decide)
 rcases some_ite h with rfl | h
 · exact (partT_rp (csA_le _ _).1 (csA_le _ _).2).le (by decide)
 · cases h
theorem askM_rp {b : List Int} (hb : b.length = 19) (hg : goodB b = true) (w : Bs) (l : List Int) (s : Bs) (h : askM b w l = some s) : Rp 250 s := by
 unfold askM at h
 split at h
 · exact tellM_rp hb hg w s h
 · rename_i x
   split at h
   · split at h
     · rename_i hx
       obtain rfl := Option.some.inj h
       exact (partT_rp (mbA_le hx).1 (mbA_le hx).2).le (by decide)
     · cases h
   · exact placeM_rp _ _ _ h
 · split at h
   · rcases some_ite h with rfl | h
     · exact (yesT_rp _).le (by decide)
     · cases h
   · cases h
 · cases h
theorem execM_ok {b : List Int} (hb : b.length = 19) (hg : goodB b = true) (line : Bs) :
 ((execM b line).1.length = 19 ∧ goodB (execM b line).1 = true) ∧ (∀ s, (execM b line).2 = some s → Rp 250 s) ∧ (sayO (execM b line).2 = [63] → (execM b line).1 = b) := by
 have hno : ((b.length = 19 ∧ goodB b = true) ∧ (∀ s, (none : Option Bs) = some s → Rp 250 s) ∧ (sayO none = [63] → b = b)) := ⟨⟨hb, hg⟩, (fun s h => by cases h), fun _ => rfl⟩
 unfold execM
 simp only
 split
 · exact hno
 · split
   · exact hno
   · split
     · split
       · rename_i hp
         have := poss_good hb hg hp.2
         refine ⟨⟨this.2, this.1⟩, fun s h => ?_, fun h => ?_⟩
         · obtain rfl := Option.some.inj h
           exact (rowTx_rp (by rw [showR_len]; omega)).le (by decide)
         · exfalso
           have h2 : rowTx (showR (doB b _ _ _)) = [63] := h
           have h3 := congrArg List.length h2
           unfold rowTx showR shTo at h3
           rw [show List.range 6 = [0, 1, 2, 3, 4, 5] from rfl] at h3
           simp only [List.map_cons, List.map_nil, joinS, join_cons2, join_one', List.length_append, List.length_cons, List.length_nil] at h3
           omega
       · exact hno
     · exact ⟨⟨hb, hg⟩, askM_rp hb hg _ _, fun _ => rfl⟩
theorem sayM_rp {b : List Int} (hb : b.length = 19) (hg : goodB b = true) (line : Bs) : Rp 250 (sayO (execM b line).2) := by
 cases h : (execM b line).2 with
 | none => exact ⟨by decide, by decide⟩
 | some s => exact (execM_ok hb hg line).2.1 s h
theorem recB_of {c : ByteArray} {r : Bs} (hc : cmdB c = true) (hr : Rp 250 r) : recB c (bs r) = true := by
 unfold recB
 rw [hc]
 have h1 : printB (bs r) = true := by
  unfold printB
  rw [bs_list, List.all_eq_true]
  intro x hx
  rw [prB_eq, prU_iff]
  exact hr.prt x hx
 have h2 : decide (((bs r).size : Int) ≤ 250) = true := by rw [bs_size]; have := hr.len; simp; omega
 rw [h1, h2]; rfl
open Go.RowKit
set_option maxRecDepth 100000
def SayOut (o : Option Bs) (w : World) (e : Ending) (w' : World) : Prop := e = .returned (.string (bs (sayO o))) ∧ Below w.heap.size w w'
theorem SayOut.mk' {o : Option Bs} {t : Bs} {w w' : World} (h : sayO o = t) (hb : Below w.heap.size w w') : SayOut o w (.returned (.string (bs t))) w' := ⟨by rw [h], hb⟩
theorem nums_snoc (l : List Bs) (x : Bs) : numsM (l ++ [x]) = (numsM l).bind fun a => (rdO x).map fun n => a ++ [n] := by
 unfold numsM
 rw [List.mapM_append]
 cases l.mapM rdO with
 | none => rfl
 | some a =>
  cases h : rdO x with
  | none => simp [h]
  | some n => simp [h]
theorem nums_stop (l t : List Bs) (h : numsM l = none) : numsM (l ++ t) = none := by
 unfold numsM at *
 rw [List.mapM_append, h]; rfl
theorem nums_len : ∀ (l : List Bs) (a : List Int), numsM l = some a → a.length = l.length := by
 intro l
 induction l with
 | nil => intro a h; unfold numsM at h; simp at h; subst h; rfl
 | cons x t ih =>
  intro a h
  unfold numsM at h
  simp only [List.mapM_cons] at h
  cases hx : rdO x with
  | none => rw [hx] at h; cases h
  | some n =>
   rw [hx] at h
   cases ht : t.mapM rdO with
   | none => rw [ht] at h; cases h
   | some q =>
    rw [ht] at h
    have := ih q ht
    have h2 : n :: q = a := Option.some.inj h
    rw [← h2]; simp [this]
theorem take_tail {l : List Bs} {k : Nat} {x : Bs} (hk : 1 ≤ k) (hx : l[k]? = some x) : (l.take (k + 1)).tail = (l.take k).tail ++ [x] := by
 rw [take_snoc hx]
 cases h : l.take k with
 | nil =>
  have := congrArg List.length h
  rw [List.length_take, List.length_nil] at this
  have hl := (List.getElem?_eq_some_iff.1 hx).1
  omega
 | cons y t => rfl
theorem tail_split (l : List Bs) (k : Nat) (hk : 1 ≤ k) : l.tail = (l.take k).tail ++ l.drop k := by
 cases l with
 | nil => simp
 | cons y t =>
  obtain ⟨m, rfl⟩ : ∃ m, k = m + 1 := ⟨k - 1, by omega⟩
  simp
theorem split_mem (c : UInt8) (s : Bs) : ∀ x ∈ splitS c s, x.length ≤ s.length := by
 have key : (∀ x ∈ (splSt c s).1, x.length ≤ s.length) ∧ (splSt c s).2.length ≤ s.length := by
  refine snocB (M := fun s => (∀ x ∈ (splSt c s).1, x.length ≤ s.length) ∧ (splSt c s).2.length ≤ s.length) ⟨(fun x hx => by cases hx), Nat.le_refl 0⟩ (fun l y ih => ?_) s
  rw [splSt_snoc, List.length_append]
  unfold splStep
  split
  · refine ⟨fun x hx => ?_, Nat.zero_le _⟩
    rcases List.mem_append.1 hx with h | h
    · have := ih.1 x h; omega
    · rw [List.mem_singleton.1 h]; have := ih.2; omega
  · refine ⟨fun x hx => ?_, ?_⟩
    · have := ih.1 x hx; omega
    · have := ih.2
      simp only [List.length_append, List.length_cons, List.length_nil]; omega
 intro x hx
 unfold splitS at hx
 rcases List.mem_append.1 hx with h | h
 · exact key.1 x h
 · rw [List.mem_singleton.1 h]; exact key.2
theorem split_len (c : UInt8) (s : Bs) : (splitS c s).length ≤ s.length + 1 := by
 obtain ⟨p, h1, h2⟩ := splSt_cur c s
 have h3 := congrArg List.length h1
 rw [List.length_append] at h3
 unfold splitS
 rw [List.length_append]
 simp only [List.length_cons, List.length_nil]
 omega
theorem split_pos (c : UInt8) (s : Bs) : 1 ≤ (splitS c s).length := by unfold splitS; rw [List.length_append]; simp
theorem split_head (c : UInt8) (s : Bs) : (splitS c s)[0]? = some ((splitS c s).headD []) := by
 have := split_pos c s
 cases h : splitS c s with
 | nil => rw [h] at this; simp at this
 | cons x t => rfl
def wsL (line : Bs) : List Bs := splitS 32 line
def hdL (line : Bs) : Bs := (wsL line).headD []
theorem execM_def (b : List Int) (line : Bs) : execM b line = match numsM (wsL line).tail with
 | none => (b, none)
 | some l => if 2 < l.length then (b, none) else match kindM (hdL line) with
  | some (k, n) => if l.length = n ∧ possB b k (l.getD 0 0) (l.getD 1 0) = true then (doB b k (l.getD 0 0) (l.getD 1 0), some (rowTx (showR (doB b k (l.getD 0 0) (l.getD 1 0))))) else (b, none)
  | none => (b, askM b (hdL line) l) := rfl
theorem execM_bad {b : List Int} {line : Bs} (h : numsM (wsL line).tail = none) : execM b line = (b, none) := by rw [execM_def, h]
theorem execM_long {b : List Int} {line : Bs} {l : List Int} (h : numsM (wsL line).tail = some l) (hl : 2 < l.length) : execM b line = (b, none) := by
 rw [execM_def, h]; simp only; rw [if_pos hl]
theorem execM_ask {b : List Int} {line : Bs} {l : List Int} (h : numsM (wsL line).tail = some l) (hl : ¬ 2 < l.length) (hk : kindM (hdL line) = none) : execM b line = (b, askM b (hdL line) l) := by
 rw [execM_def, h]; simp only; rw [if_neg hl, hk]
theorem execM_no {b : List Int} {line : Bs} {l : List Int} {k : Int} {n : Nat} (h : numsM (wsL line).tail = some l) (hl : ¬ 2 < l.length) (hk : kindM (hdL line) = some (k, n)) (hno : ¬ (l.length = n ∧ possB b k (l.getD 0 0) (l.getD 1 0) = true)) : execM b line = (b, none) := by
 rw [execM_def, h]; simp only; rw [if_neg hl, hk]; simp only; rw [if_neg hno]
theorem execM_do {b : List Int} {line : Bs} {l : List Int} {k : Int} {n : Nat} (h : numsM (wsL line).tail = some l) (hl : ¬ 2 < l.length) (hk : kindM (hdL line) = some (k, n)) (hn : l.length = n) (hp : possB b k (l.getD 0 0) (l.getD 1 0) = true) :
 execM b line = (doB b k (l.getD 0 0) (l.getD 1 0), some (rowTx (showR (doB b k (l.getD 0 0) (l.getD 1 0))))) := by
 rw [execM_def, h]; simp only; rw [if_neg hl, hk]; simp only; rw [if_pos ⟨hn, hp⟩]
end Go.Proofs.YtohgjfdbnkjefaaGreatDoor
