/- Texts of this claim, gathered: LogC, LogL, LogM, HelpR. -/
import Derived.Test.YtohgjfdbnkjefaaGreatDoorKx15
import Derived.Deep.RegionHeld3
import Derived.Laws.IdiomStrings
namespace Go.Proofs.YtohgjfdbnkjefaaGreatDoor
open Go.RowKit
set_option linter.unusedVariables false
set_option linter.unusedSimpArgs false
set_option maxRecDepth 100000
structure ValidL (d p : Bs) (n : Int) (es : List (Bs × Bs)) : Prop where
 sz : (d ++ p).length ≤ 30000
 ok : ∀ e ∈ es, OkE e
 le : es.length ≤ 60
 eq : d ++ p = linesS 0 es
 fin : d = [] ∨ ∃ t, d = t ++ [10]
 cnt : n = (es.length : Int)
theorem ValidL.opens {d p : Bs} {n : Int} {es : List (Bs × Bs)} (h : ValidL d p n es) : Opens (d ++ p) es [] := Opens.done h.ok h.le h.eq
theorem ValidL.uniq {d p : Bs} {n n' : Int} {es es' : List (Bs × Bs)} (h : ValidL d p n es) (h' : ValidL d p n' es') : es = es' := (h.opens.uniq h'.opens).1
theorem valid_of {d p : Bs} {n : Int} {es : List (Bs × Bs)} {rest : Bs} (ho : Opens (d ++ p) es rest) (h1 : (d ++ p).length ≤ 30000) (h2 : (linesS 0 es).length = (d ++ p).length) (h3 : n = (es.length : Int)) (h4 : d = [] ∨ ∃ t, d = t ++ [10]) : ValidL d p n es := by
 refine ⟨h1, ho.ok, ho.le, ?_, h4, h3⟩
 have h := ho.eq
 have hr : rest = [] := List.eq_nil_of_length_eq_zero (by have h5 := h2; rw [h, List.length_append] at h5; omega)
 rw [hr, List.append_nil] at h; exact h
theorem valid_to {d p : Bs} {n : Int} {es es' : List (Bs × Bs)} {rest : Bs} (ho : Opens (d ++ p) es rest) (h : ValidL d p n es') : (linesS 0 es).length = (d ++ p).length ∧ n = (es.length : Int) := by
 obtain ⟨rfl, rfl⟩ := ho.uniq h.opens
 exact ⟨by rw [← h.eq], h.cnt⟩
theorem kept_iff {d p : Bs} {es es2 : List (Bs × Bs)} {rest2 : Bs} (hok : ∀ e ∈ es, OkE e) (hle : es.length ≤ 60) (heq : d ++ p = linesS 0 es) (ho2 : Opens d es2 rest2) : (linesS 0 es2).length = d.length ↔ (d = [] ∨ ∃ t, d = t ++ [10]) := by
 constructor
 · intro h
   have h2 := ho2.eq
   have hr : rest2 = [] := List.eq_nil_of_length_eq_zero (by have := congrArg List.length h2; rw [List.length_append] at this; omega)
   rw [hr, List.append_nil] at h2
   rw [h2]; exact linesS_end 0 es2
 · intro h
   obtain ⟨i, hi, hd⟩ := cut_lines hok heq h
   have := Opens.done (s := d) (es := es.take i) (fun e he => hok e (List.mem_of_mem_take he)) (by rw [List.length_take]; omega) hd
   rw [(ho2.uniq this).1, ← hd]
def logV (d p : ByteArray) (n : Int) : Value := .agg #[.string d, .string p, .int .i64 n]
def RecOut (d p : ByteArray) (n : Int) (w : World) (e : Ending) (w' : World) : Prop :=
 ∃ v es ok, e = .returned (.tuple #[v, .bool ok]) ∧ w'.ownsRow w.heap.size 76 2 v es.length (flatR es) ∧
  Hid (ok = true → ValidL d.data.toList p.data.toList n es) ∧ Hid (ok = false → ∀ es', ¬ ValidL d.data.toList p.data.toList n es') ∧ Below w.heap.size w w'
theorem app_list (d p : ByteArray) : (d ++ p).data.toList = d.data.toList ++ p.data.toList := by simp
theorem app_size (d p : ByteArray) : (d ++ p).size = d.size + p.size := by simp [ByteArray.size_append]
theorem HasSuffix_c (s : ByteArray) (w : World) (hs : s.size ≤ 1073741824) : Calls Tryz.prog 123 #[.string s, .string ⟨#[10]⟩] w fun e w' => e = .returned (.bool (Lib.hasSuffix s.data.toList [10])) ∧ w = w' :=
 (Tryz.strings_HasSuffix s ⟨#[10]⟩ w (by omega)).mono fun e w' h => ⟨h.1, h.2.symm⟩
set_option maxHeartbeats 4000000 in
theorem records_c (d p : ByteArray) (n : Int) (w : World) (hd : d.size ≤ 1048576) (hp : p.size ≤ 1048576) (ht : Tab w) : Calls Tryz.prog 70 #[logV d p n] w (RecOut d p n w) := by
 unfold logV
 have hb0 := Lib.hid (below_one (w := w) (.cells #[.string d, .string p, .int .i64 n] 29))
 have HT := Lib.hid ht
 clear ht
 by_cases hbig : 30000 < d.size + p.size
 · have ht1 : decide ((30000 : Int) < (d.size : Int) + (p.size : Int)) = true := by simp; omega
   have HF : Hid (∀ es', ¬ ValidL d.data.toList p.data.toList n es') := fun es' h => by
    have := h.sz
    rw [List.length_append, ba_len, ba_len] at this; omega
   go_enter Tryz.func70, Tryz.ntmps70
   go_wp2
   go_ret2
   exact ⟨_, [], false, rfl, World.ownsRow_nil _ _ _ _, (fun h => by cases h), (fun _ => HF.out), hb0.out⟩
 · have ht1 : decide ((30000 : Int) < (d.size : Int) + (p.size : Int)) = false := by simp; omega
   have hAL := Lib.hid (app_list d p)
   have hAS := Lib.hid (app_size d p)
   have HRL := Lib.hid (fun w => readLog_c (d ++ p) w (by rw [app_size]; omega))
   have hB0 := Lib.hid (Bk.new w 29 #[.string d, .string p, .int .i64 n])
   go_enter Tryz.func70, Tryz.ntmps70
   go_wp2_with fail
   refine (HRL.out _ (HT.out.on hb0.out)).mono ?_
   rintro e w2 ⟨v, es, rest, rfl, ho, hopn, hb2⟩
   rw [hAL.out] at hopn
   generalize d ++ p = all at *
   have hall : all.size ≤ 2097152 := by have := hAS.out; omega
   obtain ⟨a, c, rfl, _⟩ := (Sl.of_own ho).slice
   have B2 := hB0.out.below hb2
   have q0 : w2.cell? ⟨w.heap.size, 0, none⟩ = some (.string d) := B2.cell 0
   have q2 : w2.cell? ⟨w.heap.size, 2, none⟩ = some (.int .i64 n) := B2.cell 2
   have HO := Lib.hid (own_lo (lo' := w.heap.size) ho (by simp))
   have HOp := Lib.hid hopn
   have HB := Lib.hid (Below.chain hb0.out hb2)
   have hlen := linesS_len 0 es hopn.ok (by have := hopn.le; omega)
   have hle := hopn.le
   clear ho hopn hb2 B2 hB0 HRL
   have NO : Hid (((linesS 0 es).length ≠ all.size ∨ n ≠ (es.length : Int) ∨ ¬ (d.data.toList = [] ∨ ∃ t, d.data.toList = t ++ [10])) → RecOut d p n w (.returned (.tuple #[.slice a es.length c, .bool false])) w2) := fun h =>
    ⟨_, es, false, rfl, HO.out, (fun h => by cases h), (fun _ es' hv => by
     obtain ⟨h1, h2⟩ := valid_to HOp.out hv
     rw [List.length_append, ba_len, ba_len, ← hAS.out] at h1
     rcases h with h | h | h
     · exact h h1
     · exact h h2
     · exact h hv.fin), HB.out⟩
   generalize hL : (linesS 0 es).length = L at *
   have HL := Lib.hid hL
   clear hL
   by_cases h1 : L = all.size
   · have t1 : ((L : Int) == (all.size : Int)) = true := by rw [h1]; simp
     by_cases h2 : n = (es.length : Int)
     · have t2 : (n == (es.length : Int)) = true := by rw [h2]; simp
       have YES : Hid ((d.data.toList = [] ∨ ∃ t, d.data.toList = t ++ [10]) → RecOut d p n w (.returned (.tuple #[.slice a es.length c, .bool true])) w2) := fun h =>
        ⟨_, es, true, rfl, HO.out, (fun _ => valid_of HOp.out (by rw [List.length_append, ba_len, ba_len]; omega) (by rw [HL.out, List.length_append, ba_len, ba_len, ← hAS.out, h1]) h2 h), (fun h => by cases h), HB.out⟩
       have H2 := Lib.hid h2
       have H1 := Lib.hid h1
       clear h1 h2
       by_cases h3 : d.size = 0
       · have t3 : d.toList.isEmpty = true := by rw [empty_size]; simp [h3]
         have Y := Lib.hid (YES.out (.inl (List.eq_nil_of_length_eq_zero (by rw [ba_len]; exact h3))))
         clear h3 YES NO
         go_wp2
         go_ret2
         exact Y.out
       · have t3 : d.toList.isEmpty = false := by rw [empty_size]; simp [h3]
         have HS := Lib.hid (HasSuffix_c d)
         have hne : d.data.toList ≠ [] := fun h => h3 (by rw [← ba_len, h]; rfl)
         rcases hsf : Lib.hasSuffix d.data.toList [10] with _ | _
         · have N := Lib.hid (NO.out (.inr (.inr (fun h => by
            rcases h with h | h
            · exact hne h
            · rw [(suffix_iff _).2 h] at hsf; cases hsf))))
           have HSF := Lib.hid hsf
           clear hsf NO YES hne
           go_wp2_with fail
           refine (HS.out _ (by omega)).mono ?_
           rintro e w3 ⟨rfl, rfl⟩
           rw [HSF.out]
           go_wp2
           go_ret2
           exact N.out
         · have Y := Lib.hid (YES.out (.inr ((suffix_iff _).1 hsf)))
           have HSF := Lib.hid hsf
           clear hsf NO YES hne
           go_wp2_with fail
           refine (HS.out _ (by omega)).mono ?_
           rintro e w3 ⟨rfl, rfl⟩
           rw [HSF.out]
           go_wp2
           go_ret2
           exact Y.out
     · have t2 : (n == (es.length : Int)) = false := by simp [h2]
       have N := Lib.hid (NO.out (.inr (.inl h2)))
       clear h2 h1 NO
       go_wp2
       go_ret2
       exact N.out
   · have t1 : ((L : Int) == (all.size : Int)) = false := by simp; omega
     have N := Lib.hid (NO.out (.inl h1))
     clear h1 NO
     go_wp2
     go_ret2
     exact N.out
def ValOut (d p : ByteArray) (n : Int) (w : World) (e : Ending) (w' : World) : Prop :=
 ∃ ok, e = .returned (.bool ok) ∧ (ok = true ↔ ∃ es, ValidL d.data.toList p.data.toList n es) ∧ Below w.heap.size w w'
theorem valOut_no {d p : ByteArray} {n : Int} {w w' : World} (h : ¬ ∃ es, ValidL d.data.toList p.data.toList n es) (hb : Below w.heap.size w w') : ValOut d p n w (.returned (.bool false)) w' :=
 ⟨false, rfl, ⟨(fun h => by cases h), fun h2 => absurd h2 h⟩, hb⟩
theorem valOut_yes {d p : ByteArray} {n : Int} {w w' : World} (h : ∃ es, ValidL d.data.toList p.data.toList n es) (hb : Below w.heap.size w w') : ValOut d p n w (.returned (.bool true)) w' :=
 ⟨true, rfl, ⟨fun _ => h, fun _ => rfl⟩, hb⟩
set_option maxHeartbeats 4000000 in
theorem l12Valid_c (d p : ByteArray) (n : Int) (w : World) (hd : d.size ≤ 1048576) (hp : p.size ≤ 1048576) : Calls Tryz.prog 67 #[logV d p n] w (ValOut d p n w) := by
 unfold logV
 have hb0 := Lib.hid (below_one (w := w) (.cells #[.string d, .string p, .int .i64 n] 29))
 by_cases hbig : 30000 < d.size + p.size
 · have ht1 : decide ((30000 : Int) < (d.size : Int) + (p.size : Int)) = true := by simp; omega
   have HF : Hid (¬ ∃ es', ValidL d.data.toList p.data.toList n es') := fun ⟨es', h⟩ => by
    have := h.sz
    rw [List.length_append, ba_len, ba_len] at this; omega
   go_enter Tryz.func67, Tryz.ntmps67
   go_wp2
   go_ret
   exact valOut_no HF.out hb0.out
 · have ht1 : decide ((30000 : Int) < (d.size : Int) + (p.size : Int)) = false := by simp; omega
   have hAL := Lib.hid (app_list d p)
   have hAS := Lib.hid (app_size d p)
   have HRL := Lib.hid (fun w => l12Open_c (d ++ p) w (by rw [app_size]; omega))
   have HRD := Lib.hid (fun w => l12Open_c d w hd)
   have hB0 := Lib.hid (Bk.new w 29 #[.string d, .string p, .int .i64 n])
   go_enter Tryz.func67, Tryz.ntmps67
   go_wp2_with fail
   refine (HRL.out _).mono ?_
   rintro e w2 ⟨v, es, rest, rfl, ho, hopn, hb2⟩
   rw [hAL.out] at hopn
   generalize d ++ p = all at *
   obtain ⟨a, c, rfl, _⟩ := (Sl.of_own ho).slice
   have B2 := Lib.hid (hB0.out.below hb2)
   have q0 : w2.cell? ⟨w.heap.size, 0, none⟩ = some (.string d) := B2.out.cell 0
   have q1 : w2.cell? ⟨w.heap.size, 1, none⟩ = some (.string p) := B2.out.cell 1
   have q2 : w2.cell? ⟨w.heap.size, 2, none⟩ = some (.int .i64 n) := B2.out.cell 2
   have HOp := Lib.hid hopn
   have HB := Lib.hid (Below.chain hb0.out hb2)
   have hlen := linesS_len 0 es hopn.ok (by have := hopn.le; omega)
   have hle := hopn.le
   clear ho hopn hb2 hB0 HRL
   go_wp2_with fail
   refine (HRD.out _).mono ?_
   rintro e w3 ⟨v2, es2, rest2, rfl, _, hopn2, hb2⟩
   have r0 := cell_later hb2 q0
   have r1 := cell_later hb2 q1
   have r2 := cell_later hb2 q2
   have HOp2 := Lib.hid hopn2
   have HB3 := Lib.hid (Below.chain HB.out hb2)
   clear q0 q1 q2 hb2 hopn2 HB B2 HRD
   have HV : Hid ((∃ es', ValidL d.data.toList p.data.toList n es') ↔ ((linesS 0 es).length = d.size + p.size ∧ (linesS 0 es2).length = d.size ∧ n = (es.length : Int))) := by
    have e1 : (d.data.toList ++ p.data.toList).length = d.size + p.size := by rw [List.length_append, ba_len, ba_len]
    constructor
    · rintro ⟨es', hv⟩
      obtain ⟨h1, h2⟩ := valid_to HOp.out hv
      obtain ⟨rfl, hr⟩ := HOp.out.uniq hv.opens
      have h3 := (kept_iff hv.ok hv.le hv.eq HOp2.out).2 hv.fin
      rw [ba_len] at h3
      exact ⟨by rw [h1, e1], h3, h2⟩
    · rintro ⟨h1, h2, h3⟩
      have hrest : rest = [] := List.eq_nil_of_length_eq_zero (by
       have h := congrArg List.length HOp.out.eq
       rw [e1, List.length_append] at h; omega)
      have heq := HOp.out.eq
      rw [hrest, List.append_nil] at heq
      exact ⟨es, valid_of HOp.out (by rw [e1]; omega) (by rw [e1]; exact h1) h3 ((kept_iff HOp.out.ok HOp.out.le heq HOp2.out).1 (by rw [ba_len]; exact h2))⟩
   generalize (linesS 0 es).length = L at *
   generalize (linesS 0 es2).length = L2 at *
   by_cases h1 : L = d.size + p.size
   · have t1 : ((L : Int) == (d.size : Int) + (p.size : Int)) = true := by rw [h1]; simp
     by_cases h2 : L2 = d.size
     · have t2 : ((L2 : Int) == (d.size : Int)) = true := by rw [h2]; simp
       by_cases h3 : n = (es.length : Int)
       · have t3 : ((es.length : Int) == n) = true := by rw [h3]; simp
         have Y := Lib.hid (valOut_yes (w := w) (w' := w3) (HV.out.2 ⟨h1, h2, h3⟩) HB3.out)
         clear h1 h2 h3 HV
         go_wp2
         go_ret
         exact Y.out
       · have t3 : ((es.length : Int) == n) = false := by simp; omega
         have N := Lib.hid (valOut_no (w := w) (w' := w3) (fun h => h3 (HV.out.1 h).2.2) HB3.out)
         clear h1 h2 h3 HV
         go_wp2
         go_ret
         exact N.out
     · have t2 : ((L2 : Int) == (d.size : Int)) = false := by simp; omega
       have N := Lib.hid (valOut_no (w := w) (w' := w3) (fun h => h2 (HV.out.1 h).2.1) HB3.out)
       clear h1 h2 HV
       go_wp2
       go_ret
       exact N.out
   · have t1 : ((L : Int) == (d.size : Int) + (p.size : Int)) = false := by simp; omega
     have N := Lib.hid (valOut_no (w := w) (w' := w3) (fun h => h1 (HV.out.1 h).1) HB3.out)
     clear h1 HV
     go_wp2
     go_ret
     exact N.out
theorem IsValidLog_c (d p : ByteArray) (n : Int) (w : World) (hd : d.size ≤ 1048576) (hp : p.size ≤ 1048576) (ht : Tab w) : Calls Tryz.prog 81 #[logV d p n] w (ValOut d p n w) := by
 have HR := Lib.hid (fun w => records_c d p n w hd hp)
 unfold logV at *
 have hb0 := Lib.hid (below_one (w := w) (.cells #[.string d, .string p, .int .i64 n] 29))
 have HT := Lib.hid ht
 clear ht
 go_enter Tryz.func81, Tryz.ntmps81
 go_wp2_with fail
 refine (HR.out _ (HT.out.on hb0.out)).mono ?_
 rintro e w2 ⟨v, es, ok, rfl, ho, H1, H2, hb2⟩
 have hB := Lib.hid (Below.chain hb0.out hb2)
 clear hb2 ho
 go_wp2
 go_ret
 refine ⟨ok, rfl, ⟨fun h => ⟨es, H1.out h⟩, fun ⟨es', h⟩ => ?_⟩, hB.out⟩
 cases ok with
 | true => rfl
 | false => exact absurd h (H2.out rfl es')
def szL (d p : ByteArray) (k : Int) : Int := if k - d.size < 0 then -1 else if k - d.size - p.size < 0 then -1 else k - d.size - p.size
theorem szL_le {d p : ByteArray} (hs : ¬ szL d p 1048576 < 0) : d.size ≤ 1048576 ∧ p.size ≤ 1048576 := by
 unfold szL at hs; split at hs
 · omega
 · split at hs <;> omega
theorem szL_bd (d p : ByteArray) (k : Int) (hk : k ≤ 1048576) : -1 ≤ szL d p k ∧ szL d p k ≤ 1048576 := by
 unfold szL; split
 · omega
 · split <;> omega
theorem szLog_c (d p : ByteArray) (n : Int) (k : Int) (w : World) (hk0 : 0 ≤ k) (hk : k ≤ 1048576) (hd : d.size ≤ 9223372036854775807) (hp : p.size ≤ 9223372036854775807) : Calls Tryz.prog 23 #[logV d p n, .int .i64 k] w fun e w' => e = .returned (.int .i64 (szL d p k)) ∧ Below w.heap.size w w' := by
 unfold logV
 by_cases h1 : k - (d.size : Int) < 0
 · have HF := Lib.hid (show szL d p k = -1 by unfold szL; rw [if_pos h1])
   go_enter Tryz.func23, Tryz.ntmps23
   go_wp2
   go_ret
   exact ⟨by rw [HF.out]; rfl, by (repeat (first | exact Below.refl _ _ | exact (Below.refl _ _).drew | assumption | exact below_one _ | refine Below.chain ?_ (by assumption) | refine Below.drew ?_ | refine Below.alc ?_ _ | refine below_drewN ?_ | (refine Below.setCell ?_ ?_ _) | exact Nat.le_refl _ | (simp; done) | (simp; omega)))⟩
 · by_cases h2 : k - (d.size : Int) - (p.size : Int) < 0
   · have HF := Lib.hid (show szL d p k = -1 by unfold szL; rw [if_neg h1, if_pos h2])
     go_enter Tryz.func23, Tryz.ntmps23
     go_wp2
     go_ret
     exact ⟨by rw [HF.out]; rfl, by (repeat (first | exact Below.refl _ _ | exact (Below.refl _ _).drew | assumption | exact below_one _ | refine Below.chain ?_ (by assumption) | refine Below.drew ?_ | refine Below.alc ?_ _ | refine below_drewN ?_ | (refine Below.setCell ?_ ?_ _) | exact Nat.le_refl _ | (simp; done) | (simp; omega)))⟩
   · have HF := Lib.hid (show szL d p k = k - d.size - p.size by unfold szL; rw [if_neg h1, if_neg h2])
     go_enter Tryz.func23, Tryz.ntmps23
     go_wp2
     go_ret
     exact ⟨by rw [HF.out]; rfl, by (repeat (first | exact Below.refl _ _ | exact (Below.refl _ _).drew | assumption | exact below_one _ | refine Below.chain ?_ (by assumption) | refine Below.drew ?_ | refine Below.alc ?_ _ | refine below_drewN ?_ | (refine Below.setCell ?_ ?_ _) | exact Nat.le_refl _ | (simp; done) | (simp; omega)))⟩
theorem toLog_c (d p : ByteArray) (n : Int) (w : World) : Calls Tryz.prog 26 #[logV d p n] w fun e w' => e = .returned (logV d p n) ∧ Below w.heap.size w w' := by
 unfold logV
 go_enter Tryz.func26, Tryz.ntmps26
 go_wp2
 exact bodyPost_ret (v := .agg #[.string d, .string p, .int .i64 n]) (by simp [results, Tryz.results26, go_sem]) rfl ⟨rfl, by (repeat (first | exact Below.refl _ _ | exact (Below.refl _ _).drew | assumption | exact below_one _ | refine Below.chain ?_ (by assumption) | refine Below.drew ?_ | refine Below.alc ?_ _ | refine below_drewN ?_ | (refine Below.setCell ?_ ?_ _) | exact Nat.le_refl _ | (simp; done) | (simp; omega)))⟩
end Go.Proofs.YtohgjfdbnkjefaaGreatDoor
