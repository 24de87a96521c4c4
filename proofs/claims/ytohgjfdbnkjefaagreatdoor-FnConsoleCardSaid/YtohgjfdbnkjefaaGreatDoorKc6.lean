import Derived.Test.YtohgjfdbnkjefaaGreatDoorKc5
import Derived.Lib.ConvBytes
import Derived.Laws.IdiomStrings
import Derived.Deep.RegionHeld3
open Go.Lib (hid)
namespace Go.Proofs.YtohgjfdbnkjefaaGreatDoor
open Go.RowKit
set_option linter.unusedVariables false
set_option linter.unusedSimpArgs false
set_option maxRecDepth 100000
structure ValidL (d p : Bs) (n : Int) (es : List (Bs × Bs)) : Prop where
 sz : (d ++ p).length ≤ 30000
 ok : ∀ e ∈ es, OkE e
 le : es.length ≤ 60
 eq : d ++ p = linesS 0 es
 fin : d = [] ∨ ∃ t, d = t ++ [10]
 cnt : n = (es.length : Int)
theorem ValidL.opens {d p : Bs} {n : Int} {es : List (Bs × Bs)} (h : ValidL d p n es) : Opens (d ++ p) es [] := Opens.done h.ok h.le h.eq
theorem ValidL.uniq {d p : Bs} {n n' : Int} {es es' : List (Bs × Bs)} (h : ValidL d p n es) (h' : ValidL d p n' es') : es = es' := (h.opens.uniq h'.opens).1
theorem valid_of {d p : Bs} {n : Int} {es : List (Bs × Bs)} {rest : Bs} (ho : Opens (d ++ p) es rest) (h1 : (d ++ p).length ≤ 30000) (h2 : (linesS 0 es).length = (d ++ p).length) (h3 : n = (es.length : Int)) (h4 : d = [] ∨ ∃ t, d = t ++ [10]) : ValidL d p n es := by
 refine ⟨h1, ho.ok, ho.le, ?_, h4, h3⟩
 have h := ho.eq
 have hr : rest = [] := List.eq_nil_of_length_eq_zero (by have h5 := h2; rw [h, List.length_append] at h5; omega)
 rw [hr, List.append_nil] at h; exact h
theorem valid_to {d p : Bs} {n : Int} {es es' : List (Bs × Bs)} {rest : Bs} (ho : Opens (d ++ p) es rest) (h : ValidL d p n es') : (linesS 0 es).length = (d ++ p).length ∧ n = (es.length : Int) := by
 obtain ⟨rfl, rfl⟩ := ho.uniq h.opens
 exact ⟨by rw [← h.eq], h.cnt⟩
theorem kept_iff {d p : Bs} {es es2 : List (Bs × Bs)} {rest2 : Bs} (hok : ∀ e ∈ es, OkE e) (hle : es.length ≤ 60) (heq : d ++ p = linesS 0 es) (ho2 : Opens d es2 rest2) : (linesS 0 es2).length = d.length ↔ (d = [] ∨ ∃ t, d = t ++ [10]) := by
 constructor
 · intro h
   have h2 := ho2.eq
   have hr : rest2 = [] := List.eq_nil_of_length_eq_zero (by have := congrArg List.length h2; rw [List.length_append] at this; omega)
   rw [hr, List.append_nil] at h2
   rw [h2]; exact linesS_end 0 es2
 · intro h
   obtain ⟨i, hi, hd⟩ := cut_lines hok heq h
   have := Opens.done (s := d) (es := es.take i) (fun e he => hok e (List.mem_of_mem_take he)) (by rw [List.length_take]; omega) hd
   rw [(ho2.uniq this).1, ← hd]
def logV (d p : ByteArray) (n : Int) : Value := .agg #[.string d, .string p, .int .i64 n]
def RecOut (d p : ByteArray) (n : Int) (w : World) (e : Ending) (w' : World) : Prop :=
 ∃ v es ok, e = .returned (.tuple #[v, .bool ok]) ∧ w'.ownsRow w.heap.size 76 2 v es.length (flatR es) ∧
  Hid (ok = true → ValidL d.data.toList p.data.toList n es) ∧ Hid (ok = false → ∀ es', ¬ ValidL d.data.toList p.data.toList n es') ∧ Below w.heap.size w w'
theorem app_list (d p : ByteArray) : (d ++ p).data.toList = d.data.toList ++ p.data.toList := by simp
theorem app_size (d p : ByteArray) : (d ++ p).size = d.size + p.size := by simp [ByteArray.size_append]
theorem HasSuffix_c (s : ByteArray) (w : World) (hs : s.size ≤ 1073741824) : Calls Tryz.prog 123 #[.string s, .string ⟨#[10]⟩] w fun e w' => e = .returned (.bool (Lib.hasSuffix s.data.toList [10])) ∧ w = w' :=
 (Tryz.strings_HasSuffix s ⟨#[10]⟩ w (by omega)).mono fun e w' h => ⟨h.1, h.2.symm⟩
set_option maxHeartbeats 4000000 in
theorem records_c (d p : ByteArray) (n : Int) (w : World) (hd : d.size ≤ 1048576) (hp : p.size ≤ 1048576) (ht : Tab w) : Calls Tryz.prog 70 #[logV d p n] w (RecOut d p n w) := by
 unfold logV
 have hb0 := hid (below_one (w := w) (.cells #[.string d, .string p, .int .i64 n] 29))
 have HT := hid ht
 clear ht
 by_cases hbig : 30000 < d.size + p.size
 · have ht1 : decide ((30000 : Int) < (d.size : Int) + (p.size : Int)) = true := by simp; omega
   have HF : Hid (∀ es', ¬ ValidL d.data.toList p.data.toList n es') := fun es' h => by
    have := h.sz
    rw [List.length_append, ba_len, ba_len] at this; omega
   go_enter Tryz.func70, Tryz.ntmps70
   go_wp2
   go_ret2
   exact ⟨_, [], false, rfl, World.ownsRow_nil _ _ _ _, (fun h => by cases h), (fun _ => HF.out), hb0.out⟩
 · have ht1 : decide ((30000 : Int) < (d.size : Int) + (p.size : Int)) = false := by simp; omega
   have hAL := hid (app_list d p)
   have hAS := hid (app_size d p)
   have HRL := hid (fun w => readLog_c (d ++ p) w (by rw [app_size]; omega))
   have hB0 := hid (Bk.new w 29 #[.string d, .string p, .int .i64 n])
   go_enter Tryz.func70, Tryz.ntmps70
   go_wp2_with fail
   refine (HRL.out _ (HT.out.on hb0.out)).mono ?_
   rintro e w2 ⟨v, es, rest, rfl, ho, hopn, hb2⟩
   rw [hAL.out] at hopn
   generalize d ++ p = all at *
   have hall : all.size ≤ 2097152 := by have := hAS.out; omega
   obtain ⟨a, c, rfl, _⟩ := (Sl.of_own ho).slice
   have B2 := hB0.out.below hb2
   have q0 : w2.cell? ⟨w.heap.size, 0, none⟩ = some (.string d) := B2.cell 0
   have q2 : w2.cell? ⟨w.heap.size, 2, none⟩ = some (.int .i64 n) := B2.cell 2
   have HO := hid (own_lo (lo' := w.heap.size) ho (by simp))
   have HOp := hid hopn
   have HB := hid (Below.chain hb0.out hb2)
   have hlen := linesS_len 0 es hopn.ok (by have := hopn.le; omega)
   have hle := hopn.le
   clear ho hopn hb2 B2 hB0 HRL
   have NO : Hid (((linesS 0 es).length ≠ all.size ∨ n ≠ (es.length : Int) ∨ ¬ (d.data.toList = [] ∨ ∃ t, d.data.toList = t ++ [10])) → RecOut d p n w (.returned (.tuple #[.slice a es.length c, .bool false])) w2) := fun h =>
    ⟨_, es, false, rfl, HO.out, (fun h => by cases h), (fun _ es' hv => by
     obtain ⟨h1, h2⟩ := valid_to HOp.out hv
     rw [List.length_append, ba_len, ba_len, ← hAS.out] at h1
     rcases h with h | h | h
     · exact h h1
     · exact h h2
     · exact h hv.fin), HB.out⟩
   generalize hL : (linesS 0 es).length = L at *
   have HL := hid hL
   clear hL
   by_cases h1 : L = all.size
   · have t1 : ((L : Int) == (all.size : Int)) = true := by rw [h1]; simp
     by_cases h2 : n = (es.length : Int)
     · have t2 : (n == (es.length : Int)) = true := by rw [h2]; simp
       have YES : Hid ((d.data.toList = [] ∨ ∃ t, d.data.toList = t ++ [10]) → RecOut d p n w (.returned (.tuple #[.slice a es.length c, .bool true])) w2) := fun h =>
        ⟨_, es, true, rfl, HO.out, (fun _ => valid_of HOp.out (by rw [List.length_append, ba_len, ba_len]; omega) (by rw [HL.out, List.length_append, ba_len, ba_len, ← hAS.out, h1]) h2 h), (fun h => by cases h), HB.out⟩
       have H2 := hid h2
       have H1 := hid h1
       clear h1 h2
       by_cases h3 : d.size = 0
       · have t3 : d.toList.isEmpty = true := by rw [empty_size]; simp [h3]
         have Y := hid (YES.out (.inl (List.eq_nil_of_length_eq_zero (by rw [ba_len]; exact h3))))
         clear h3 YES NO
         go_wp2
         go_ret2
         exact Y.out
       · have t3 : d.toList.isEmpty = false := by rw [empty_size]; simp [h3]
         have HS := hid (HasSuffix_c d)
         have hne : d.data.toList ≠ [] := fun h => h3 (by rw [← ba_len, h]; rfl)
         rcases hsf : Lib.hasSuffix d.data.toList [10] with _ | _
         · have N := hid (NO.out (.inr (.inr (fun h => by
            rcases h with h | h
            · exact hne h
            · rw [(suffix_iff _).2 h] at hsf; cases hsf))))
           have HSF := hid hsf
           clear hsf NO YES hne
           go_wp2_with fail
           refine (HS.out _ (by omega)).mono ?_
           rintro e w3 ⟨rfl, rfl⟩
           rw [HSF.out]
           go_wp2
           go_ret2
           exact N.out
         · have Y := hid (YES.out (.inr ((suffix_iff _).1 hsf)))
           have HSF := hid hsf
           clear hsf NO YES hne
           go_wp2_with fail
           refine (HS.out _ (by omega)).mono ?_
           rintro e w3 ⟨rfl, rfl⟩
           rw [HSF.out]
           go_wp2
           go_ret2
           exact Y.out
     · have t2 : (n == (es.length : Int)) = false := by simp [h2]
       have N := hid (NO.out (.inr (.inl h2)))
       clear h2 h1 NO
       go_wp2
       go_ret2
       exact N.out
   · have t1 : ((L : Int) == (all.size : Int)) = false := by simp; omega
     have N := hid (NO.out (.inl h1))
     clear h1 NO
     go_wp2
     go_ret2
     exact N.out
def ValOut (d p : ByteArray) (n : Int) (w : World) (e : Ending) (w' : World) : Prop :=
 ∃ ok, e = .returned (.bool ok) ∧ (ok = true ↔ ∃ es, ValidL d.data.toList p.data.toList n es) ∧ Below w.heap.size w w'
theorem valOut_no {d p : ByteArray} {n : Int} {w w' : World} (h : ¬ ∃ es, ValidL d.data.toList p.data.toList n es) (hb : Below w.heap.size w w') : ValOut d p n w (.returned (.bool false)) w' :=
 ⟨false, rfl, ⟨(fun h => by cases h), fun h2 => absurd h2 h⟩, hb⟩
theorem valOut_yes {d p : ByteArray} {n : Int} {w w' : World} (h : ∃ es, ValidL d.data.toList p.data.toList n es) (hb : Below w.heap.size w w') : ValOut d p n w (.returned (.bool true)) w' :=
 ⟨true, rfl, ⟨fun _ => h, fun _ => rfl⟩, hb⟩
set_option maxHeartbeats 4000000 in
theorem l12Valid_c (d p : ByteArray) (n : Int) (w : World) (hd : d.size ≤ 1048576) (hp : p.size ≤ 1048576) : Calls Tryz.prog 67 #[logV d p n] w (ValOut d p n w) := by
 unfold logV
 have hb0 := hid (below_one (w := w) (.cells #[.string d, .string p, .int .i64 n] 29))
 by_cases hbig : 30000 < d.size + p.size
 · have ht1 : decide ((30000 : Int) < (d.size : Int) + (p.size : Int)) = true := by simp; omega
   have HF : Hid (¬ ∃ es', ValidL d.data.toList p.data.toList n es') := fun ⟨es', h⟩ => by
    have := h.sz
    rw [List.length_append, ba_len, ba_len] at this; omega
   go_enter Tryz.func67, Tryz.ntmps67
   go_wp2
   go_ret
   exact valOut_no HF.out hb0.out
 · have ht1 : decide ((30000 : Int) < (d.size : Int) + (p.size : Int)) = false := by simp; omega
   have hAL := hid (app_list d p)
   have hAS := hid (app_size d p)
   have HRL := hid (fun w => l12Open_c (d ++ p) w (by rw [app_size]; omega))
   have HRD := hid (fun w => l12Open_c d w hd)
   have hB0 := hid (Bk.new w 29 #[.string d, .string p, .int .i64 n])
   go_enter Tryz.func67, Tryz.ntmps67
   go_wp2_with fail
   refine (HRL.out _).mono ?_
   rintro e w2 ⟨v, es, rest, rfl, ho, hopn, hb2⟩
   rw [hAL.out] at hopn
   generalize d ++ p = all at *
   obtain ⟨a, c, rfl, _⟩ := (Sl.of_own ho).slice
   have B2 := hid (hB0.out.below hb2)
   have q0 : w2.cell? ⟨w.heap.size, 0, none⟩ = some (.string d) := B2.out.cell 0
   have q1 : w2.cell? ⟨w.heap.size, 1, none⟩ = some (.string p) := B2.out.cell 1
   have q2 : w2.cell? ⟨w.heap.size, 2, none⟩ = some (.int .i64 n) := B2.out.cell 2
   have HOp := hid hopn
   have HB := hid (Below.chain hb0.out hb2)
   have hlen := linesS_len 0 es hopn.ok (by have := hopn.le; omega)
   have hle := hopn.le
   clear ho hopn hb2 hB0 HRL
   go_wp2_with fail
   refine (HRD.out _).mono ?_
   rintro e w3 ⟨v2, es2, rest2, rfl, _, hopn2, hb2⟩
   have r0 := cell_later hb2 q0
   have r1 := cell_later hb2 q1
   have r2 := cell_later hb2 q2
   have HOp2 := hid hopn2
   have HB3 := hid (Below.chain HB.out hb2)
   clear q0 q1 q2 hb2 hopn2 HB B2 HRD
   have HV : Hid ((∃ es', ValidL d.data.toList p.data.toList n es') ↔ ((linesS 0 es).length = d.size + p.size ∧ (linesS 0 es2).length = d.size ∧ n = (es.length : Int))) := by
    have e1 : (d.data.toList ++ p.data.toList).length = d.size + p.size := by rw [List.length_append, ba_len, ba_len]
    constructor
    · rintro ⟨es', hv⟩
      obtain ⟨h1, h2⟩ := valid_to HOp.out hv
      obtain ⟨rfl, hr⟩ := HOp.out.uniq hv.opens
      have h3 := (kept_iff hv.ok hv.le hv.eq HOp2.out).2 hv.fin
      rw [ba_len] at h3
      exact ⟨by rw [h1, e1], h3, h2⟩
    · rintro ⟨h1, h2, h3⟩
      have hrest : rest = [] := List.eq_nil_of_length_eq_zero (by
       have h := congrArg List.length HOp.out.eq
       rw [e1, List.length_append] at h; omega)
      have heq := HOp.out.eq
      rw [hrest, List.append_nil] at heq
      exact ⟨es, valid_of HOp.out (by rw [e1]; omega) (by rw [e1]; exact h1) h3 ((kept_iff HOp.out.ok HOp.out.le heq HOp2.out).1 (by rw [ba_len]; exact h2))⟩
   generalize (linesS 0 es).length = L at *
   generalize (linesS 0 es2).length = L2 at *
   by_cases h1 : L = d.size + p.size
   · have t1 : ((L : Int) == (d.size : Int) + (p.size : Int)) = true := by rw [h1]; simp
     by_cases h2 : L2 = d.size
     · have t2 : ((L2 : Int) == (d.size : Int)) = true := by rw [h2]; simp
       by_cases h3 : n = (es.length : Int)
       · have t3 : ((es.length : Int) == n) = true := by rw [h3]; simp
         have Y := hid (valOut_yes (w := w) (w' := w3) (HV.out.2 ⟨h1, h2, h3⟩) HB3.out)
         clear h1 h2 h3 HV
         go_wp2
         go_ret
         exact Y.out
       · have t3 : ((es.length : Int) == n) = false := by simp; omega
         have N := hid (valOut_no (w := w) (w' := w3) (fun h => h3 (HV.out.1 h).2.2) HB3.out)
         clear h1 h2 h3 HV
         go_wp2
         go_ret
         exact N.out
     · have t2 : ((L2 : Int) == (d.size : Int)) = false := by simp; omega
       have N := hid (valOut_no (w := w) (w' := w3) (fun h => h2 (HV.out.1 h).2.1) HB3.out)
       clear h1 h2 HV
       go_wp2
       go_ret
       exact N.out
   · have t1 : ((L : Int) == (d.size : Int) + (p.size : Int)) = false := by simp; omega
     have N := hid (valOut_no (w := w) (w' := w3) (fun h => h1 (HV.out.1 h).1) HB3.out)
     clear h1 HV
     go_wp2
     go_ret
     exact N.out
theorem IsValidLog_c (d p : ByteArray) (n : Int) (w : World) (hd : d.size ≤ 1048576) (hp : p.size ≤ 1048576) (ht : Tab w) : Calls Tryz.prog 81 #[logV d p n] w (ValOut d p n w) := by
 have HR := hid (fun w => records_c d p n w hd hp)
 unfold logV at *
 have hb0 := hid (below_one (w := w) (.cells #[.string d, .string p, .int .i64 n] 29))
 have HT := hid ht
 clear ht
 go_enter Tryz.func81, Tryz.ntmps81
 go_wp2_with fail
 refine (HR.out _ (HT.out.on hb0.out)).mono ?_
 rintro e w2 ⟨v, es, ok, rfl, ho, H1, H2, hb2⟩
 have hB := hid (Below.chain hb0.out hb2)
 clear hb2 ho
 go_wp2
 go_ret
 refine ⟨ok, rfl, ⟨fun h => ⟨es, H1.out h⟩, fun ⟨es', h⟩ => ?_⟩, hB.out⟩
 cases ok with
 | true => rfl
 | false => exact absurd h (H2.out rfl es')
def LRecOut (d p : ByteArray) (n : Int) (w : World) (e : Ending) (w' : World) : Prop :=
 ∃ v es ok, e = .returned (.tuple #[v, .bool ok]) ∧ w'.ownsRow w.heap.size 76 2 v es.length (flatR es) ∧
  ((ok = true ∧ ValidL d.data.toList p.data.toList n es) ∨ (ok = false ∧ es = [] ∧ ∀ es', ¬ ValidL d.data.toList p.data.toList n es')) ∧ Below w.heap.size w w'
set_option maxHeartbeats 1000000 in
theorem LogRecords_c (d p : ByteArray) (n : Int) (w : World) (hd : d.size ≤ 1048576) (hp : p.size ≤ 1048576) (ht : Tab w) : Calls Tryz.prog 45 #[logV d p n] w (LRecOut d p n w) := by
 have HR := hid (fun w => records_c d p n w hd hp)
 unfold logV at *
 have hb0 := hid (below_one (w := w) (.cells #[.string d, .string p, .int .i64 n] 29))
 have HT := hid ht
 clear ht
 go_enter Tryz.func45, Tryz.ntmps45
 go_wp2_with fail
 refine (HR.out _ (HT.out.on hb0.out)).mono ?_
 rintro e w2 ⟨v, es, ok, rfl, ho, H1, H2, hb2⟩
 have hB := hid (Below.chain hb0.out hb2)
 have HO := hid (own_lo (lo' := w.heap.size) ho (by simp))
 clear hb2 ho
 cases ok with
 | false =>
  go_wp2
  go_ret2
  exact ⟨_, [], false, rfl, World.ownsRow_nil _ _ _ _, .inr ⟨rfl, rfl, H2.out trivial⟩, hB.out⟩
 | true =>
  go_wp2
  go_ret2
  exact ⟨v, es, true, rfl, HO.out, .inl ⟨rfl, H1.out trivial⟩, hB.out⟩
theorem Sl.partsW {w : World} {v : Value} {n : Nat} {xs : List Value} (h : Sl w 1 v n xs) : ∃ a c, v = .slice a n c ∧ n ≤ c ∧ c ≤ 9223372036854775807 ∧
 Hid (∀ k x, xs[k]? = some x → ∃ b off, a = some ⟨b, off, none⟩ ∧ w.cell? ⟨b, off + k, none⟩ = some x) := by
 obtain ⟨a, c, rfl, h1, h2, h3, h4⟩ := h
 refine ⟨a, c, rfl, h1, by unfold maxLen at h2; omega, fun k x hk => ?_⟩
 have hlt : k < xs.length := (List.getElem?_eq_some_iff.1 hk).1
 obtain ⟨b, off, rfl, hc⟩ := h4 (by omega)
 exact ⟨b, off, rfl, by rw [hc k (by omega), hk]⟩
def DrawTx (w : World) (g m n : Nat) (e : Ending) (w' : World) : Prop := ∃ s : ByteArray, e = .returned (.string s) ∧ s.size ≤ n ∧ CStep w w' g m
theorem of_c (v : Value) (xs : List ByteArray) (B g m : Nat) (w : World) (h : CurAt w g m) (hm : m + 2 < 4611686018427387904) (hv : Sl w 1 v xs.length (xs.map Value.string)) (hne : v.ownBlock ≠ some g) (hp : 0 < xs.length) (hB : ∀ s ∈ xs, s.size ≤ B) :
 Calls Tryz.prog 135 #[.pointer (some ⟨g, 0, none⟩), v] w (DrawTx w g (m + 2) B) := by
 have HC := hid h
 have HV := hid hv
 obtain ⟨a, c, rfl, _, _, _⟩ := hv.partsW
 have HNE := hid hne
 clear h hne hv
 go_enter Tryz.func135, Tryz.ntmps135
 go_wp2_with fail
 refine (pick_c xs.length g m _ HC.out hm).mono ?_
 rintro e w1 ⟨x, rfl, hx, hs⟩
 obtain ⟨k, rfl⟩ := Int.eq_ofNat_of_zero_le hx.1
 have hk : k < xs.length := by have := hx.2 (by omega); omega
 have HS := hid hs
 obtain ⟨_, _, he, _, _, H2⟩ := (HV.out.grown hs.gr (.inr HNE.out)).partsW
 simp only [Value.slice.injEq, true_and] at he
 obtain ⟨rfl, rfl⟩ := he
 obtain ⟨s, hs2⟩ := elem_at hk
 obtain ⟨b, o, rfl, hc⟩ := H2.out k (.string s) (by rw [List.getElem?_map, hs2.out]; rfl)
 have HB := hB s (List.mem_of_getElem? hs2.out)
 clear hs hx
 go_wp2
 go_ret
 exact ⟨s, rfl, HB, HS.out⟩
theorem strs_lit (w : World) (xs : List ByteArray) (hl : xs.length ≤ 1000) : Sl (w.alloc (.cells (xs.map Value.string).toArray 9)) 1 (.slice (some ⟨w.heap.size, 0, none⟩) xs.length xs.length) xs.length (xs.map Value.string) :=
 Sl.of_own (lo := w.heap.size) (e := 9) (ownsRow_cast (World.ownsRow_lit w (xs.map Value.string).toArray xs.length (Nat.le_refl _) (by unfold maxLen; omega) (by simp)) rfl (by simp))
theorem ofL_c (xs : List ByteArray) (B g m : Nat) (w : World) (n : Nat) (hn : n = w.heap.size) (h : CurAt w g m) (hm : m + 2 < 4611686018427387904) (hp : 0 < xs.length) (hl : xs.length ≤ 1000) (hB : ∀ s ∈ xs, s.size ≤ B) :
 Calls Tryz.prog 135 #[.pointer (some ⟨g, 0, none⟩), .slice (some ⟨n, 0, none⟩) xs.length xs.length] (w.alloc (.cells (xs.map Value.string).toArray 9)) (DrawTx w g (m + 2) B) := by
 subst hn
 exact (of_c _ xs B g m _ (h.alloc _) hm (strs_lit w xs hl) (by have := h.lt; simp [Value.ownBlock]; omega) hp hB).mono fun e w' ⟨x, he, hx, hs⟩ =>
  ⟨x, he, hx, ⟨grow_trans (grow_below (below_one _)) hs.gr, hs.cur⟩⟩
theorem spoiltX_c (X t : ByteArray) (hX : X.size = 5) (g m : Nat) (w : World) (h : CurAt w g m) (hm : m + 10 < 4611686018427387904) (ht : t.size ≤ 1048576) :
 Calls Tryz.prog 136 #[.pointer (some ⟨g, 0, none⟩), .string t, .string X] w (DrawTx w g (m + 10) (t.size + 1)) := by
 have HC := hid h
 clear h
 by_cases h0 : t.size = 0
 · have he : t.toList.isEmpty = true := by rw [empty_size]; simp [h0]
   go_enter Tryz.func136, Tryz.ntmps136
   go_wp2
   go_ret
   exact ⟨_, rfl, by simp; omega, (CStep.refl HC.out).mono (by omega)⟩
 · have he : t.toList.isEmpty = false := by rw [empty_size]; simp [h0]
   go_enter Tryz.func136, Tryz.ntmps136
   go_wp2_with fail
   refine (pick_c t.size g m _ HC.out (by omega)).mono ?_
   rintro e w1 ⟨x, rfl, hx, hs⟩
   obtain ⟨i, rfl⟩ := Int.eq_ofNat_of_zero_le hx.1
   have hi : i < t.size := by have := hx.2 (by omega); omega
   have HS := hid hs
   clear hs hx
   go_wp2_with fail
   refine (pick_c 5 g _ _ HS.out.cur (by omega)).mono ?_
   rintro e w2 ⟨x, rfl, hx, hs⟩
   obtain ⟨j, rfl⟩ := Int.eq_ofNat_of_zero_le hx.1
   have hj : j < 5 := by have := hx.2 (by omega); omega
   have HS2 := hid (HS.out.trans hs)
   clear hs hx
   have hw : ((X.extract j 5).extract 0 1).size = 1 := by rw [ByteArray.size_extract, ByteArray.size_extract, hX]; omega
   go_wp2_with fail
   refine (pick_c 3 g _ _ HS2.out.cur (by omega)).mono ?_
   rintro e w3 ⟨x, rfl, hx, hs⟩
   generalize (X.extract j 5).extract 0 1 = W at *
   generalize X.extract j 5 = W2 at *
   have HS3 := hid ((HS2.out.trans hs).mono (m' := m + 10) (by omega))
   have x0 := hx.1
   have x1 := hx.2 (by omega)
   clear hs hx HS HS2
   have hs1 : ¬ 9223372036854775807 < min i t.size + W.size := by omega
   have hs2 : ¬ 9223372036854775807 < min i t.size + W.size + (t.size - i) := by omega
   by_cases e0 : x = 0
   · subst e0
     go_wp2
     go_region
     go_wp2
     go_ret
     exact ⟨_, rfl, by simp only [ByteArray.size_append, ByteArray.size_extract]; omega, HS3.out.drew⟩
   · by_cases e1 : x = 1
     · subst e1
       go_wp2
       go_region
       go_wp2
       go_ret
       exact ⟨_, rfl, by simp only [ByteArray.size_append, ByteArray.size_extract]; omega, HS3.out.drew⟩
     · go_wp2
       go_region
       go_wp2
       go_ret
       exact ⟨_, rfl, by simp only [ByteArray.size_append, ByteArray.size_extract]; omega, HS3.out.drew⟩
theorem sizeL (l : Array UInt8) : (⟨l⟩ : ByteArray).size = l.size := rfl
def wordsL (A B D : ByteArray) : List ByteArray := [⟨#[115, 104, 111, 119, 32]⟩ ++ A ++ ⟨#[32]⟩ ++ D, ⟨#[115, 104, 111, 119, 32]⟩ ++ A ++ ⟨#[32]⟩ ++ B, ⟨#[99, 108, 101, 97, 114, 32]⟩ ++ A, ⟨#[100, 97, 114, 107, 32]⟩ ++ A ++ ⟨#[32]⟩ ++ B, ⟨#[108, 105, 116, 32]⟩ ++ A ++ ⟨#[32]⟩ ++ B, ⟨#[109, 101, 110, 100, 32]⟩ ++ A, ⟨#[116, 117, 114, 110]⟩, ⟨#[109, 105, 114, 114, 111, 114]⟩, ⟨#[114, 111, 119]⟩, ⟨#[115, 101, 110, 116]⟩, ⟨#[110, 117, 109, 98, 101, 114]⟩, ⟨#[98, 97, 114, 115]⟩, ⟨#[100, 105, 103, 105, 116, 115, 32]⟩ ++ A, ⟨#[116, 111, 108, 100, 32]⟩ ++ A, ⟨#[105, 109, 97, 103, 101, 115, 32]⟩ ++ A, ⟨#[104, 97, 114, 109, 108, 101, 115, 115, 32]⟩ ++ A, ⟨#[102, 105, 114, 115, 116]⟩, ⟨#[110, 101, 97, 114, 32]⟩ ++ A, ⟨#[102, 117, 108, 108, 32]⟩ ++ A ++ ⟨#[32]⟩ ++ D, ⟨#[108, 101, 97, 115, 116]⟩, ⟨#[98, 117, 108, 98, 115, 32]⟩ ++ D, ⟨#[98, 117, 108, 98, 115, 32, 57, 57, 57, 57]⟩, ⟨#[115, 97, 109, 101, 32]⟩ ++ A, ⟨#[115, 104, 111, 119, 32]⟩ ++ A, ⟨#[100, 97, 114, 107, 32, 120, 32, 49]⟩, ⟨#[116, 111, 108, 100, 32, 54]⟩, ⟨#[119, 104, 97, 116]⟩, ⟨#[]⟩, ⟨#[97, 35]⟩, ⟨#[114, 111, 119, 32, 49]⟩, ⟨#[110, 101, 97, 114, 32, 45, 49]⟩, ⟨#[98, 117, 108, 98, 115, 32, 49, 48, 48, 48, 48]⟩]
theorem wordsL_len (A B D : ByteArray) : (wordsL A B D).length = 32 := rfl
theorem wordsL_size {A B D : ByteArray} (ha : A.size ≤ 20) (hb : B.size ≤ 20) (hd : D.size ≤ 20) : ∀ s ∈ wordsL A B D, s.size ≤ 60 := by
 intro s hs
 unfold wordsL at hs
 simp only [List.mem_cons, List.not_mem_nil, or_false] at hs
 rcases hs with rfl | rfl | rfl | rfl | rfl | rfl | rfl | rfl | rfl | rfl | rfl | rfl | rfl | rfl | rfl | rfl | rfl | rfl | rfl | rfl | rfl | rfl | rfl | rfl | rfl | rfl | rfl | rfl | rfl | rfl | rfl | rfl <;> (simp only [ByteArray.size_append, sizeL, List.size_toArray, List.length_cons, List.length_nil]; omega)
set_option maxHeartbeats 4000000 in
theorem line12_c (g m : Nat) (w : World) (h : CurAt w g m) (hm : m + 30 < 4611686018427387904) :
 Calls Tryz.prog 80 #[.pointer (some ⟨g, 0, none⟩)] w (DrawTx w g (m + 30) 100) := by
 have HC := hid (CStep.refl h)
 clear h
 go_enter Tryz.func80, Tryz.ntmps80
 go_wp2_with fail
 refine (pick_c 6 g _ _ HC.out.cur (by omega)).mono ?_
 rintro e w1 ⟨x, rfl, hx, hs⟩
 replace HC := hid (HC.out.trans hs)
 obtain ⟨k1, rfl⟩ := Int.eq_ofNat_of_zero_le hx.1
 have hk1 := hx.2 (by omega)
 clear hs hx
 go_wp2_with fail
 refine (l1Num_c k1 _ (by omega)).mono ?_
 rintro e w2 ⟨rfl, hb⟩
 replace HC := hid (HC.out.below hb)
 have s1 : (bs (Lib.decDigits k1)).size ≤ 20 := by rw [bs_size, ← itoa_nat]; exact itoa_len (by omega) (by omega)
 generalize bs (Lib.decDigits k1) = A at *
 clear hb hk1
 go_wp2_with fail
 refine (pick_c 7 g _ _ HC.out.cur (by omega)).mono ?_
 rintro e w1 ⟨x, rfl, hx, hs⟩
 replace HC := hid (HC.out.trans hs)
 obtain ⟨k2, rfl⟩ := Int.eq_ofNat_of_zero_le hx.1
 have hk2 := hx.2 (by omega)
 clear hs hx
 go_wp2_with fail
 refine (l1Num_c k2 _ (by omega)).mono ?_
 rintro e w2 ⟨rfl, hb⟩
 replace HC := hid (HC.out.below hb)
 have s2 : (bs (Lib.decDigits k2)).size ≤ 20 := by rw [bs_size, ← itoa_nat]; exact itoa_len (by omega) (by omega)
 generalize bs (Lib.decDigits k2) = B at *
 clear hb hk2
 go_wp2_with fail
 refine (pick_c 10 g _ _ HC.out.cur (by omega)).mono ?_
 rintro e w1 ⟨x, rfl, hx, hs⟩
 replace HC := hid (HC.out.trans hs)
 obtain ⟨k3, rfl⟩ := Int.eq_ofNat_of_zero_le hx.1
 have hk3 := hx.2 (by omega)
 clear hs hx
 go_wp2_with fail
 refine (l1Num_c k3 _ (by omega)).mono ?_
 rintro e w2 ⟨rfl, hb⟩
 replace HC := hid (HC.out.below hb)
 have s3 : (bs (Lib.decDigits k3)).size ≤ 20 := by rw [bs_size, ← itoa_nat]; exact itoa_len (by omega) (by omega)
 generalize bs (Lib.decDigits k3) = D at *
 clear hb hk3
 go_wp2_with fail
 refine (ofL_c (wordsL A B D) 60 g _ _ _ rfl HC.out.cur (by omega) (by rw [wordsL_len]; omega) (by rw [wordsL_len]; omega) (wordsL_size s1 s2 s3)).mono ?_
 rintro e w3 ⟨t, rfl, ht, hs⟩
 replace HC := hid (HC.out.trans hs)
 clear hs
 go_wp2_with fail
 refine (one_c 24 g _ _ HC.out.cur (by omega)).mono ?_
 rintro e w4 ⟨y, rfl, hs⟩
 replace HC := hid (HC.out.trans hs)
 clear hs
 cases y with
 | false =>
  go_wp2
  go_ret
  exact ⟨_, rfl, by omega, HC.out.mono (by omega)⟩
 | true =>
  go_wp2_with fail
  refine (spoiltX_c _ t (by rfl) g _ _ HC.out.cur (by omega) (by omega)).mono ?_
  rintro e w5 ⟨u, rfl, hu, hs⟩
  replace HC := hid (HC.out.trans hs)
  clear hs
  go_wp2
  go_ret
  exact ⟨_, rfl, by omega, HC.out.mono (by omega)⟩
theorem firstAt_not_allP {xs : List (Int × Int)} {p : Int × Int → Bool} : (decide (0 ≤ firstAt (fun x => !p x) xs)) = !(xs.all p) := by
 unfold firstAt
 cases h : xs.findIdx? (fun x => !p x) with
 | none => rw [List.findIdx?_eq_none_iff] at h; simp; exact fun a b hx => by simpa using h (a, b) hx
 | some i =>
  rw [List.findIdx?_eq_some_iff_getElem] at h; obtain ⟨hl, h1, _⟩ := h
  simp; exact ⟨xs[i].1, xs[i].2, List.getElem_mem hl, by simpa using h1⟩
theorem IndexFuncFault_c (v : Value) (xs : List (Int × Int)) (fn : Nat) (cap : Array Value) (p : Int × Int → Bool) (w : World) (hv : Pairs w v xs) (hf : CallsIt fn)
 (hp : ∀ (x : Int × Int) (w' : World), x ∈ xs → Below w.heap.size w w' → Calls Tryz.prog fn (#[.agg #[.int .i64 x.1, .int .i64 x.2]] ++ cap) w' fun e w'' => e = .returned (.bool (p x)) ∧ Below w'.heap.size w' w'') :
 Calls Tryz.prog 190 #[v, .func (.func fn) #[] cap] w fun e w' => e = .returned (.int .i64 (firstAt p xs)) ∧ Below w.heap.size w w' := by
 obtain ⟨a, c, rfl, hc1, hc2, HC⟩ := hv.parts
 have hf' : ∀ (bs : Array Value) (w : World), (callFunc fn bs).run Tryz.prog w = .ok (.enter fn bs) w := hf
 go_enter Tryz.func190, Tryz.ntmps190
 go_wp2
 go_loopw [8] (fun i wr => ∃ k : Nat, k ≤ xs.length ∧ i = .int .i64 k ∧ Hid (∀ j x, j < k → xs[j]? = some x → p x = false) ∧ Below w.heap.size w wr) (fun i _ => xs.length - (intOf i).toNat)
 case atStart => exact ⟨0, by omega, rfl, fun j x hj => by omega, Below.refl _ _⟩
 case round =>
  obtain ⟨k, hk, rfl, hbef, hb⟩ := hrel
  have hlen := hv.le
  by_cases hlt : k < xs.length
  · obtain ⟨x, hx⟩ := elem_at hlt
    obtain ⟨b, off, rfl, g0, g0'⟩ := HC.out k x hx.out
    have g1 := cell_later hb g0
    have g1' := cell_later hb g0'
    clear g0 g0'
    go_wp2_with fail
    refine (hp x _ (List.mem_of_getElem? hx.out) hb).mono ?_
    rintro e w1 ⟨rfl, hb1⟩
    have hb2 : Below w.heap.size w w1 := hb.trans (hb1.mono hb.size)
    rcases hpx : p x with _ | _
    · have HP := hid hpx; clear hpx
      go_wp2
      go_roundw
      case rel => exact ⟨k + 1, by omega, by go_num, fun j y hj hy => by
       by_cases hj2 : j < k
       · exact hbef.out j y hj2 hy
       · obtain rfl : j = k := by omega
         rw [hx.out] at hy; obtain rfl := Option.some.inj hy; exact HP.out, hb2⟩
      case measure => simp [intOf]; omega
    · have HP := hid hpx; clear hpx
      go_wp2
      go_ret
      exact ⟨int_ret (firstAt_some hx.out HP.out hbef.out).symm, hb2⟩
  · go_wp2
    go_ret
    exact ⟨int_ret (firstAt_none (by omega) hbef.out).symm, hb⟩
theorem ContainsFuncFault_c (v : Value) (xs : List (Int × Int)) (fn : Nat) (cap : Array Value) (p : Int × Int → Bool) (w : World) (hv : Pairs w v xs) (hf : CallsIt fn)
 (hp : ∀ (x : Int × Int) (w' : World), x ∈ xs → Below w.heap.size w w' → Calls Tryz.prog fn (#[.agg #[.int .i64 x.1, .int .i64 x.2]] ++ cap) w' fun e w'' => e = .returned (.bool (p x)) ∧ Below w'.heap.size w' w'') :
 Calls Tryz.prog 143 #[v, .func (.func fn) #[] cap] w fun e w' => e = .returned (.bool (decide (0 ≤ firstAt p xs))) ∧ Below w.heap.size w w' := by
 go_enter Tryz.func143, Tryz.ntmps143
 go_wp2_with fail
 refine (IndexFuncFault_c v xs fn cap p w hv hf hp).mono ?_
 rintro e w' ⟨rfl, hb⟩
 go_wp2
 go_ret
 exact ⟨bool_ret (by simp), hb⟩
theorem areAllFault_c (v : Value) (xs : List (Int × Int)) (fn : Nat) (p : Int × Int → Bool) (w : World) (hv : Pairs w v xs) (hf : CallsIt fn)
 (hp : ∀ (x : Int × Int) (w' : World), Calls Tryz.prog fn #[.agg #[.int .i64 x.1, .int .i64 x.2]] w' fun e w'' => e = .returned (.bool (p x)) ∧ Below w'.heap.size w' w'') :
 Calls Tryz.prog 92 #[v, .func (.func fn) #[] #[]] w fun e w' => e = .returned (.bool (xs.all p)) ∧ Below w.heap.size w w' := by
 go_enter Tryz.func92, Tryz.ntmps92
 go_wp2_with fail
 refine (ContainsFuncFault_c v xs 144 #[.pointer (some ⟨w.heap.size, 0, none⟩)] (fun x => !p x) _ (hv.below (below_one _)) (fun _ _ => by kernel_rfl) ?_).mono ?_
 · intro x w' _ hb
   have hc : w'.cell? ⟨w.heap.size, 0, none⟩ = some (.func (.func fn) #[] #[]) := by
    rw [(bcell hb).1 _ _ (by simp), World.cell?_alloc_at _ _ _ _ rfl]; rfl
   have hz := World.block_lt_of_cell? w' _ hc
   have hf' : ∀ (bs : Array Value) (w : World), (callFunc fn bs).run Tryz.prog w = .ok (.enter fn bs) w := hf
   go_enter Tryz.func144, Tryz.ntmps144
   go_wp2_with fail
   refine (hp x _).mono ?_
   rintro e w'' ⟨rfl, hbb⟩
   go_wp2
   go_ret
   exact ⟨rfl, Below.chain (below_one _) hbb⟩
 · rintro e w' ⟨rfl, hb⟩
   go_wp2
   go_ret
   exact ⟨bool_ret (by rw [firstAt_not_allP]; simp), (below_one _).trans (hb.mono (by simp))⟩
def rowB (xs : List Int) : Bool := decide (xs.length ≤ 6) && xs.all cellB
theorem rowB_le {xs : List Int} (h : rowB xs = true) : xs.length ≤ 6 := by simp [rowB] at h; exact h.1
theorem rowB_cell {xs : List Int} (h : rowB xs = true) {k : Nat} {x : Int} (hx : xs[k]? = some x) : 0 ≤ x ∧ x ≤ 127 := by
 simp only [rowB, Bool.and_eq_true, List.all_eq_true] at h
 exact cellB_true (h.2 x (List.mem_of_getElem? hx))
def fB (f : Int × Int) : Bool := faultB f.1 f.2
def areB (fs : List (Int × Int)) (r : List Int) : Bool := rowB r && (decide (fs.length = r.length) && fs.all fB)
theorem areB_fault {fs : List (Int × Int)} {r : List Int} (h : areB fs r = true) {k : Nat} {f : Int × Int} (hf : fs[k]? = some f) : 0 ≤ f.1 ∧ f.1 ≤ 127 ∧ 0 ≤ f.2 ∧ f.2 ≤ 127 := by
 simp only [areB, Bool.and_eq_true, List.all_eq_true] at h
 have := faultB_true (h.2.2 f (List.mem_of_getElem? hf))
 exact ⟨this.1, this.2.1, this.2.2.1, this.2.2.2.1⟩
theorem areB_row {fs : List (Int × Int)} {r : List Int} (h : areB fs r = true) : rowB r = true := by
 simp only [areB, Bool.and_eq_true] at h; exact h.1
theorem areB_len {fs : List (Int × Int)} {r : List Int} (h : areB fs r = true) : fs.length = r.length := by
 simp only [areB, Bool.and_eq_true, decide_eq_true_eq] at h; exact h.2.1
theorem IsRow_c (v : Value) (xs : List Int) (w : World) (hv : Ints w v xs) : Calls Tryz.prog 58 #[v] w fun e w' => e = .returned (.bool (rowB xs)) ∧ Below w.heap.size w w' := by
 obtain ⟨a, c, hvv, hc1, hc2, HC⟩ := hv.parts
 by_cases h : xs.length ≤ 6
 · subst hvv
   go_enter Tryz.func58, Tryz.ntmps58
   go_wp2_with (go_at_call 109; refine (areAllInt_c _ xs 110 cellB _ hv (fun _ _ => by kernel_rfl) (fun x w' => IsCell_c x w')).mono ?_; rintro e w' ⟨rfl, hb⟩)
   go_ret
   exact ⟨bool_ret (by simp [rowB, h]), by assumption⟩
 · subst hvv
   go_enter Tryz.func58, Tryz.ntmps58
   go_wp2_with fail
   go_ret
   exact ⟨bool_ret (by simp [rowB]; omega), Below.refl _ _⟩
theorem l2Row_c (v : Value) (xs : List Int) (w : World) (hv : Ints w v xs) : Calls Tryz.prog 139 #[v] w fun e w' => e = .returned (.bool (rowB xs)) ∧ Below w.heap.size w w' := by
 have hm := hv.le
 obtain ⟨a, c, rfl, hc1, hc2, HC⟩ := hv.parts
 go_enter Tryz.func139, Tryz.ntmps139
 go_wp2
 go_loopw [3] (fun i wr => ∃ k : Nat, k ≤ xs.length ∧ k ≤ 7 ∧ i = .int .i64 k ∧ Hid (∀ j x, j < k → xs[j]? = some x → cellB x = true) ∧ w = wr) (fun i _ => xs.length - (intOf i).toNat)
 case atStart => exact ⟨0, by omega, by omega, rfl, fun j x hj => by omega, by trivial⟩
 case round =>
  obtain ⟨k, hk, hk2, rfl, hbef, rfl⟩ := hrel
  clear hv
  by_cases hlt : k < xs.length ∧ k ≤ 6
  · obtain ⟨hlt, hle⟩ := hlt
    obtain ⟨x, hx⟩ := elem_at hlt
    obtain ⟨b, off, rfl, g0⟩ := HC.out k x hx.out
    go_wp2_with fail
    refine (l2Cell_c _ _).mono ?_
    rintro e w' ⟨rfl, rfl⟩
    rcases hpx : cellB x with _ | _
    · have HP := hid hpx; clear hpx
      go_wp2
      go_ret
      exact ⟨bool_ret (by
       symm; simp only [rowB, Bool.and_eq_false_iff]; right
       rw [List.all_eq_false]; exact ⟨x, List.mem_of_getElem? hx.out, by simp [HP.out]⟩), Below.refl _ _⟩
    · have HP := hid hpx; clear hpx
      go_wp2
      go_roundw
      case rel => exact ⟨k + 1, by omega, by omega, by go_num, fun j y hj hy => by
       by_cases hj2 : j < k
       · exact hbef.out j y hj2 hy
       · obtain rfl : j = k := by omega
         rw [hx.out] at hy; obtain rfl := Option.some.inj hy; exact HP.out, by trivial⟩
      case measure => simp [intOf]; omega
  · have hor : k = xs.length ∨ (k = 7 ∧ k < xs.length) := by omega
    clear hlt
    rcases hor with hor | ⟨hor, hor2⟩
    · have HK := hid hor
      have h1 : ¬ k < xs.length := by omega
      clear hor
      go_wp2
      go_ret
      refine ⟨bool_ret ?_, Below.refl _ _⟩
      have hall : xs.all cellB = true := by
       rw [List.all_eq_true]; intro x hx
       obtain ⟨j, hj⟩ := List.mem_iff_getElem?.1 hx
       have := (List.getElem?_eq_some_iff.1 hj).1
       exact hbef.out j x (by have := HK.out; omega) hj
      simp [rowB, hall]; omega
    · have HK := hid hor
      have h1 : ¬ k ≤ 6 := by omega
      clear hor
      go_wp2
      go_ret
      refine ⟨bool_ret ?_, Below.refl _ _⟩
      have := HK.out
      rw [decide_eq_false (by omega)]
      simp [rowB]; omega
theorem areFaults_c (v1 v2 : Value) (fs : List (Int × Int)) (r : List Int) (w : World) (h1 : Pairs w v1 fs) (h2 : Ints w v2 r) :
 Calls Tryz.prog 278 #[v1, v2] w fun e w' => e = .returned (.bool (areB fs r)) ∧ Below w.heap.size w w' := by
 obtain ⟨a1, c1, rfl, _, _, _⟩ := h1.parts
 obtain ⟨a2, c2, rfl, _, _, _⟩ := h2.parts
 rcases hr : rowB r with _ | _
 · have HR := hid hr; clear hr
   go_enter Tryz.func278, Tryz.ntmps278
   go_wp2_with fail
   refine (IsRow_c _ r _ h2).mono ?_
   rintro e w1 ⟨rfl, hb1⟩
   rw [HR.out]
   go_wp2
   go_ret
   exact ⟨bool_ret (by simp [areB, HR.out]), hb1⟩
 · by_cases hl : fs.length = r.length
   · have hlb : ((fs.length : Int) == (r.length : Int)) = true := by simp [hl]
     have HR := hid hr; have HL := hid hl; clear hr hl
     go_enter Tryz.func278, Tryz.ntmps278
     go_wp2_with fail
     refine (IsRow_c _ r _ h2).mono ?_
     rintro e w1 ⟨rfl, hb1⟩
     rw [HR.out]
     go_wp2_with fail
     refine (areAllFault_c _ fs 62 fB _ (h1.below hb1) (fun _ _ => by kernel_rfl) (fun x w' => IsFault_c x.1 x.2 w')).mono ?_
     rintro e w2 ⟨rfl, hb2⟩
     go_wp2
     go_ret
     exact ⟨bool_ret (by simp [areB, HR.out, HL.out]), Below.chain hb1 hb2⟩
   · have hlb : ((fs.length : Int) == (r.length : Int)) = false := by simp; omega
     have HR := hid hr; have HL := hid hl; clear hr hl
     go_enter Tryz.func278, Tryz.ntmps278
     go_wp2_with fail
     refine (IsRow_c _ r _ h2).mono ?_
     rintro e w1 ⟨rfl, hb1⟩
     rw [HR.out]
     go_wp2
     go_ret
     exact ⟨bool_ret (by simp [areB, HL.out]), hb1⟩
theorem l3Faults_c (v1 v2 : Value) (fs : List (Int × Int)) (r : List Int) (w : World) (h1 : Pairs w v1 fs) (h2 : Ints w v2 r) :
 Calls Tryz.prog 222 #[v1, v2] w fun e w' => e = .returned (.bool (areB fs r)) ∧ Below w.heap.size w w' := by
 have hm := h1.le
 obtain ⟨a1, c1, rfl, _, _, H1⟩ := h1.parts
 obtain ⟨a2, c2, rfl, _, _, _⟩ := h2.parts
 by_cases hl : fs.length = r.length
 · have hlb : ((fs.length : Int) != (r.length : Int)) = false := by simp [hl]
   have HL := hid hl; clear hl
   rcases hr : rowB r with _ | _
   · have HR := hid hr; clear hr
     go_enter Tryz.func222, Tryz.ntmps222
     go_wp2_with fail
     refine (l2Row_c _ r _ h2).mono ?_
     rintro e w1 ⟨rfl, hb1⟩
     rw [HR.out]
     go_wp2
     go_ret
     exact ⟨bool_ret (by simp [areB, HR.out]), hb1⟩
   · have HR := hid hr; clear hr
     go_enter Tryz.func222, Tryz.ntmps222
     go_wp2_with fail
     refine (l2Row_c _ r _ h2).mono ?_
     rintro e w1 ⟨rfl, hb1⟩
     rw [HR.out]
     clear h1 h2
     go_wp2
     go_loopw [5] (fun i wr => ∃ k : Nat, k ≤ fs.length ∧ i = .int .i64 k ∧ Hid (∀ j x, j < k → fs[j]? = some x → fB x = true) ∧ Below w.heap.size w wr) (fun i _ => fs.length - (intOf i).toNat)
     case atStart => exact ⟨0, by omega, rfl, fun j x hj => by omega, hb1⟩
     case round =>
      obtain ⟨k, hk, rfl, hbef, hb⟩ := hrel
      clear hb1
      by_cases hlt : k < fs.length
      · have hdd : decide ((k : Int) < (fs.length : Int)) = true := by simp; omega
        obtain ⟨x, hx⟩ := elem_at hlt
        obtain ⟨b, off, rfl, f0, f1⟩ := H1.out k x hx.out
        have g0 := cell_later hb f0
        have g1 := cell_later hb f1
        clear f0 f1
        go_wp2_with fail
        refine (l3Fault_c x.1 x.2 _).mono ?_
        rintro e w2 ⟨rfl, hb2⟩
        have hb3 := Below.chain hb hb2
        clear g0 g1 hb hb2
        rcases hpx : faultB x.1 x.2 with _ | _
        · have HP := hid hpx; clear hpx
          go_wp2
          go_ret
          exact ⟨bool_ret (by
           symm; simp only [areB, Bool.and_eq_false_iff]; right; right
           rw [List.all_eq_false]; exact ⟨x, List.mem_of_getElem? hx.out, by simp [fB, HP.out]⟩), hb3⟩
        · have HP := hid hpx; clear hpx
          go_wp2
          go_roundw
          case rel => exact ⟨k + 1, by omega, by go_num, fun j y hj hy => by
           by_cases hj2 : j < k
           · exact hbef.out j y hj2 hy
           · obtain rfl : j = k := by omega
             rw [hx.out] at hy; obtain rfl := Option.some.inj hy; exact HP.out, hb3⟩
          case measure => simp [intOf]; omega
      · have hall : fs.all fB = true := by
         rw [List.all_eq_true]; intro x hx
         obtain ⟨j, hj⟩ := List.mem_iff_getElem?.1 hx
         exact hbef.out j x (by have := (List.getElem?_eq_some_iff.1 hj).1; omega) hj
        have HA := hid hall; clear hall
        go_wp2
        go_ret
        exact ⟨bool_ret (by simp [areB, HR.out, HL.out, HA.out]), hb⟩
 · have hlb : ((fs.length : Int) != (r.length : Int)) = true := by simp; omega
   have HL := hid hl; clear hl
   go_enter Tryz.func222, Tryz.ntmps222
   go_wp2_with fail
   go_ret
   exact ⟨bool_ret (by simp [areB, HL.out]), Below.refl _ _⟩
theorem info_Fault : (Tryz.prog.info? 46).map (fun i => (i.zero, i.size, i.bytes)) = some (some (.agg #[.int .i64 0, .int .i64 0]), 2, 16) := by kernel_rfl
end Go.Proofs.YtohgjfdbnkjefaaGreatDoor
