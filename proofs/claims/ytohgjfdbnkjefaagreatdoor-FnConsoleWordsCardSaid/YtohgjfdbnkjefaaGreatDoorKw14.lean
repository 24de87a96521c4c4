/- Texts of this claim, gathered: SubsB, Lts2, Cwa. -/
import Derived.Test.YtohgjfdbnkjefaaGreatDoorKw13
namespace Go.Proofs.YtohgjfdbnkjefaaGreatDoor
open Go.RowKit
set_option linter.unusedVariables false
set_option maxRecDepth 100000
structure DoerB (D : World → Nat → Prop) (I : List (List Int) → World → Prop) (fn : Nat) (cb : Array Value) (S : List Int) : Prop where
 calls : CallsIt fn
 keepI : ∀ done w w', I done w → Below w.heap.size w w' → I done w'
 keepD : ∀ done w w', I done w → Below w.heap.size w w' → ∀ k, D w' k → D w k
 ltD : ∀ done w k, I done w → D w k → k < w.heap.size
 run : ∀ (done : List (List Int)) (part : List Int) v w, part.length ≤ 10 → done.length ≤ 1100 → (∀ y ∈ part, y ∈ S) → I done w → Ints w v part → (∀ g, v.ownBlock = some g → ¬ D w g) → Calls Tryz.prog fn (#[v] ++ cb) w fun e w' => e = .returned (.tuple #[]) ∧ I (done ++ [part]) w' ∧ Fr D w w'
theorem DoerB.fr {D : World → Nat → Prop} {I : List (List Int) → World → Prop} {fn : Nat} {cb : Array Value} {S : List Int} (H : DoerB D I fn cb S) {done : List (List Int)} {w w' : World} (hI : I done w) (hb : Below w.heap.size w w') : Fr D w w' :=
 ⟨hb.os, hb.tape, hb.output, hb.size, fun k hk _ => hb.block k hk, fun k hk => .inl (H.keepD done w w' hI hb k hk)⟩
set_option maxHeartbeats 4000000 in
theorem extendB_c {D : World → Nat → Prop} {I : List (List Int) → World → Prop} {fn B2 B3 B4 : Nat} {cb : Array Value} {a : Option Addr} {c : Nat} {set : List Int} (H : DoerB D I fn cb set) (hset : set.length ≤ 10) :
 ∀ (m : Nat) (fr : Nat) (part : List Int) (vp : Value) (done : List (List Int)) (w : World), (done ++ part :: loopE (set.drop fr) part).length ≤ 1100 → fr + m = set.length → part.length ≤ fr → (∀ y ∈ part, y ∈ set) → SEnv D w B2 B3 B4 fn cb a c set → I done w → Ints w vp part → (∀ g, vp.ownBlock = some g → ¬ D w g ∧ g < w.heap.size) →
  Calls Tryz.prog 279 #[vp, .int .i64 (fr : Int), .pointer (some ⟨B2, 0, none⟩), .pointer (some ⟨B3, 0, none⟩), .pointer (some ⟨B4, 0, none⟩)] w fun e w' => e = .returned (.tuple #[]) ∧ I (done ++ part :: loopE (set.drop fr) part) w' ∧ Fr D w w' := by
 intro m
 induction m using Nat.strongRecOn with
 | ind m ih =>
  intro fr part vp done w hB hm hpl hpm hE hI hvp hdp
  have hcf : ∀ (bs : Array Value) (w : World), (callFunc fn bs).run Tryz.prog w = .ok (.enter fn bs) w := H.calls
  have k2 := hE.c2
  have HR := Lib.hid (H.run done part vp w (by omega) (by simp at hB; omega) hpm hI hvp (fun g hg => (hdp g hg).1))
  have HBD := Lib.hid hB
  clear hB
  have hpv := hvp
  obtain ⟨pa, pc, rfl, _, _, _⟩ := hpv.parts
  go_enter Tryz.func279, Tryz.ntmps279
  go_wp2_with fail
  refine HR.out.mono ?_
  rintro e w1 ⟨rfl, hI1, hF1⟩
  have hE1 := hE.keep hF1
  have hv1 := hF1.ints hvp (fun g hg => (hdp g hg).1)
  have hd1 : ∀ g, (Value.slice pa part.length pc).ownBlock = some g → ¬ D w1 g ∧ g < w1.heap.size := fun g hg => ⟨fun hd => by rcases hF1.own g hd with h | h; exact (hdp g hg).1 h; have := (hdp g hg).2; omega, Nat.lt_of_lt_of_le (hdp g hg).2 hF1.size⟩
  clear k2 hE hI hvp hdp
  obtain ⟨i, hi, hz0, hz1, hz2⟩ := info_parts info_int
  have HI1 := Lib.hid hI1; have HE1 := Lib.hid hE1; have HF1 := Lib.hid hF1; have HV1 := Lib.hid hv1; have HD1 := Lib.hid hd1
  clear hI1 hE1 hF1 hv1 hd1
  have IH := Lib.hid ih; have HPM := Lib.hid hpm
  clear ih hpm
  go_wp2
  go_loopw [7] (fun j wr => ∃ (k : Nat) (V : List (List Int)), fr ≤ k ∧ k ≤ set.length ∧ j = .int .i64 (k : Int) ∧ Hid (loopE (set.drop fr) part = V ++ loopE (set.drop k) part) ∧ Hid (I (done ++ part :: V) wr) ∧ Hid (Fr D w1 wr)) (fun j _ => set.length - (intOf j).toNat)
  case atStart => exact ⟨fr, [], by omega, by omega, rfl, rfl, HI1.out, Fr.refl _⟩
  case round =>
   obtain ⟨k, V, hfk, hks, rfl, hV, hIr, hFr⟩ := hrel
   have hEr := Lib.hid (HE1.out.keep hFr.out)
   have c3 := hEr.out.c3
   have c4 := hEr.out.c4
   by_cases hlt : k < set.length
   · have hd : decide ((k : Int) < (set.length : Int)) = true := by simp; omega
     obtain ⟨x, hx⟩ := elem_at hlt
     have HDR : Hid (set.drop k = x :: set.drop (k + 1)) := by
      show _ = _
      rw [List.drop_eq_getElem_cons hlt]
      have := hx.out
      rw [List.getElem?_eq_getElem hlt] at this
      rw [Option.some.inj this]
     obtain ⟨a', c', ea, _, _, HS⟩ := hEr.out.hs.parts
     injection ea with ea1 ea2 ea3
     subst ea1
     obtain ⟨b, off, rfl, g0⟩ := HS.out k x hx.out
     have hvr := HF1.out.trans hFr.out
     have hv2 : Ints wr (.slice pa part.length pc) part := hFr.out.ints HV1.out (fun g hg => (HD1.out g hg).1)
     clear HS
     have hw : IntKind.i64.wrap ((k : Int) + 1) = ((k + 1 : Nat) : Int) := by rw [IntWalk.i64_in _ (by omega)]; simp
     go_wp2_with fail
     go_region_held3 (fun w' => w'.cell? ⟨B3, 0, none⟩ = some (.slice (some ⟨b, off, none⟩) set.length c) ∧ w'.cell? ⟨B4, 0, none⟩ = some (.func (.func 279) #[] #[.pointer (some ⟨B2, 0, none⟩), .pointer (some ⟨B3, 0, none⟩), .pointer (some ⟨B4, 0, none⟩)]) ∧ w'.cell? ⟨b, off + k, none⟩ = some (.int .i64 x))
      (first | (refine ⟨?_, ?_, ?_⟩ <;> assumption) | go_keep)
      (first | (go_at_call 57; refine (Clone_c _ part _ (by first | exact Sl.drew hv2 | exact Sl.drew (Sl.alloc hv2 _) | exact Sl.alloc (Sl.drew hv2) _) (by omega)).mono ?_; rintro e w' ⟨uc, rfl, hoc, hbc⟩; have hb3 : Below wr.heap.size wr w' := Below.chain (by (repeat (first | exact Below.refl _ _ | exact (Below.refl _ _).drew | assumption | exact below_one _ | refine Below.chain ?_ (by assumption) | refine Below.drew ?_ | refine Below.alc ?_ _ | refine below_drewN ?_ | (refine Below.setCell ?_ ?_ _) | exact Nat.le_refl _ | (simp; done) | (simp; omega)))) hbc; have l0 := cell_later hb3 c3; have l1 := cell_later hb3 c4; have l2 := cell_later hb3 g0) | (go_at_call 279; have hF5a := H.fr hIr.out hb7; have hd3 : ∀ g, (Value.slice (some ⟨gg, 0, none⟩) (part.length + 1) cap).ownBlock = some g → ¬ D w3 g ∧ g < w3.heap.size := fun g hg => ⟨fun hdd => by have h1 := H.ltD _ _ _ hIr.out (H.keepD _ _ _ hIr.out hb7 g hdd); have h2 := (ho5.lt g hg).1; omega, (ho5.lt g hg).2⟩; have HX := IH.out (set.length - (k + 1)) (by omega) (k + 1) (part ++ [x]) (.slice (some ⟨gg, 0, none⟩) (part.length + 1) cap) (done ++ part :: V) w3 (by have h1 := HBD.out; have h2 := hV.out; rw [HDR.out] at h2; rw [h2] at h1; simp only [List.length_append, List.length_cons, loopE] at h1 ⊢; omega) (by omega) (by simp; omega) (fun y hy => by rcases List.mem_append.1 hy with h | h; exact HPM.out y h; rw [List.mem_singleton] at h; rw [h]; exact List.mem_of_getElem? hx.out) (hEr.out.keep hF5a) (H.keepI _ _ _ hIr.out hb7) (Ints.of_own (ownsRow_cast ho5 (by simp) (by simp))) hd3; rw [show ((k + 1 : Nat) : Int) = (k : Int) + 1 by simp] at HX; refine HX.mono ?_; rintro e w4 ⟨rfl, hI4, hF4⟩; have hF5 := hF5a.trans hF4; have n0 := hF5.cell c3 hEr.out.d3; have n1 := hF5.cell c4 hEr.out.d4; have n2 := hF5.cell g0 (hEr.out.ds b rfl)) | (go_split_ands; refine step_append_lies _ (by rfl) _ _ _ (by rfl) wr.heap.size 3 i _ 1 8 Tryz.underlying37 hi hz0 hz1 hz2 rfl (by omega) _ part.length (ints part) (by rfl) (by first | exact own_lo hoc (by simp) | exact own_lo (hoc.alloc _) (by simp)) _ 1 1 [.int .i64 x] (by rfl) (by rfl) (by first | exact news_new _ [.int .i64 x] _ | exact fun j u hu => cell_later hbc (news_new _ [.int .i64 x] _ j u hu)) (by simp [Value.oneCell']) (by omega) (by unfold maxLen; omega) (by omega) (by have := hb3.size; simp; omega) _ rfl ?_; intro gg cap w3 ho5 hg5 hat hlt5; have hb7 : Below wr.heap.size wr w3 := (by first | exact hb3 | exact Below.alc hb3 _ : Below wr.heap.size wr _).grown hg5 (by have := hb3.size; simp; omega) (fun g hg => by have := (hoc.lt g hg).1; simp at this; omega); have k0 := cell_later hb7 c3; have k1 := cell_later hb7 c4; have k2 := cell_later hb7 g0))
     all_goals
      have HI4 := Lib.hid hI4; have HF5 := Lib.hid hF5
      clear hI4 hF5 hF4 hF5a hd3 ho5 hg5 hb7 hoc hbc hb3 k0 k1 k2 l0 l1 l2 n0 n1 n2 g0 c3 c4
      have hdr : set.drop k = x :: set.drop (k + 1) := by
       rw [List.drop_eq_getElem_cons hlt]
       have := hx.out
       rw [List.getElem?_eq_getElem hlt] at this
       rw [Option.some.inj this]
      have HV2 : Hid (loopE (set.drop fr) part = (V ++ (part ++ [x]) :: loopE (set.drop (k + 1)) (part ++ [x])) ++ loopE (set.drop (k + 1)) part) := by
       show _ = _
       rw [hV.out, hdr]
       simp [loopE]
      have HI5 : Hid (I (done ++ part :: (V ++ (part ++ [x]) :: loopE (set.drop (k + 1)) (part ++ [x]))) w4) := by
       have := HI4.out
       show I _ _
       simpa using this
      clear hdr hV HI4
      go_wp2
      go_roundw
      case rel => exact ⟨k + 1, _, by omega, by omega, by go_num, HV2, HI5, hFr.out.trans HF5.out⟩
      case measure => simp [intOf]; omega
   · obtain rfl : k = set.length := by omega
     have HI5 : Hid (I (done ++ part :: loopE (set.drop fr) part) wr) := by
      have h1 := hIr.out
      have h2 := hV.out
      rw [List.drop_length] at h2
      simp only [loopE, List.append_nil] at h2
      show I _ _
      rw [h2]; exact h1
     have HF5 := Lib.hid (HF1.out.trans hFr.out)
     clear hV hIr
     go_wp2
     refine bodyPost_end (results_none rfl _ _ _) rfl ?_
     exact ⟨rfl, HI5.out, HF5.out⟩
theorem subsetsB_c {D : World → Nat → Prop} {I : List (List Int) → World → Prop} {fn : Nat} {cb : Array Value} {set : List Int} (H : DoerB D I fn cb set) (hset : set.length ≤ 10) (v : Value) (w : World) (done : List (List Int)) (hI : I done w) (hv : Ints w v set) (hB : (done ++ subsL set).length ≤ 1100)
 (hds : ∀ g, v.ownBlock = some g → ¬ D w g ∧ g < w.heap.size) :
 Calls Tryz.prog 250 #[v, .func (.func fn) #[] cb] w fun e w' => e = .returned (.tuple #[]) ∧ I (done ++ subsL set) w' ∧ Fr D w w' := by
 obtain ⟨a, c, rfl, _, _, _⟩ := hv.parts
 have hbA : Below w.heap.size w (((w.alloc (.cells #[.slice a set.length c] 37)).alloc (.cells #[.func (.func fn) #[] cb] 237)).alloc (.cells #[.func (.func 279) #[] #[.pointer (some ⟨w.heap.size + 1, 0, none⟩), .pointer (some ⟨w.heap.size, 0, none⟩), .pointer (some ⟨w.heap.size + 1 + 1, 0, none⟩)]] 257)) := by (repeat (first | exact Below.refl _ _ | exact (Below.refl _ _).drew | assumption | exact below_one _ | refine Below.chain ?_ (by assumption) | refine Below.drew ?_ | refine Below.alc ?_ _ | refine below_drewN ?_ | (refine Below.setCell ?_ ?_ _) | exact Nat.le_refl _ | (simp; done) | (simp; omega)))
 have hE : SEnv D (((w.alloc (.cells #[.slice a set.length c] 37)).alloc (.cells #[.func (.func fn) #[] cb] 237)).alloc (.cells #[.func (.func 279) #[] #[.pointer (some ⟨w.heap.size + 1, 0, none⟩), .pointer (some ⟨w.heap.size, 0, none⟩), .pointer (some ⟨w.heap.size + 1 + 1, 0, none⟩)]] 257)) (w.heap.size + 1) w.heap.size (w.heap.size + 1 + 1) fn cb a c set :=
  have hnd : ∀ k, w.heap.size ≤ k → ¬ D (((w.alloc (.cells #[.slice a set.length c] 37)).alloc (.cells #[.func (.func fn) #[] cb] 237)).alloc (.cells #[.func (.func 279) #[] #[.pointer (some ⟨w.heap.size + 1, 0, none⟩), .pointer (some ⟨w.heap.size, 0, none⟩), .pointer (some ⟨w.heap.size + 1 + 1, 0, none⟩)]] 257)) k := fun k hk hd => by
   have := H.ltD _ _ _ hI (H.keepD _ _ _ hI hbA k hd); omega
  { c2 := by rw [World.cell?_alloc_past _ _ _ (by simp), World.cell?_alloc_at _ _ _ _ (by simp)]; rfl
    c3 := by rw [World.cell?_alloc_past _ _ _ (by simp only [World.size_alloc]; omega), World.cell?_alloc_past _ _ _ (by simp), World.cell?_alloc_at _ _ _ _ rfl]; rfl
    c4 := by rw [World.cell?_alloc_at _ _ _ _ (by simp)]; rfl
    hs := hv.below hbA
    d2 := hnd _ (by omega)
    d3 := hnd _ (by omega)
    d4 := hnd _ (by omega)
    ds := fun g hg hd => (hds g hg).1 (H.keepD _ _ _ hI hbA g hd)
    lt2 := by simp
    lts := fun g hg => by have := (hds g hg).2; simp; omega }
 have HX := extendB_c H hset set.length 0 [] (.slice none 0 0) done _ (by have h1 := hB; unfold subsL at h1; simpa using h1) (by omega) (by simp) (fun y hy => by simp at hy) hE (H.keepI _ _ _ hI hbA) (Sl.nil_ _ _) (fun g hg => by simp [Value.ownBlock] at hg)
 have hF := Lib.hid (H.fr hI hbA)
 have HY := Lib.hid HX
 have hst : (store ⟨w.heap.size + 1 + 1, 0, none⟩ (.func (.func 279) #[] #[.pointer (some ⟨w.heap.size + 1, 0, none⟩), .pointer (some ⟨w.heap.size, 0, none⟩), .pointer (some ⟨w.heap.size + 1 + 1, 0, none⟩)])).run Tryz.prog (((w.alloc (.cells #[.slice a set.length c] 37)).alloc (.cells #[.func (.func fn) #[] cb] 237)).alloc (.cells #[.nilFunc] 257)) = .ok () (((w.alloc (.cells #[.slice a set.length c] 37)).alloc (.cells #[.func (.func fn) #[] cb] 237)).alloc (.cells #[.func (.func 279) #[] #[.pointer (some ⟨w.heap.size + 1, 0, none⟩), .pointer (some ⟨w.heap.size, 0, none⟩), .pointer (some ⟨w.heap.size + 1 + 1, 0, none⟩)]] 257)) := by
  rw [run_store _ _ _ _ _ rfl]
  simp [go_sem]
 clear HX hE hds hI hv
 go_enter Tryz.func250, Tryz.ntmps250
 go_wp2_with fail
 refine HY.out.mono ?_
 rintro e w1 ⟨rfl, hI1, hF1⟩
 have HI := Lib.hid hI1; have HF := Lib.hid (hF.out.trans hF1)
 clear hI1 hF1
 go_wp2
 refine bodyPost_end (results_none rfl _ _ _) rfl ?_
 exact ⟨rfl, HI.out, HF.out⟩
#print axioms subsetsB_c
set_option linter.unusedSimpArgs false
def ltF (done : List (List Int)) : List (List Int) := done.filter fun p => leastL (setS p)
structure LtI (m : Nat) (done : List (List Int)) (w : World) : Prop where
 fm : w.frozen? ⟨m, 0, none⟩ = false
 best : ∃ u, w.cell? ⟨m, 0, none⟩ = some u ∧ OwnSS w (m + 1) u (ltF done)
def LtD (m : Nat) (w : World) (j : Nat) : Prop := j = m ∨ ∃ u, w.cell? ⟨m, 0, none⟩ = some u ∧ u.ownBlock = some j
theorem LtI.keep {m : Nat} {done : List (List Int)} {w w' : World} (h : LtI m done w) (hb : Below w.heap.size w w') : LtI m done w' := by
 obtain ⟨u, hc, vs, ho, hi⟩ := h.best
 exact ⟨by rw [hb.frozen (p := ⟨m, 0, none⟩) (World.block_lt_of_cell? _ _ hc)]; exact h.fm, u, cell_later hb hc, vs, own_keep ho hb, hi.keep hb⟩
theorem lt_fin {m : Nat} {done : List (List Int)} {part : List Int} {w wa wb : World} {u v2 uc : Value} {vs : List Value} (hfm : w.frozen? ⟨m, 0, none⟩ = false) (hc : w.cell? ⟨m, 0, none⟩ = some u)
 (ho : w.ownsRow (m + 1) 37 1 u (ltF done).length vs) (hin : Inn w (m + 1) vs (ltF done)) (hl : leastL (setS part) = true) (hb : Below w.heap.size w wa) (hoc : wa.ownsRow w.heap.size 3 1 uc part.length (ints part))
 (hg : (wa.alloc (.cells #[uc] 37)).grownBy wb u.ownBlock) (hO2 : wb.ownsRow (m + 1) 37 1 v2 ((ltF done).length + 1) (vs ++ [uc]))
 (hat : v2.ownBlock = u.ownBlock ∨ v2.ownBlock = some (wa.alloc (.cells #[uc] 37)).heap.size) :
 LtI m (done ++ [part]) (wb.setCell ⟨m, 0, none⟩ v2) ∧ Fr (LtD m) w (wb.setCell ⟨m, 0, none⟩ v2) := by
 have hm : m < w.heap.size := World.block_lt_of_cell? _ _ hc
 have hab : Below w.heap.size w (wa.alloc (.cells #[uc] 37)) := Below.alc hb _
 have une : some m ≠ u.ownBlock := fun e => by have := (ho.lt m e.symm).1; omega
 have ho1 := own_keep ho hab
 have c1 := cell_later hab hc
 have c2 : wb.cell? ⟨m, 0, none⟩ = some u := hg.cell c1 une
 have hm2 : m < (wa.alloc (.cells #[uc] 37)).heap.size := Nat.lt_of_lt_of_le hm hab.size
 have f2 : wb.frozen? ⟨m, 0, none⟩ = false := by
  rw [World.frozen?_of_block (a := ⟨m, 0, none⟩) (hg.block m hm2 une), hab.frozen (p := ⟨m, 0, none⟩) hm]; exact hfm
 have hgs := grownBy_setCell' wb m v2
 have hF : ltF (done ++ [part]) = ltF done ++ [part] := by unfold ltF; rw [List.filter_append]; simp [hl]
 have hin1 : Inn wa (m + 1) vs (ltF done) := hin.keep hb
 have hin2 := hin1.snoc hoc (by omega) (fun k a ha g hg => hin.lt k a ha g hg)
 have hin3 : Inn wb (m + 1) (vs ++ [uc]) (ltF done ++ [part]) := (hin2.keep (below_one _)).grown ho1 (by decide) hg
 refine ⟨⟨by rw [World.frozen?_setCell]; exact f2, v2, World.cell?_setCell_same _ _ _ c2, vs ++ [uc], ?_, ?_⟩, ⟨hg.os.trans hab.os, hg.tape.trans hab.tape, hg.output.trans hab.output, by simp; exact Nat.le_trans hab.size hg.size, fun j hj hne => ?_, fun k hk => ?_⟩⟩
 · rw [hF]
   exact (ownsRow_cast hO2 (by simp) rfl).kept hgs (.inr (fun e => by have := (hO2.lt m e).1; omega))
 · rw [hF]
   exact ⟨hin3.1, fun k v xs h1 h2 => (hin3.2.1 k v xs h1 h2).kept hgs (.inr (fun e => by have := ((hin3.2.1 k v xs h1 h2).lt m e).1; omega)), hin3.2.2⟩
 · rw [heap_setCell_other _ _ _ _ (fun e => hne (.inl e))]
   exact (hg.block j (Nat.lt_of_lt_of_le hj hab.size) (fun e => hne (.inr ⟨u, hc, e.symm⟩))).trans (hab.block j hj)
 · rcases hk with e | ⟨u', hc', hk⟩
   · exact .inl (.inl e)
   · rw [World.cell?_setCell_same _ _ _ c2] at hc'
     injection hc' with hc'
     subst hc'
     rcases hat with h | h
     · exact .inl (.inr ⟨u, hc, by rw [← h]; exact hk⟩)
     · rw [h] at hk
       injection hk with hk
       exact .inr (by rw [← hk]; exact hab.size)
set_option maxHeartbeats 2000000 in
theorem lt_doer (m : Nat) (S : List Int) (hS : ∀ y ∈ S, digitB y = true) : DoerB (LtD m) (LtI m) 252 #[.pointer (some ⟨m, 0, none⟩)] S where
 calls := fun bs w => by kernel_rfl
 keepI := fun done w w' h hb => h.keep hb
 keepD := fun done w w' h hb j hj => by
  obtain ⟨u, hc, _⟩ := h.best
  rcases hj with e | ⟨u', hc', hk⟩
  · exact .inl e
  · rw [cell_later hb hc] at hc'
    injection hc' with hc'
    exact .inr ⟨u, hc, by rw [hc']; exact hk⟩
 ltD := fun done w j h hj => by
  obtain ⟨u, hc, vs, ho, _⟩ := h.best
  rcases hj with e | ⟨u', hc', hk⟩
  · rw [e]; exact World.block_lt_of_cell? _ _ hc
  · rw [hc] at hc'
    injection hc' with hc'
    exact (ho.lt j (by rw [hc']; exact hk)).2
 run := by
  intro done part v w hpl hdl hps hI hv hd
  have ht : testB part = true := by
   unfold testB
   rw [decide_eq_true hpl, Bool.true_and, List.all_eq_true]
   exact fun y hy => hS y (hps y hy)
  have hle := hv.le
  have hv2 := Lib.hid hv
  obtain ⟨a, c, rfl, _, _, _⟩ := hv.parts
  have HF := Lib.hid (isLeast_c _ part w hv ht)
  have hFl : (ltF done).length ≤ 1100 := Nat.le_trans (List.length_filter_le _ _) hdl
  rcases h2 : leastL (setS part) with _ | _
  · have HC := Lib.hid (show ltF (done ++ [part]) = ltF done by unfold ltF; rw [List.filter_append]; simp [h2])
    have HI := Lib.hid hI; have H2 := Lib.hid h2
    clear hI h2 hv ht
    go_enter Tryz.func252, Tryz.ntmps252
    go_wp2_with fail
    refine HF.out.mono ?_
    rintro e w1 ⟨rfl, hb1⟩
    rw [H2.out]
    have HB := Lib.hid hb1
    clear hb1
    go_wp2
    refine bodyPost_end (results_none rfl _ _ _) rfl ?_
    have hk := HI.out.keep HB.out
    obtain ⟨bv, k1, k2⟩ := hk.best
    refine ⟨rfl, ⟨hk.fm, bv, k1, by rw [HC.out]; exact k2⟩, ⟨HB.out.os, HB.out.tape, HB.out.output, HB.out.size, fun j hj _ => HB.out.block j hj, fun j hj => .inl ?_⟩⟩
    obtain ⟨u, hc, _⟩ := HI.out.best
    rcases hj with e | ⟨u', hc', hk⟩
    · exact .inl e
    · rw [cell_later HB.out hc] at hc'
      injection hc' with hc'
      exact .inr ⟨u, hc, by rw [hc']; exact hk⟩
  · obtain ⟨u, hc, vs, ho, hin⟩ := hI.best
    obtain ⟨inf, hi, hz0, hz1, hz2⟩ := info_parts info_ints
    have hfm := hI.fm
    have hm : m < w.heap.size := World.block_lt_of_cell? _ _ hc
    have HIN := Lib.hid hin
    have HO := Lib.hid ho
    have H2 := Lib.hid h2; have HFM := Lib.hid hfm; have HCC := Lib.hid hc
    clear hI hv ht h2 hin ho
    go_enter Tryz.func252, Tryz.ntmps252
    go_wp2_with fail
    refine HF.out.mono ?_
    rintro e w1 ⟨rfl, hb1⟩
    rw [H2.out]
    have g1 := cell_later hb1 hc
    have f1 := (hb1.frozen (p := ⟨m, 0, none⟩) hm).trans hfm
    have hI1 := Lib.hid (hv2.out.below hb1)
    have HB1 := Lib.hid hb1
    clear hc hfm hb1
    go_wp2_with fail
    -- REGION
    refine wp_region_held_drew (S := fun _ : World => True) (by kernel_rfl) trivial (fun hHeld => ?_)
    have B_wd : Below w.heap.size w w1.drew := HB1.out.drew
    have C_wd : w1.drew.cell? ⟨m, 0, none⟩ = some u := g1
    have F_wd : w1.drew.frozen? ⟨m, 0, none⟩ = false := f1
    have I_wd := hI1.out.drew
    generalize w1.drew = wd at *
    clear g1 f1 HB1
    refine' tkY 1 hHeld ?r_1
    try simp only [Act.put, xqA, xqB, xqC]
    refine wpAnyH_ready (rs := [0, 2]) (by kernel_rfl) (by simp) ?_
    refine' AllReadyH.cons (o := _) ?e_2 ?st_2 ?more_2
    case e_2 => (simp only [xeA, xeB, xeC]; exact rfl)
    case st_2 =>
     intro K hK
     go_simp
     refine hK.out _ _ trivial (fun hHeld => ?_)
     clear hK K
     try simp only [Act.put, xqA, xqB, xqC]
     refine wpAnyH_ready (rs := [2]) (by kernel_rfl) (by simp) ?_
     refine' AllReadyH.cons (o := _) ?e_3 ?st_3 AllReadyH.nil
     case e_3 => (simp only [xeA, xeB, xeC]; exact rfl)
     case st_3 =>
      intro K hK
      go_simp
      refine (Clone_c _ part _ I_wd (by omega)).mono ?_
      rintro e wa ⟨uc, rfl, hoc, hbc⟩
      obtain ⟨ac, cc, rfl, _⟩ := (Sl.of_own hoc).slice
      have B_wa := Below.chain B_wd hbc
      have C_wa := cell_later hbc C_wd
      have F_wa := (hbc.frozen (p := ⟨m, 0, none⟩) (World.block_lt_of_cell? _ _ C_wd)).trans F_wd
      have O_wa := own_lo hoc B_wd.size
      clear hoc hbc C_wd F_wd B_wd I_wd
      go_wp2_with fail
      refine hK.out _ _ trivial (fun hHeld => ?_)
      clear hK K
      try simp only [Act.put, xqA, xqB, xqC]
      refine wpAnyH_ready (rs := [3]) (by kernel_rfl) (by simp) ?_
      refine' AllReadyH.cons (o := _) ?e_4 ?st_4 AllReadyH.nil
      case e_4 => (simp only [xeA, xeB, xeC]; exact rfl)
      case st_4 =>
       intro K hK
       go_simp
       have C_wb : (wa.alloc (.cells #[.slice ac part.length cc] 37)).cell? ⟨m, 0, none⟩ = some u := cell_later (below_one _) C_wa
       have F_wb : (wa.alloc (.cells #[.slice ac part.length cc] 37)).frozen? ⟨m, 0, none⟩ = false := ((below_one (w := wa) _).frozen (p := ⟨m, 0, none⟩) (World.block_lt_of_cell? _ _ C_wa)).trans F_wa
       refine hK.out _ _ trivial (fun hHeld => ?_)
       clear hK K
       try simp only [Act.put, xqA, xqB, xqC]
       refine wpAnyH_ready (rs := [4]) (by kernel_rfl) (by simp) ?_
       refine' AllReadyH.cons (o := _) ?e_5 ?st_5 AllReadyH.nil
       case e_5 => (simp only [xeA, xeB, xeC]; exact rfl)
       case st_5 =>
        intro K hK
        refine step_append_at (by rfl) _ _ _ (by rfl) (m + 1) 37 inf (.slice none 0 0) 1 24 Tryz.underlying96 hi hz0 hz1 hz2 rfl (by decide) u (ltF done).length vs (by rfl) ((own_keep HO.out B_wa).alloc _) ⟨wa.heap.size, 0, none⟩ 1 1 [.slice ac part.length cc] (by rfl) (by rfl) (news_new _ [.slice ac part.length cc] _) (by simp [Value.oneCell']) (by unfold maxLen; omega) (by omega) (by have := B_wa.size; simp; omega) ?_
        intro v2 wb hO2 hg2 hat2
        have une : some m ≠ u.ownBlock := (fun e => by have := (HO.out.lt m e.symm).1; omega)
        have C_wc : wb.cell? ⟨m, 0, none⟩ = some u := hg2.cell C_wb une
        have F_wc : wb.frozen? ⟨m, 0, none⟩ = false := (World.frozen?_of_block (a := ⟨m, 0, none⟩) (hg2.block m (World.block_lt_of_cell? _ _ C_wb) une)).trans F_wb
        obtain ⟨g3, c3, rfl, _, _, _, _⟩ := own_form hO2 (by omega)
        have HZ := Lib.hid (lt_fin HFM.out HCC.out HO.out HIN.out H2.out B_wa O_wa hg2 hO2 hat2)
        clear hg2 hO2 hat2 C_wb F_wb C_wa F_wa B_wa O_wa une
        refine hK.out _ _ trivial (fun hHeld => ?_)
        clear hK K
        try simp only [Act.put, xqA, xqB, xqC]
        refine wpAnyH_ready (rs := [5]) (by kernel_rfl) (by simp) ?_
        refine' AllReadyH.cons (o := _) ?e_6 ?st_6 AllReadyH.nil
        case e_6 => (simp only [xeA, xeB, xeC]; exact rfl)
        case st_6 =>
         intro K hK
         go_simp
         refine hK.out _ _ trivial (fun hHeld => ?_)
         clear hK K
         try simp only [Act.put, xqA, xqB, xqC]
         refine wpAnyH_done (by kernel_rfl) ?_ _
         go_wp2
         refine bodyPost_end (results_none rfl _ _ _) rfl ?_
         exact ⟨rfl, HZ.out.1, HZ.out.2⟩
    case more_2 =>
     refine' AllReadyH.cons (o := _) ?e_7 ?st_7 AllReadyH.nil
     case e_7 => (simp only [xeA, xeB, xeC]; exact rfl)
     case st_7 =>
      intro K hK
      go_simp
      refine (Clone_c _ part _ I_wd (by omega)).mono ?_
      rintro e wa ⟨uc, rfl, hoc, hbc⟩
      obtain ⟨ac, cc, rfl, _⟩ := (Sl.of_own hoc).slice
      have B_wa := Below.chain B_wd hbc
      have C_wa := cell_later hbc C_wd
      have F_wa := (hbc.frozen (p := ⟨m, 0, none⟩) (World.block_lt_of_cell? _ _ C_wd)).trans F_wd
      have O_wa := own_lo hoc B_wd.size
      clear hoc hbc C_wd F_wd B_wd I_wd
      go_wp2_with fail
      refine hK.out _ _ trivial (fun hHeld => ?_)
      clear hK K
      try simp only [Act.put, xqA, xqB, xqC]
      refine wpAnyH_ready (rs := [0, 3]) (by kernel_rfl) (by simp) ?_
      refine' AllReadyH.cons (o := _) ?e_8 ?st_8 ?more_8
      case e_8 => (simp only [xeA, xeB, xeC]; exact rfl)
      case st_8 =>
       intro K hK
       go_simp
       refine hK.out _ _ trivial (fun hHeld => ?_)
       clear hK K
       try simp only [Act.put, xqA, xqB, xqC]
       refine wpAnyH_ready (rs := [3]) (by kernel_rfl) (by simp) ?_
       refine' AllReadyH.cons (o := _) ?e_9 ?st_9 AllReadyH.nil
       case e_9 => (simp only [xeA, xeB, xeC]; exact rfl)
       case st_9 =>
        intro K hK
        go_simp
        have C_wb : (wa.alloc (.cells #[.slice ac part.length cc] 37)).cell? ⟨m, 0, none⟩ = some u := cell_later (below_one _) C_wa
        have F_wb : (wa.alloc (.cells #[.slice ac part.length cc] 37)).frozen? ⟨m, 0, none⟩ = false := ((below_one (w := wa) _).frozen (p := ⟨m, 0, none⟩) (World.block_lt_of_cell? _ _ C_wa)).trans F_wa
        refine hK.out _ _ trivial (fun hHeld => ?_)
        clear hK K
        try simp only [Act.put, xqA, xqB, xqC]
        refine wpAnyH_ready (rs := [4]) (by kernel_rfl) (by simp) ?_
        refine' AllReadyH.cons (o := _) ?e_10 ?st_10 AllReadyH.nil
        case e_10 => (simp only [xeA, xeB, xeC]; exact rfl)
        case st_10 =>
         intro K hK
         refine step_append_at (by rfl) _ _ _ (by rfl) (m + 1) 37 inf (.slice none 0 0) 1 24 Tryz.underlying96 hi hz0 hz1 hz2 rfl (by decide) u (ltF done).length vs (by rfl) ((own_keep HO.out B_wa).alloc _) ⟨wa.heap.size, 0, none⟩ 1 1 [.slice ac part.length cc] (by rfl) (by rfl) (news_new _ [.slice ac part.length cc] _) (by simp [Value.oneCell']) (by unfold maxLen; omega) (by omega) (by have := B_wa.size; simp; omega) ?_
         intro v2 wb hO2 hg2 hat2
         have une : some m ≠ u.ownBlock := (fun e => by have := (HO.out.lt m e.symm).1; omega)
         have C_wc : wb.cell? ⟨m, 0, none⟩ = some u := hg2.cell C_wb une
         have F_wc : wb.frozen? ⟨m, 0, none⟩ = false := (World.frozen?_of_block (a := ⟨m, 0, none⟩) (hg2.block m (World.block_lt_of_cell? _ _ C_wb) une)).trans F_wb
         obtain ⟨g3, c3, rfl, _, _, _, _⟩ := own_form hO2 (by omega)
         have HZ := Lib.hid (lt_fin HFM.out HCC.out HO.out HIN.out H2.out B_wa O_wa hg2 hO2 hat2)
         clear hg2 hO2 hat2 C_wb F_wb C_wa F_wa B_wa O_wa une
         refine hK.out _ _ trivial (fun hHeld => ?_)
         clear hK K
         try simp only [Act.put, xqA, xqB, xqC]
         refine wpAnyH_ready (rs := [5]) (by kernel_rfl) (by simp) ?_
         refine' AllReadyH.cons (o := _) ?e_11 ?st_11 AllReadyH.nil
         case e_11 => (simp only [xeA, xeB, xeC]; exact rfl)
         case st_11 =>
          intro K hK
          go_simp
          refine hK.out _ _ trivial (fun hHeld => ?_)
          clear hK K
          try simp only [Act.put, xqA, xqB, xqC]
          refine wpAnyH_done (by kernel_rfl) ?_ _
          go_wp2
          refine bodyPost_end (results_none rfl _ _ _) rfl ?_
          exact ⟨rfl, HZ.out.1, HZ.out.2⟩
      case more_8 =>
       refine' AllReadyH.cons (o := _) ?e_12 ?st_12 AllReadyH.nil
       case e_12 => (simp only [xeA, xeB, xeC]; exact rfl)
       case st_12 =>
        intro K hK
        go_simp
        have C_wb : (wa.alloc (.cells #[.slice ac part.length cc] 37)).cell? ⟨m, 0, none⟩ = some u := cell_later (below_one _) C_wa
        have F_wb : (wa.alloc (.cells #[.slice ac part.length cc] 37)).frozen? ⟨m, 0, none⟩ = false := ((below_one (w := wa) _).frozen (p := ⟨m, 0, none⟩) (World.block_lt_of_cell? _ _ C_wa)).trans F_wa
        refine hK.out _ _ trivial (fun hHeld => ?_)
        clear hK K
        try simp only [Act.put, xqA, xqB, xqC]
        refine wpAnyH_ready (rs := [0]) (by kernel_rfl) (by simp) ?_
        refine' AllReadyH.cons (o := _) ?e_13 ?st_13 AllReadyH.nil
        case e_13 => (simp only [xeA, xeB, xeC]; exact rfl)
        case st_13 =>
         intro K hK
         go_simp
         refine hK.out _ _ trivial (fun hHeld => ?_)
         clear hK K
         try simp only [Act.put, xqA, xqB, xqC]
         refine wpAnyH_ready (rs := [4]) (by kernel_rfl) (by simp) ?_
         refine' AllReadyH.cons (o := _) ?e_14 ?st_14 AllReadyH.nil
         case e_14 => (simp only [xeA, xeB, xeC]; exact rfl)
         case st_14 =>
          intro K hK
          refine step_append_at (by rfl) _ _ _ (by rfl) (m + 1) 37 inf (.slice none 0 0) 1 24 Tryz.underlying96 hi hz0 hz1 hz2 rfl (by decide) u (ltF done).length vs (by rfl) ((own_keep HO.out B_wa).alloc _) ⟨wa.heap.size, 0, none⟩ 1 1 [.slice ac part.length cc] (by rfl) (by rfl) (news_new _ [.slice ac part.length cc] _) (by simp [Value.oneCell']) (by unfold maxLen; omega) (by omega) (by have := B_wa.size; simp; omega) ?_
          intro v2 wb hO2 hg2 hat2
          have une : some m ≠ u.ownBlock := (fun e => by have := (HO.out.lt m e.symm).1; omega)
          have C_wc : wb.cell? ⟨m, 0, none⟩ = some u := hg2.cell C_wb une
          have F_wc : wb.frozen? ⟨m, 0, none⟩ = false := (World.frozen?_of_block (a := ⟨m, 0, none⟩) (hg2.block m (World.block_lt_of_cell? _ _ C_wb) une)).trans F_wb
          obtain ⟨g3, c3, rfl, _, _, _, _⟩ := own_form hO2 (by omega)
          have HZ := Lib.hid (lt_fin HFM.out HCC.out HO.out HIN.out H2.out B_wa O_wa hg2 hO2 hat2)
          clear hg2 hO2 hat2 C_wb F_wb C_wa F_wa B_wa O_wa une
          refine hK.out _ _ trivial (fun hHeld => ?_)
          clear hK K
          try simp only [Act.put, xqA, xqB, xqC]
          refine wpAnyH_ready (rs := [5]) (by kernel_rfl) (by simp) ?_
          refine' AllReadyH.cons (o := _) ?e_15 ?st_15 AllReadyH.nil
          case e_15 => (simp only [xeA, xeB, xeC]; exact rfl)
          case st_15 =>
           intro K hK
           go_simp
           refine hK.out _ _ trivial (fun hHeld => ?_)
           clear hK K
           try simp only [Act.put, xqA, xqB, xqC]
           refine wpAnyH_done (by kernel_rfl) ?_ _
           go_wp2
           refine bodyPost_end (results_none rfl _ _ _) rfl ?_
           exact ⟨rfl, HZ.out.1, HZ.out.2⟩
    -- END
theorem ltF_all : ltF ([] ++ subsL tenI) = ltA := rfl
set_option maxHeartbeats 1000000 in
theorem LeastTests_c (w : World) : Calls Tryz.prog 195 #[] w fun e w' => ∃ u, e = .returned u ∧ OwnSS w' w.heap.size u ltA ∧ Below w.heap.size w w' := by
 have q1 : (w.alloc (.cells #[.slice none 0 0] 96)).cell? ⟨w.heap.size, 0, none⟩ = some (.slice none 0 0) := by rw [World.cell?_alloc_at _ _ _ _ rfl]; rfl
 have q2 : (w.alloc (.cells #[.slice none 0 0] 96)).frozen? ⟨w.heap.size, 0, none⟩ = false := World.frozen?_alloc_new _ _ _ _
 have hb0 : Below w.heap.size w (w.alloc (.cells #[.slice none 0 0] 96)) := below_one _
 go_enter Tryz.func195, Tryz.ntmps195
 go_wp2_with fail
 refine (allDigits_c _).mono ?_
 rintro e w2 ⟨u, rfl, ho, hb2⟩
 have g1 := cell_later hb2 q1
 have hI0 : LtI w.heap.size [] w2 := ⟨by rw [hb2.frozen (p := ⟨w.heap.size, 0, none⟩) (World.block_lt_of_cell? _ _ q1)]; exact q2, _, g1, OwnSS.nil_ _ _⟩
 have hv : Ints w2 u tenI := Ints.of_own ho
 have hlt := ho.lt
 have hb3 := Below.chain hb0 hb2
 have hnd : ∀ j, j ≠ w.heap.size → ¬ LtD w.heap.size w2 j := by
  rintro j hj (e | ⟨u', hc', hk⟩)
  · exact hj e
  · rw [g1] at hc'
    injection hc' with hc'
    subst hc'
    simp [Value.ownBlock] at hk
 have HX := Lib.hid (subsetsB_c (lt_doer w.heap.size tenI (by decide)) (by decide) u w2 [] hI0 hv (by show (subsL tenI).length ≤ 1100; have h := loopE_len tenI []; unfold subsL; rw [List.length_cons, h]; decide) (fun g hg => ⟨hnd g (by have := (hlt g hg).1; simp at this; omega), (hlt g hg).2⟩))
 have HND := Lib.hid hnd
 clear q1 q2 hb0 hb2 ho g1 hI0 hv hlt hnd
 go_wp2_with fail
 refine HX.out.mono ?_
 rintro e w3 ⟨rfl, hI3, hF3⟩
 have hb4 : Below w.heap.size w w3 := ⟨hF3.os.trans hb3.os, hF3.tape.trans hb3.tape, hF3.output.trans hb3.output, Nat.le_trans hb3.size hF3.size, fun j hj => (hF3.block j (Nat.lt_of_lt_of_le hj hb3.size) (HND.out j (by omega))).trans (hb3.block j hj)⟩
 obtain ⟨u3, g1, vs, h1, h2⟩ := hI3.best
 rw [ltF_all] at h1 h2
 have HO := Lib.hid (show OwnSS w3 w.heap.size u3 ltA from ⟨vs, own_lo h1 (by omega), h2.lo' (by omega)⟩)
 clear hI3 hF3 hb3 HX HND h1 h2
 go_wp2
 go_ret
 exact ⟨_, rfl, HO.out, hb4⟩
def AnsOut (o : Option Bs) (w : World) (e : Ending) (w' : World) : Prop := ∃ t, e = .returned (.tuple #[.string t, .bool o.isSome]) ∧ (∀ s, o = some s → t = bs s) ∧ Below w.heap.size w w'
theorem AnsOut.yes {o : Option Bs} {s : Bs} {w w' : World} (h : o = some s) (hb : Below w.heap.size w w') : AnsOut o w (.returned (.tuple #[.string (bs s), .bool true])) w' :=
 ⟨bs s, by rw [h]; rfl, fun (s' : Bs) (h' : o = some s') => (by rw [h] at h'; rw [Option.some.inj h']), hb⟩
theorem AnsOut.no {o : Option Bs} {t : ByteArray} {w w' : World} (h : o = none) (hb : Below w.heap.size w w') : AnsOut o w (.returned (.tuple #[.string t, .bool false])) w' :=
 ⟨t, by rw [h]; rfl, fun (s' : Bs) (h' : o = some s') => (by rw [h] at h'; cases h'), hb⟩
theorem showR_row {b : List Int} (hg : goodB b = true) : rowB (showR b) = true := by
 unfold rowB showR
 rw [decide_eq_true (by simp [shTo]), Bool.true_and, List.all_eq_true]
 intro x hx
 unfold shTo at hx
 rw [List.mem_map] at hx
 obtain ⟨k, hk, rfl⟩ := hx
 obtain ⟨⟨d0, d1, l0, l1⟩, c0, c1⟩ := goodB_at hg (List.mem_range.1 hk)
 have := shC_bd (d := (bF b k).1) c0 c1 l0 l1
 exact cellB_mk this.1 this.2
theorem showR_bd {b : List Int} (hg : goodB b = true) : ∀ x ∈ showR b, 0 ≤ x ∧ x ≤ 127 := fun x hx => by
 obtain ⟨k, hk⟩ := List.mem_iff_getElem?.1 hx
 exact rowB_cell (showR_row hg) hk
theorem lit_le {b : List Int} (hg : goodB b = true) : litL (showR b) ≤ 999999 := by
 have h := litL_bd (showR_bd hg) 6 (by rw [show (showR b).length = 6 from shTo_len b 6]; omega)
 rw [List.take_of_length_le (by rw [show (showR b).length = 6 from shTo_len b 6]; omega)] at h
 omega
theorem cells_bd {b : List Int} (hb : b.length = 19) (hg : goodB b = true) : ∀ x ∈ b.take 6, 0 ≤ x ∧ x ≤ 127 := fun x hx => by
 obtain ⟨k, hk⟩ := List.mem_iff_getElem?.1 hx
 have hk6 : k < 6 := by have := (List.getElem?_eq_some_iff.1 hk).1; rw [List.length_take] at this; omega
 have h := (goodB_at hg hk6).2
 rw [List.getElem?_take, if_pos hk6] at hk
 have : bg b k = x := by unfold bg; rw [List.getD_eq_getElem?_getD, hk]; rfl
 rw [← this]; exact h
theorem headDig_bd (f : Int × Int) (c : Int) : 0 ≤ headDig f c ∧ headDig f c ≤ 9 := by
 unfold headDig
 cases h : digL f.1 f.2 c with
 | nil => exact ⟨by decide, by decide⟩
 | cons y t =>
  have hy : y ∈ digL f.1 f.2 c := by rw [h]; simp
  unfold digL at hy
  have := (List.mem_filter.1 hy).1
  simp only [tenI, List.mem_cons, List.not_mem_nil, or_false] at this
  show 0 ≤ y ∧ y ≤ 9
  omega
theorem fnL_bd (fs : List (Int × Int)) (r : List Int) : ∀ x ∈ fnL fs r, 0 ≤ x ∧ x ≤ 999999 := fun x hx => by
 unfold fnL at hx
 split at hx
 · unfold firstTo at hx
   obtain ⟨q, _, rfl⟩ := List.mem_map.1 hx
   have := headDig_bd q.1 q.2
   omega
 · cases hx
theorem digL_bd (d l c : Int) : ∀ x ∈ digL d l c, 0 ≤ x ∧ x ≤ 999999 := fun x hx => by
 unfold digL at hx
 have := (List.mem_filter.1 hx).1
 simp only [tenI, List.mem_cons, List.not_mem_nil, or_false] at this
 omega
theorem ltA_le : ltA.length ≤ 999999 := Nat.le_trans (List.length_filter_le _ _) (by decide +kernel)
theorem numO_le {r : List Int} {n : Nat} (h : numO r = some n) (hl : r.length ≤ 6) : n ≤ 999999 := by
 unfold numO at h
 split at h
 · cases h
 · have h1 := numTo_lt _ _ h
   have h2 : 10 ^ r.length ≤ 10 ^ 6 := Nat.pow_le_pow_right (by decide) hl
   omega
theorem ints_range {w : World} {g : Nat} {b : List Int} (h : w.rangeAt g 0 (ints b)) (hb : b.length = 19) : Ints w (.slice (some ⟨g, 0, none⟩) 6 6) (b.take 6) := by
 have hl : (b.take 6).length = 6 := by rw [List.length_take]; omega
 refine ⟨some ⟨g, 0, none⟩, 6, by rw [hl], by omega, by unfold maxLen; omega, by simp, fun _ => ⟨g, 0, rfl, fun j hj => ?_⟩⟩
 have hj6 : j < 6 := by omega
 have hjb : j < b.length := by omega
 rw [h j (.int .i64 b[j]) (by simp [ints, hjb])]
 rw [List.map_take, List.getElem?_take, if_pos hj6]
 simp [hjb]
set_option maxHeartbeats 2000000 in
theorem plain_c (b : List Int) (s : ByteArray) (w : World) (hb : b.length = 19) (hg : goodB b = true) (ht : TabC w) :
 Calls Tryz.prog 147 #[aggI b, .string s] w (AnsOut (tellM b s.data.toList) w) := by
 have r0 := range_new w (ints b) 26
 have hb0 := below_one (w := w) (.cells (ints b).toArray 26)
 have HT := Lib.hid ht
 unfold aggI
 clear ht
 by_cases e0 : s.data.toList = wRow
 · as_aux_lemma =>
    have f0 : (s.toList == [114, 111, 119]) = true := by rw [Lib.toList_data, e0]; rfl
    have HM := Lib.hid (show tellM b s.data.toList = some (rowTx (showR b)) by unfold tellM; rw [if_pos e0])
    clear e0
    go_enter Tryz.func147, Tryz.ntmps147
    go_wp2_with (refine wpList_loadB rfl _ rfl _ rfl b r0 hb ?_)
    refine (shown_b_c b _ hb hg).mono ?_
    rintro e w1 ⟨u, rfl, ho, hb1⟩
    have HR := Lib.hid (show Ints w1 u (showR b) from Ints.of_own ho)
    have HB := Lib.hid (Below.chain hb0 hb1)
    have r1 := range_below r0 hb1
    obtain ⟨ua, uc, rfl, _⟩ := (Sl.of_own ho).slice
    have HSL : Hid ((shTo b 6).length = 6) := shTo_len b 6
    rw [HSL.out] at HR ⊢
    have hrl : (showR b).length ≤ 1000 := by rw [show (showR b).length = 6 from shTo_len b 6]; decide
    clear ho hb1
    go_wp2_with fail
    with_reducible refine (rowText_c _ (showR b) _ HR.out hrl (showR_bd hg)).mono ?_
    rintro e w2 ⟨rfl, hb2⟩
    have HB2 := Lib.hid (Below.chain HB.out hb2)
    clear hb2
    go_wp2
    exact bodyPost_ret (v := .tuple #[.string (bs (rowTx (showR b))), .bool true]) (by simp [results, Tryz.results147, go_sem]) rfl (AnsOut.yes HM.out HB2.out)
 · skip
   by_cases e1 : s.data.toList = wSent
   · as_aux_lemma =>
      have f0 : (s.toList == [114, 111, 119]) = false := by rw [Lib.toList_data]; exact beq_false_of_ne e0
      have f1 : (s.toList == [115, 101, 110, 116]) = true := by rw [Lib.toList_data, e1]; rfl
      have HM := Lib.hid (show tellM b s.data.toList = some (rowTx (b.take 6)) by unfold tellM; rw [if_neg e0]; rw [if_pos e1])
      clear e0 e1
      go_enter Tryz.func147, Tryz.ntmps147
      go_wp2_with (refine wpList_loadB rfl _ rfl _ rfl b r0 hb ?_)
      refine (shown_b_c b _ hb hg).mono ?_
      rintro e w1 ⟨u, rfl, ho, hb1⟩
      have HR := Lib.hid (show Ints w1 u (showR b) from Ints.of_own ho)
      have HB := Lib.hid (Below.chain hb0 hb1)
      have r1 := range_below r0 hb1
      obtain ⟨ua, uc, rfl, _⟩ := (Sl.of_own ho).slice
      have HSL : Hid ((shTo b 6).length = 6) := shTo_len b 6
      rw [HSL.out] at HR ⊢
      have hrl : (showR b).length ≤ 1000 := by rw [show (showR b).length = 6 from shTo_len b 6]; decide
      clear ho hb1
      go_wp2_with fail
      with_reducible refine (rowText_c _ (b.take 6) _ (ints_range r1 hb) (by rw [List.length_take]; omega) (cells_bd hb hg)).mono ?_
      rintro e w2 ⟨rfl, hb2⟩
      have HB2 := Lib.hid (Below.chain HB.out hb2)
      clear hb2
      go_wp2
      exact bodyPost_ret (v := .tuple #[.string (bs (rowTx (b.take 6))), .bool true]) (by simp [results, Tryz.results147, go_sem]) rfl (AnsOut.yes HM.out HB2.out)
   · skip
     by_cases e2 : s.data.toList = wNumber
     · as_aux_lemma =>
        have f0 : (s.toList == [114, 111, 119]) = false := by rw [Lib.toList_data]; exact beq_false_of_ne e0
        have f1 : (s.toList == [115, 101, 110, 116]) = false := by rw [Lib.toList_data]; exact beq_false_of_ne e1
        have f2 : (s.toList == [110, 117, 109, 98, 101, 114]) = true := by rw [Lib.toList_data, e2]; rfl
        have HM := Lib.hid (show tellM b s.data.toList = (numO (showR b)).map Lib.decDigits by unfold tellM; rw [if_neg e0]; rw [if_neg e1]; rw [if_pos e2])
        clear e0 e1 e2
        cases hn : numO (showR b) with
        | none =>
         have HN := Lib.hid (numV_no hn)
         have HM2 := Lib.hid (show tellM b s.data.toList = none by rw [HM.out, hn]; rfl)
         clear hn
         go_enter Tryz.func147, Tryz.ntmps147
         go_wp2_with (refine wpList_loadB rfl _ rfl _ rfl b r0 hb ?_)
         refine (shown_b_c b _ hb hg).mono ?_
         rintro e w1 ⟨u, rfl, ho, hb1⟩
         have HR := Lib.hid (show Ints w1 u (showR b) from Ints.of_own ho)
         have HB := Lib.hid (Below.chain hb0 hb1)
         have r1 := range_below r0 hb1
         obtain ⟨ua, uc, rfl, _⟩ := (Sl.of_own ho).slice
         have HSL : Hid ((shTo b 6).length = 6) := shTo_len b 6
         rw [HSL.out] at HR ⊢
         have hrl : (showR b).length ≤ 1000 := by rw [show (showR b).length = 6 from shTo_len b 6]; decide
         clear ho hb1
         go_wp2_with fail
         refine (NumberOf_c _ (showR b) _ HR.out (showR_row hg)).mono ?_
         rintro e w2 ⟨rfl, hb2⟩
         rw [HN.out]
         have HB2 := Lib.hid (Below.chain HB.out hb2)
         clear hb2
         go_wp2_with fail
         with_reducible refine (ItoaI_c 0 (by decide) (by decide) _ (HT.out.on HB2.out).pow).mono ?_
         rintro e w3 ⟨rfl, hb3⟩
         have HB3 := Lib.hid (Below.chain HB2.out hb3)
         clear hb3
         go_wp2
         exact bodyPost_ret (v := .tuple #[.string (bs (Lib.itoa 0)), .bool false]) (by simp [results, Tryz.results147, go_sem]) rfl (AnsOut.no HM2.out HB3.out)
        | some n =>
         have HN := Lib.hid (numV_yes hn)
         have hn6 := numO_le hn (by rw [show (showR b).length = 6 from shTo_len b 6]; omega)
         have HM2 := Lib.hid (show tellM b s.data.toList = some (Lib.decDigits n) by rw [HM.out, hn]; rfl)
         clear hn
         go_enter Tryz.func147, Tryz.ntmps147
         go_wp2_with (refine wpList_loadB rfl _ rfl _ rfl b r0 hb ?_)
         refine (shown_b_c b _ hb hg).mono ?_
         rintro e w1 ⟨u, rfl, ho, hb1⟩
         have HR := Lib.hid (show Ints w1 u (showR b) from Ints.of_own ho)
         have HB := Lib.hid (Below.chain hb0 hb1)
         have r1 := range_below r0 hb1
         obtain ⟨ua, uc, rfl, _⟩ := (Sl.of_own ho).slice
         have HSL : Hid ((shTo b 6).length = 6) := shTo_len b 6
         rw [HSL.out] at HR ⊢
         have hrl : (showR b).length ≤ 1000 := by rw [show (showR b).length = 6 from shTo_len b 6]; decide
         clear ho hb1
         go_wp2_with fail
         refine (NumberOf_c _ (showR b) _ HR.out (showR_row hg)).mono ?_
         rintro e w2 ⟨rfl, hb2⟩
         rw [HN.out]
         have HB2 := Lib.hid (Below.chain HB.out hb2)
         clear hb2
         go_wp2_with fail
         with_reducible refine (ItoaN_c n hn6 _ (HT.out.on HB2.out).pow).mono ?_
         rintro e w3 ⟨rfl, hb3⟩
         have HB3 := Lib.hid (Below.chain HB2.out hb3)
         clear hb3
         go_wp2
         exact bodyPost_ret (v := .tuple #[.string (bs (Lib.decDigits n)), .bool true]) (by simp [results, Tryz.results147, go_sem]) rfl (AnsOut.yes HM2.out HB3.out)
     · skip
       by_cases e3 : s.data.toList = wBars
       · as_aux_lemma =>
          have f0 : (s.toList == [114, 111, 119]) = false := by rw [Lib.toList_data]; exact beq_false_of_ne e0
          have f1 : (s.toList == [115, 101, 110, 116]) = false := by rw [Lib.toList_data]; exact beq_false_of_ne e1
          have f2 : (s.toList == [110, 117, 109, 98, 101, 114]) = false := by rw [Lib.toList_data]; exact beq_false_of_ne e2
          have f3 : (s.toList == [98, 97, 114, 115]) = true := by rw [Lib.toList_data, e3]; rfl
          have HM := Lib.hid (show tellM b s.data.toList = some (Lib.decDigits (litL (showR b))) by unfold tellM; rw [if_neg e0]; rw [if_neg e1]; rw [if_neg e2]; rw [if_pos e3])
          clear e0 e1 e2 e3
          go_enter Tryz.func147, Tryz.ntmps147
          go_wp2_with (refine wpList_loadB rfl _ rfl _ rfl b r0 hb ?_)
          refine (shown_b_c b _ hb hg).mono ?_
          rintro e w1 ⟨u, rfl, ho, hb1⟩
          have HR := Lib.hid (show Ints w1 u (showR b) from Ints.of_own ho)
          have HB := Lib.hid (Below.chain hb0 hb1)
          have r1 := range_below r0 hb1
          obtain ⟨ua, uc, rfl, _⟩ := (Sl.of_own ho).slice
          have HSL : Hid ((shTo b 6).length = 6) := shTo_len b 6
          rw [HSL.out] at HR ⊢
          have hrl : (showR b).length ≤ 1000 := by rw [show (showR b).length = 6 from shTo_len b 6]; decide
          clear ho hb1
          go_wp2_with fail
          with_reducible refine (LitOf_c _ (showR b) _ HR.out (showR_row hg)).mono ?_
          rintro e w2 ⟨rfl, hb2⟩
          have HB2 := Lib.hid (Below.chain HB.out hb2)
          clear hb2
          go_wp2_with fail
          with_reducible refine (ItoaN_c (litL (showR b)) (lit_le hg) _ (HT.out.on HB2.out).pow).mono ?_
          rintro e w3 ⟨rfl, hb3⟩
          have HB3 := Lib.hid (Below.chain HB2.out hb3)
          clear hb3
          go_wp2
          exact bodyPost_ret (v := .tuple #[.string (bs (Lib.decDigits (litL (showR b)))), .bool true]) (by simp [results, Tryz.results147, go_sem]) rfl (AnsOut.yes HM.out HB3.out)
       · skip
         by_cases e4 : s.data.toList = wFirst
         · as_aux_lemma =>
            have f0 : (s.toList == [114, 111, 119]) = false := by rw [Lib.toList_data]; exact beq_false_of_ne e0
            have f1 : (s.toList == [115, 101, 110, 116]) = false := by rw [Lib.toList_data]; exact beq_false_of_ne e1
            have f2 : (s.toList == [110, 117, 109, 98, 101, 114]) = false := by rw [Lib.toList_data]; exact beq_false_of_ne e2
            have f3 : (s.toList == [98, 97, 114, 115]) = false := by rw [Lib.toList_data]; exact beq_false_of_ne e3
            have f4 : (s.toList == [102, 105, 114, 115, 116]) = true := by rw [Lib.toList_data, e4]; rfl
            have HM := Lib.hid (show tellM b s.data.toList = (if fnOk (fsB b) (showR b) then some (listT (fnL (fsB b) (showR b))) else none) by unfold tellM; rw [if_neg e0]; rw [if_neg e1]; rw [if_neg e2]; rw [if_neg e3]; rw [if_pos e4])
            clear e0 e1 e2 e3 e4
            cases hok : fnOk (fsB b) (showR b) with
            | false =>
             have HM2 := Lib.hid (show tellM b s.data.toList = none by rw [HM.out, hok]; rfl)
             have HOK := Lib.hid hok
             clear hok
             go_enter Tryz.func147, Tryz.ntmps147
             go_wp2_with (refine wpList_loadB rfl _ rfl _ rfl b r0 hb ?_)
             refine (shown_b_c b _ hb hg).mono ?_
             rintro e w1 ⟨u, rfl, ho, hb1⟩
             have HR := Lib.hid (show Ints w1 u (showR b) from Ints.of_own ho)
             have HB := Lib.hid (Below.chain hb0 hb1)
             have r1 := range_below r0 hb1
             obtain ⟨ua, uc, rfl, _⟩ := (Sl.of_own ho).slice
             have HSL : Hid ((shTo b 6).length = 6) := shTo_len b 6
             rw [HSL.out] at HR ⊢
             have hrl : (showR b).length ≤ 1000 := by rw [show (showR b).length = 6 from shTo_len b 6]; decide
             clear ho hb1
             go_wp2_with (refine wpList_loadB rfl _ rfl _ rfl b r1 hb ?_)
             refine (faults_c b _ hb).mono ?_
             rintro e w2 ⟨fv, rfl, hfo, hb2⟩
             have HB2 := Lib.hid (Below.chain HB.out hb2)
             have HR2 := Lib.hid (HR.out.below hb2)
             have HFP := Lib.hid (Pairs.of_own (ps := fsB b) hfo)
             obtain ⟨fa, fc, rfl, _⟩ := (Sl.of_own hfo).slice
             clear hb2 hfo
             go_wp2_with fail
             refine (FirstNumber_c _ _ (fsB b) (showR b) _ HFP.out HR2.out).mono ?_
             rintro e w3 ⟨lu, rfl, hlo, hb3⟩
             rw [HOK.out]
             have HB3 := Lib.hid (Below.chain HB2.out hb3)
             have HL3 := Lib.hid (show Ints w3 lu (fnL (fsB b) (showR b)) from Ints.of_own hlo)
             obtain ⟨la, lc, rfl, _⟩ := (Sl.of_own hlo).slice
             clear hb3 hlo
             go_wp2_with fail
             refine (listText_c _ (fnL (fsB b) (showR b)) _ HL3.out (by have := fnL_le (fsB b) (showR b); omega) (fnL_bd _ _) (HT.out.on HB3.out).pow).mono ?_
             rintro e w4 ⟨rfl, hb4⟩
             have HB4 := Lib.hid (Below.chain HB3.out hb4)
             clear hb4
             go_wp2
             exact bodyPost_ret (v := .tuple #[.string (bs (listT (fnL (fsB b) (showR b)))), .bool false]) (by simp [results, Tryz.results147, go_sem]) rfl (AnsOut.no HM2.out HB4.out)
            | true =>
             have HM2 := Lib.hid (show tellM b s.data.toList = some (listT (fnL (fsB b) (showR b))) by rw [HM.out, hok]; rfl)
             have HOK := Lib.hid hok
             clear hok
             go_enter Tryz.func147, Tryz.ntmps147
             go_wp2_with (refine wpList_loadB rfl _ rfl _ rfl b r0 hb ?_)
             refine (shown_b_c b _ hb hg).mono ?_
             rintro e w1 ⟨u, rfl, ho, hb1⟩
             have HR := Lib.hid (show Ints w1 u (showR b) from Ints.of_own ho)
             have HB := Lib.hid (Below.chain hb0 hb1)
             have r1 := range_below r0 hb1
             obtain ⟨ua, uc, rfl, _⟩ := (Sl.of_own ho).slice
             have HSL : Hid ((shTo b 6).length = 6) := shTo_len b 6
             rw [HSL.out] at HR ⊢
             have hrl : (showR b).length ≤ 1000 := by rw [show (showR b).length = 6 from shTo_len b 6]; decide
             clear ho hb1
             go_wp2_with (refine wpList_loadB rfl _ rfl _ rfl b r1 hb ?_)
             refine (faults_c b _ hb).mono ?_
             rintro e w2 ⟨fv, rfl, hfo, hb2⟩
             have HB2 := Lib.hid (Below.chain HB.out hb2)
             have HR2 := Lib.hid (HR.out.below hb2)
             have HFP := Lib.hid (Pairs.of_own (ps := fsB b) hfo)
             obtain ⟨fa, fc, rfl, _⟩ := (Sl.of_own hfo).slice
             clear hb2 hfo
             go_wp2_with fail
             refine (FirstNumber_c _ _ (fsB b) (showR b) _ HFP.out HR2.out).mono ?_
             rintro e w3 ⟨lu, rfl, hlo, hb3⟩
             rw [HOK.out]
             have HB3 := Lib.hid (Below.chain HB2.out hb3)
             have HL3 := Lib.hid (show Ints w3 lu (fnL (fsB b) (showR b)) from Ints.of_own hlo)
             obtain ⟨la, lc, rfl, _⟩ := (Sl.of_own hlo).slice
             clear hb3 hlo
             go_wp2_with fail
             refine (listText_c _ (fnL (fsB b) (showR b)) _ HL3.out (by have := fnL_le (fsB b) (showR b); omega) (fnL_bd _ _) (HT.out.on HB3.out).pow).mono ?_
             rintro e w4 ⟨rfl, hb4⟩
             have HB4 := Lib.hid (Below.chain HB3.out hb4)
             clear hb4
             go_wp2
             exact bodyPost_ret (v := .tuple #[.string (bs (listT (fnL (fsB b) (showR b)))), .bool true]) (by simp [results, Tryz.results147, go_sem]) rfl (AnsOut.yes HM2.out HB4.out)
         · skip
           by_cases e5 : s.data.toList = wLeast
           · as_aux_lemma =>
              have f0 : (s.toList == [114, 111, 119]) = false := by rw [Lib.toList_data]; exact beq_false_of_ne e0
              have f1 : (s.toList == [115, 101, 110, 116]) = false := by rw [Lib.toList_data]; exact beq_false_of_ne e1
              have f2 : (s.toList == [110, 117, 109, 98, 101, 114]) = false := by rw [Lib.toList_data]; exact beq_false_of_ne e2
              have f3 : (s.toList == [98, 97, 114, 115]) = false := by rw [Lib.toList_data]; exact beq_false_of_ne e3
              have f4 : (s.toList == [102, 105, 114, 115, 116]) = false := by rw [Lib.toList_data]; exact beq_false_of_ne e4
              have f5 : (s.toList == [108, 101, 97, 115, 116]) = true := by rw [Lib.toList_data, e5]; rfl
              have HM := Lib.hid (show tellM b s.data.toList = some (Lib.decDigits ltA.length) by unfold tellM; rw [if_neg e0]; rw [if_neg e1]; rw [if_neg e2]; rw [if_neg e3]; rw [if_neg e4]; rw [if_pos e5])
              clear e0 e1 e2 e3 e4 e5
              go_enter Tryz.func147, Tryz.ntmps147
              go_wp2_with (refine wpList_loadB rfl _ rfl _ rfl b r0 hb ?_)
              refine (shown_b_c b _ hb hg).mono ?_
              rintro e w1 ⟨u, rfl, ho, hb1⟩
              have HR := Lib.hid (show Ints w1 u (showR b) from Ints.of_own ho)
              have HB := Lib.hid (Below.chain hb0 hb1)
              have r1 := range_below r0 hb1
              obtain ⟨ua, uc, rfl, _⟩ := (Sl.of_own ho).slice
              have HSL : Hid ((shTo b 6).length = 6) := shTo_len b 6
              rw [HSL.out] at HR ⊢
              have hrl : (showR b).length ≤ 1000 := by rw [show (showR b).length = 6 from shTo_len b 6]; decide
              clear ho hb1
              go_wp2_with fail
              with_reducible refine (LeastTests_c _).mono ?_
              rintro e w2 ⟨lv, rfl, hls, hb2⟩
              have HB2 := Lib.hid (Below.chain HB.out hb2)
              obtain ⟨vs, hvs, _⟩ := hls
              obtain ⟨la, lc, rfl, _⟩ := (Sl.of_own hvs).slice
              clear hb2 hvs
              go_wp2_with fail
              with_reducible refine (ItoaN_c ltA.length ltA_le _ (HT.out.on HB2.out).pow).mono ?_
              rintro e w3 ⟨rfl, hb3⟩
              have HB3 := Lib.hid (Below.chain HB2.out hb3)
              clear hb3
              go_wp2
              exact bodyPost_ret (v := .tuple #[.string (bs (Lib.decDigits ltA.length)), .bool true]) (by simp [results, Tryz.results147, go_sem]) rfl (AnsOut.yes HM.out HB3.out)
           · as_aux_lemma =>
              have f0 : (s.toList == [114, 111, 119]) = false := by rw [Lib.toList_data]; exact beq_false_of_ne e0
              have f1 : (s.toList == [115, 101, 110, 116]) = false := by rw [Lib.toList_data]; exact beq_false_of_ne e1
              have f2 : (s.toList == [110, 117, 109, 98, 101, 114]) = false := by rw [Lib.toList_data]; exact beq_false_of_ne e2
              have f3 : (s.toList == [98, 97, 114, 115]) = false := by rw [Lib.toList_data]; exact beq_false_of_ne e3
              have f4 : (s.toList == [102, 105, 114, 115, 116]) = false := by rw [Lib.toList_data]; exact beq_false_of_ne e4
              have f5 : (s.toList == [108, 101, 97, 115, 116]) = false := by rw [Lib.toList_data]; exact beq_false_of_ne e5
              have HM := Lib.hid (show tellM b s.data.toList = none by unfold tellM; rw [if_neg e0]; rw [if_neg e1]; rw [if_neg e2]; rw [if_neg e3]; rw [if_neg e4]; rw [if_neg e5])
              clear e0 e1 e2 e3 e4 e5
              go_enter Tryz.func147, Tryz.ntmps147
              go_wp2_with (refine wpList_loadB rfl _ rfl _ rfl b r0 hb ?_)
              refine (shown_b_c b _ hb hg).mono ?_
              rintro e w1 ⟨u, rfl, ho, hb1⟩
              have HR := Lib.hid (show Ints w1 u (showR b) from Ints.of_own ho)
              have HB := Lib.hid (Below.chain hb0 hb1)
              have r1 := range_below r0 hb1
              obtain ⟨ua, uc, rfl, _⟩ := (Sl.of_own ho).slice
              have HSL : Hid ((shTo b 6).length = 6) := shTo_len b 6
              rw [HSL.out] at HR ⊢
              have hrl : (showR b).length ≤ 1000 := by rw [show (showR b).length = 6 from shTo_len b 6]; decide
              clear ho hb1
              go_wp2
              exact bodyPost_ret (v := .tuple #[.string ⟨#[]⟩, .bool false]) (by simp [results, Tryz.results147, go_sem]) rfl (AnsOut.no HM.out HB.out)
end Go.Proofs.YtohgjfdbnkjefaaGreatDoor
