/- subsets with a bound on the parts that were called before. -/
import Derived.Test.YtfflbbgipbnckaaSubs
namespace Go.Proofs.Ytfflbbgipbnckaa
open Go.RowKit
set_option linter.unusedVariables false
set_option maxRecDepth 100000
/-- a function that is called for each part -/
structure DoerB (D : World → Nat → Prop) (I : List (List Int) → World → Prop) (fn : Nat) (cb : Array Value) (S : List Int) : Prop where
  calls : CallsIt fn
  keepI : ∀ done w w', I done w → Below w.heap.size w w' → I done w'
  keepD : ∀ done w w', I done w → Below w.heap.size w w' → ∀ k, D w' k → D w k
  ltD : ∀ done w k, I done w → D w k → k < w.heap.size
  run : ∀ (done : List (List Int)) (part : List Int) v w, part.length ≤ 10 → done.length ≤ 1100 → (∀ y ∈ part, y ∈ S) → I done w → Ints w v part → (∀ g, v.ownBlock = some g → ¬ D w g) → Calls Try.prog fn (#[v] ++ cb) w fun e w' => e = .returned (.tuple #[]) ∧ I (done ++ [part]) w' ∧ Fr D w w'
theorem DoerB.fr {D : World → Nat → Prop} {I : List (List Int) → World → Prop} {fn : Nat} {cb : Array Value} {S : List Int} (H : DoerB D I fn cb S) {done : List (List Int)} {w w' : World} (hI : I done w) (hb : Below w.heap.size w w') : Fr D w w' :=
  ⟨hb.os, hb.tape, hb.output, hb.size, fun k hk _ => hb.block k hk, fun k hk => .inl (H.keepD done w w' hI hb k hk)⟩
set_option maxHeartbeats 4000000 in
theorem extendB_c {D : World → Nat → Prop} {I : List (List Int) → World → Prop} {fn B2 B3 B4 : Nat} {cb : Array Value} {a : Option Addr} {c : Nat} {set : List Int} (H : DoerB D I fn cb set) (hset : set.length ≤ 10) :
    ∀ (m : Nat) (fr : Nat) (part : List Int) (vp : Value) (done : List (List Int)) (w : World), (done ++ part :: loopE (set.drop fr) part).length ≤ 1100 → fr + m = set.length → part.length ≤ fr → (∀ y ∈ part, y ∈ set) → SEnv D w B2 B3 B4 fn cb a c set → I done w → Ints w vp part → (∀ g, vp.ownBlock = some g → ¬ D w g ∧ g < w.heap.size) →
      Calls Try.prog 63 #[vp, .int .i64 (fr : Int), .pointer (some ⟨B2, 0, none⟩), .pointer (some ⟨B3, 0, none⟩), .pointer (some ⟨B4, 0, none⟩)] w fun e w' => e = .returned (.tuple #[]) ∧ I (done ++ part :: loopE (set.drop fr) part) w' ∧ Fr D w w' := by
  intro m
  induction m using Nat.strongRecOn with
  | ind m ih =>
    intro fr part vp done w hB hm hpl hpm hE hI hvp hdp
    have hcf : ∀ (bs : Array Value) (w : World), (callFunc fn bs).run Try.prog w = .ok (.enter fn bs) w := H.calls
    have k2 := hE.c2
    have HR := Lib.hid (H.run done part vp w (by omega) (by simp at hB; omega) hpm hI hvp (fun g hg => (hdp g hg).1))
    have HBD := Lib.hid hB
    clear hB
    have hpv := hvp
    obtain ⟨pa, pc, rfl, _, _, _⟩ := hpv.parts
    go_enter Try.func63, Try.ntmps63
    go_wp2_with fail
    refine HR.out.mono ?_
    rintro e w1 ⟨rfl, hI1, hF1⟩
    have hE1 := hE.keep hF1
    have hv1 := hF1.ints hvp (fun g hg => (hdp g hg).1)
    have hd1 : ∀ g, (Value.slice pa part.length pc).ownBlock = some g → ¬ D w1 g ∧ g < w1.heap.size := fun g hg => ⟨fun hd => by rcases hF1.own g hd with h | h; exact (hdp g hg).1 h; have := (hdp g hg).2; omega, Nat.lt_of_lt_of_le (hdp g hg).2 hF1.size⟩
    clear k2 hE hI hvp hdp
    obtain ⟨i, hi, hz0, hz1, hz2⟩ := info_parts info_int
    have HI1 := Lib.hid hI1; have HE1 := Lib.hid hE1; have HF1 := Lib.hid hF1; have HV1 := Lib.hid hv1; have HD1 := Lib.hid hd1
    clear hI1 hE1 hF1 hv1 hd1
    have IH := Lib.hid ih; have HPM := Lib.hid hpm
    clear ih hpm
    go_wp2
    go_loopw [7] (fun j wr => ∃ (k : Nat) (V : List (List Int)), fr ≤ k ∧ k ≤ set.length ∧ j = .int .i64 (k : Int) ∧ Hid (loopE (set.drop fr) part = V ++ loopE (set.drop k) part) ∧ Hid (I (done ++ part :: V) wr) ∧ Hid (Fr D w1 wr)) (fun j _ => set.length - (intOf j).toNat)
    case atStart => exact ⟨fr, [], by omega, by omega, rfl, rfl, HI1.out, Fr.refl _⟩
    case round =>
      obtain ⟨k, V, hfk, hks, rfl, hV, hIr, hFr⟩ := hrel
      have hEr := Lib.hid (HE1.out.keep hFr.out)
      have c3 := hEr.out.c3
      have c4 := hEr.out.c4
      by_cases hlt : k < set.length
      · have hd : decide ((k : Int) < (set.length : Int)) = true := by simp; omega
        obtain ⟨x, hx⟩ := elem_at hlt
        have HDR : Hid (set.drop k = x :: set.drop (k + 1)) := by
          show _ = _
          rw [List.drop_eq_getElem_cons hlt]
          have := hx.out
          rw [List.getElem?_eq_getElem hlt] at this
          rw [Option.some.inj this]
        obtain ⟨a', c', ea, _, _, HS⟩ := hEr.out.hs.parts
        injection ea with ea1 ea2 ea3
        subst ea1
        obtain ⟨b, off, rfl, g0⟩ := HS.out k x hx.out
        have hvr := HF1.out.trans hFr.out
        have hv2 : Ints wr (.slice pa part.length pc) part := hFr.out.ints HV1.out (fun g hg => (HD1.out g hg).1)
        clear HS
        have hw : IntKind.i64.wrap ((k : Int) + 1) = ((k + 1 : Nat) : Int) := by rw [IntWalk.i64_in _ (by omega)]; simp
        go_wp2_with fail
        go_region_held3 (fun w' => w'.cell? ⟨B3, 0, none⟩ = some (.slice (some ⟨b, off, none⟩) set.length c) ∧ w'.cell? ⟨B4, 0, none⟩ = some (.func (.func 63) #[] #[.pointer (some ⟨B2, 0, none⟩), .pointer (some ⟨B3, 0, none⟩), .pointer (some ⟨B4, 0, none⟩)]) ∧ w'.cell? ⟨b, off + k, none⟩ = some (.int .i64 x))
          (first | (refine ⟨?_, ?_, ?_⟩ <;> assumption) | go_keep)
          (first | (go_at_call 43; refine (Clone_c _ part _ (by first | exact Sl.drew hv2 | exact Sl.drew (Sl.alloc hv2 _) | exact Sl.alloc (Sl.drew hv2) _) (by omega)).mono ?_; rintro e w' ⟨uc, rfl, hoc, hbc⟩; have hb3 : Below wr.heap.size wr w' := Below.chain (by (repeat (first | exact Below.refl _ _ | exact (Below.refl _ _).drew | assumption | exact below_one _ | refine Below.chain ?_ (by assumption) | refine Below.drew ?_ | refine Below.alc ?_ _ | refine below_drewN ?_ | (refine Below.setCell ?_ ?_ _) | exact Nat.le_refl _ | (simp; done) | (simp; omega)))) hbc; have l0 := cell_later hb3 c3; have l1 := cell_later hb3 c4; have l2 := cell_later hb3 g0) | (go_at_call 63; have hF5a := H.fr hIr.out hb7; have hd3 : ∀ g, (Value.slice (some ⟨gg, 0, none⟩) (part.length + 1) cap).ownBlock = some g → ¬ D w3 g ∧ g < w3.heap.size := fun g hg => ⟨fun hdd => by have h1 := H.ltD _ _ _ hIr.out (H.keepD _ _ _ hIr.out hb7 g hdd); have h2 := (ho5.lt g hg).1; omega, (ho5.lt g hg).2⟩; have HX := IH.out (set.length - (k + 1)) (by omega) (k + 1) (part ++ [x]) (.slice (some ⟨gg, 0, none⟩) (part.length + 1) cap) (done ++ part :: V) w3 (by have h1 := HBD.out; have h2 := hV.out; rw [HDR.out] at h2; rw [h2] at h1; simp only [List.length_append, List.length_cons, loopE] at h1 ⊢; omega) (by omega) (by simp; omega) (fun y hy => by rcases List.mem_append.1 hy with h | h; exact HPM.out y h; rw [List.mem_singleton] at h; rw [h]; exact List.mem_of_getElem? hx.out) (hEr.out.keep hF5a) (H.keepI _ _ _ hIr.out hb7) (Ints.of_own (ownsRow_cast ho5 (by simp) (by simp))) hd3; rw [show ((k + 1 : Nat) : Int) = (k : Int) + 1 by simp] at HX; refine HX.mono ?_; rintro e w4 ⟨rfl, hI4, hF4⟩; have hF5 := hF5a.trans hF4; have n0 := hF5.cell c3 hEr.out.d3; have n1 := hF5.cell c4 hEr.out.d4; have n2 := hF5.cell g0 (hEr.out.ds b rfl)) | (go_split_ands; refine step_append_lies _ (by rfl) _ _ _ (by rfl) wr.heap.size 3 i _ 1 8 Try.underlying22 hi hz0 hz1 hz2 rfl (by omega) _ part.length (ints part) (by rfl) (by first | exact own_lo hoc (by simp) | exact own_lo (hoc.alloc _) (by simp)) _ 1 1 [.int .i64 x] (by rfl) (by rfl) (by first | exact news_new _ [.int .i64 x] _ | exact fun j u hu => cell_later hbc (news_new _ [.int .i64 x] _ j u hu)) (by simp [Value.oneCell']) (by omega) (by unfold maxLen; omega) (by omega) (by have := hb3.size; simp; omega) _ rfl ?_; intro gg cap w3 ho5 hg5 hat hlt5; have hb7 : Below wr.heap.size wr w3 := (by first | exact hb3 | exact Below.alc hb3 _ : Below wr.heap.size wr _).grown hg5 (by have := hb3.size; simp; omega) (fun g hg => by have := (hoc.lt g hg).1; simp at this; omega); have k0 := cell_later hb7 c3; have k1 := cell_later hb7 c4; have k2 := cell_later hb7 g0))
        all_goals
          have HI4 := Lib.hid hI4; have HF5 := Lib.hid hF5
          clear hI4 hF5 hF4 hF5a hd3 ho5 hg5 hb7 hoc hbc hb3 k0 k1 k2 l0 l1 l2 n0 n1 n2 g0 c3 c4
          have hdr : set.drop k = x :: set.drop (k + 1) := by
            rw [List.drop_eq_getElem_cons hlt]
            have := hx.out
            rw [List.getElem?_eq_getElem hlt] at this
            rw [Option.some.inj this]
          have HV2 : Hid (loopE (set.drop fr) part = (V ++ (part ++ [x]) :: loopE (set.drop (k + 1)) (part ++ [x])) ++ loopE (set.drop (k + 1)) part) := by
            show _ = _
            rw [hV.out, hdr]
            simp [loopE]
          have HI5 : Hid (I (done ++ part :: (V ++ (part ++ [x]) :: loopE (set.drop (k + 1)) (part ++ [x]))) w4) := by
            have := HI4.out
            show I _ _
            simpa using this
          clear hdr hV HI4
          go_wp2
          go_roundw
          case rel => exact ⟨k + 1, _, by omega, by omega, by go_num, HV2, HI5, hFr.out.trans HF5.out⟩
          case measure => simp [intOf]; omega
      · obtain rfl : k = set.length := by omega
        have HI5 : Hid (I (done ++ part :: loopE (set.drop fr) part) wr) := by
          have h1 := hIr.out
          have h2 := hV.out
          rw [List.drop_length] at h2
          simp only [loopE, List.append_nil] at h2
          show I _ _
          rw [h2]; exact h1
        have HF5 := Lib.hid (HF1.out.trans hFr.out)
        clear hV hIr
        go_wp2
        refine bodyPost_end (results_none rfl _ _ _) rfl ?_
        exact ⟨rfl, HI5.out, HF5.out⟩
theorem subsetsB_c {D : World → Nat → Prop} {I : List (List Int) → World → Prop} {fn : Nat} {cb : Array Value} {set : List Int} (H : DoerB D I fn cb set) (hset : set.length ≤ 10) (v : Value) (w : World) (done : List (List Int)) (hI : I done w) (hv : Ints w v set) (hB : (done ++ subsL set).length ≤ 1100)
    (hds : ∀ g, v.ownBlock = some g → ¬ D w g ∧ g < w.heap.size) :
    Calls Try.prog 39 #[v, .func (.func fn) #[] cb] w fun e w' => e = .returned (.tuple #[]) ∧ I (done ++ subsL set) w' ∧ Fr D w w' := by
  obtain ⟨a, c, rfl, _, _, _⟩ := hv.parts
  have hbA : Below w.heap.size w (((w.alloc (.cells #[.slice a set.length c] 22)).alloc (.cells #[.func (.func fn) #[] cb] 59)).alloc (.cells #[.func (.func 63) #[] #[.pointer (some ⟨w.heap.size + 1, 0, none⟩), .pointer (some ⟨w.heap.size, 0, none⟩), .pointer (some ⟨w.heap.size + 1 + 1, 0, none⟩)]] 74)) := by (repeat (first | exact Below.refl _ _ | exact (Below.refl _ _).drew | assumption | exact below_one _ | refine Below.chain ?_ (by assumption) | refine Below.drew ?_ | refine Below.alc ?_ _ | refine below_drewN ?_ | (refine Below.setCell ?_ ?_ _) | exact Nat.le_refl _ | (simp; done) | (simp; omega)))
  have hE : SEnv D (((w.alloc (.cells #[.slice a set.length c] 22)).alloc (.cells #[.func (.func fn) #[] cb] 59)).alloc (.cells #[.func (.func 63) #[] #[.pointer (some ⟨w.heap.size + 1, 0, none⟩), .pointer (some ⟨w.heap.size, 0, none⟩), .pointer (some ⟨w.heap.size + 1 + 1, 0, none⟩)]] 74)) (w.heap.size + 1) w.heap.size (w.heap.size + 1 + 1) fn cb a c set :=
    have hnd : ∀ k, w.heap.size ≤ k → ¬ D (((w.alloc (.cells #[.slice a set.length c] 22)).alloc (.cells #[.func (.func fn) #[] cb] 59)).alloc (.cells #[.func (.func 63) #[] #[.pointer (some ⟨w.heap.size + 1, 0, none⟩), .pointer (some ⟨w.heap.size, 0, none⟩), .pointer (some ⟨w.heap.size + 1 + 1, 0, none⟩)]] 74)) k := fun k hk hd => by
      have := H.ltD _ _ _ hI (H.keepD _ _ _ hI hbA k hd); omega
    { c2 := by rw [World.cell?_alloc_past _ _ _ (by simp), World.cell?_alloc_at _ _ _ _ (by simp)]; rfl
      c3 := by rw [World.cell?_alloc_past _ _ _ (by simp only [World.size_alloc]; omega), World.cell?_alloc_past _ _ _ (by simp), World.cell?_alloc_at _ _ _ _ rfl]; rfl
      c4 := by rw [World.cell?_alloc_at _ _ _ _ (by simp)]; rfl
      hs := hv.below hbA
      d2 := hnd _ (by omega)
      d3 := hnd _ (by omega)
      d4 := hnd _ (by omega)
      ds := fun g hg hd => (hds g hg).1 (H.keepD _ _ _ hI hbA g hd)
      lt2 := by simp
      lts := fun g hg => by have := (hds g hg).2; simp; omega }
  have HX := extendB_c H hset set.length 0 [] (.slice none 0 0) done _ (by have h1 := hB; unfold subsL at h1; simpa using h1) (by omega) (by simp) (fun y hy => by simp at hy) hE (H.keepI _ _ _ hI hbA) (Sl.nil_ _ _) (fun g hg => by simp [Value.ownBlock] at hg)
  have hF := Lib.hid (H.fr hI hbA)
  have HY := Lib.hid HX
  have hst : (store ⟨w.heap.size + 1 + 1, 0, none⟩ (.func (.func 63) #[] #[.pointer (some ⟨w.heap.size + 1, 0, none⟩), .pointer (some ⟨w.heap.size, 0, none⟩), .pointer (some ⟨w.heap.size + 1 + 1, 0, none⟩)])).run Try.prog (((w.alloc (.cells #[.slice a set.length c] 22)).alloc (.cells #[.func (.func fn) #[] cb] 59)).alloc (.cells #[.nilFunc] 74)) = .ok () (((w.alloc (.cells #[.slice a set.length c] 22)).alloc (.cells #[.func (.func fn) #[] cb] 59)).alloc (.cells #[.func (.func 63) #[] #[.pointer (some ⟨w.heap.size + 1, 0, none⟩), .pointer (some ⟨w.heap.size, 0, none⟩), .pointer (some ⟨w.heap.size + 1 + 1, 0, none⟩)]] 74)) := by
    rw [run_store _ _ _ _ _ rfl]
    simp [go_sem]
  clear HX hE hds hI hv
  go_enter Try.func39, Try.ntmps39
  go_wp2_with fail
  refine HY.out.mono ?_
  rintro e w1 ⟨rfl, hI1, hF1⟩
  have HI := Lib.hid hI1; have HF := Lib.hid (hF.out.trans hF1)
  clear hI1 hF1
  go_wp2
  refine bodyPost_end (results_none rfl _ _ _) rfl ?_
  exact ⟨rfl, HI.out, HF.out⟩
#print axioms subsetsB_c
end Go.Proofs.Ytfflbbgipbnckaa
