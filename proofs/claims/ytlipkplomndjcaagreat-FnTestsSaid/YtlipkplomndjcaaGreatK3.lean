/- Texts of this claim, gathered: Subs, State. -/
import Derived.Test.YtlipkplomndjcaaGreatK2
import Derived.Deep.AppendLies
import Derived.Deep.RegionHeld3
namespace Go.Proofs.YtlipkplomndjcaaGreat
open Go.RowKit
set_option linter.unusedVariables false
set_option maxRecDepth 100000
def loopE : List Int → List Int → List (List Int)
  | [], _ => []
  | x :: t, part => ((part ++ [x]) :: loopE t (part ++ [x])) ++ loopE t part
def subsL (set : List Int) : List (List Int) := [] :: loopE set []
/-- what a function that is called for each part keeps: all blocks but its own ones -/
structure Fr (D : World → Nat → Prop) (w w' : World) : Prop where
  os : w'.os = w.os
  tape : w'.tape = w.tape
  output : w'.output = w.output
  size : w.heap.size ≤ w'.heap.size
  block : ∀ k, k < w.heap.size → ¬ D w k → w'.heap[k]? = w.heap[k]?
  own : ∀ k, D w' k → D w k ∨ w.heap.size ≤ k
theorem Fr.refl {D : World → Nat → Prop} (w : World) : Fr D w w := ⟨rfl, rfl, rfl, Nat.le_refl _, fun _ _ _ => rfl, fun _ h => .inl h⟩
theorem Fr.trans {D : World → Nat → Prop} {a b c : World} (h : Fr D a b) (k : Fr D b c) : Fr D a c where
  os := k.os.trans h.os
  tape := k.tape.trans h.tape
  output := k.output.trans h.output
  size := Nat.le_trans h.size k.size
  block := fun j hj hd => (k.block j (Nat.lt_of_lt_of_le hj h.size) (fun hd2 => by rcases h.own j hd2 with h3 | h3; exact hd h3; omega)).trans (h.block j hj hd)
  own := fun j hj => by
    rcases k.own j hj with h1 | h1
    · exact h.own j h1
    · exact .inr (Nat.le_trans h.size h1)
theorem Fr.cell {D : World → Nat → Prop} {w w' : World} (h : Fr D w w') {b o : Nat} {v : Value} (hc : w.cell? ⟨b, o, none⟩ = some v) (hd : ¬ D w b) : w'.cell? ⟨b, o, none⟩ = some v := by
  rw [World.cell?_of_block (w := w) (a := ⟨b, o, none⟩) (h.block b (World.block_lt_of_cell? _ _ hc) hd)]; exact hc
theorem Fr.ints {D : World → Nat → Prop} {w w' : World} (h : Fr D w w') {v : Value} {xs : List Int} (hv : Ints w v xs) (hd : ∀ g, v.ownBlock = some g → ¬ D w g) : Ints w' v xs := by
  obtain ⟨a, c, rfl, h1, h2, h3, h4⟩ := hv
  refine ⟨a, c, rfl, h1, h2, h3, fun hn => ?_⟩
  obtain ⟨b, off, rfl, hc⟩ := h4 hn
  refine ⟨b, off, rfl, fun j hj => ?_⟩
  have := hc j hj
  rw [List.getElem?_eq_getElem (by omega)] at this
  rw [h.cell this (hd b rfl), ← this, hc j hj]
/-- a function that is called for each part -/
structure Doer (D : World → Nat → Prop) (I : List (List Int) → World → Prop) (fn : Nat) (cb : Array Value) (S : List Int) : Prop where
  calls : CallsIt fn
  keepI : ∀ done w w', I done w → Below w.heap.size w w' → I done w'
  keepD : ∀ done w w', I done w → Below w.heap.size w w' → ∀ k, D w' k → D w k
  ltD : ∀ done w k, I done w → D w k → k < w.heap.size
  run : ∀ (done : List (List Int)) (part : List Int) v w, part.length ≤ 10 → (∀ y ∈ part, y ∈ S) → I done w → Ints w v part → (∀ g, v.ownBlock = some g → ¬ D w g) → Calls Tryz.prog fn (#[v] ++ cb) w fun e w' => e = .returned (.tuple #[]) ∧ I (done ++ [part]) w' ∧ Fr D w w'
theorem Doer.fr {D : World → Nat → Prop} {I : List (List Int) → World → Prop} {fn : Nat} {cb : Array Value} {S : List Int} (H : Doer D I fn cb S) {done : List (List Int)} {w w' : World} (hI : I done w) (hb : Below w.heap.size w w') : Fr D w w' :=
  ⟨hb.os, hb.tape, hb.output, hb.size, fun k hk _ => hb.block k hk, fun k hk => .inl (H.keepD done w w' hI hb k hk)⟩
/-- what the walk of a set finds in memory -/
structure SEnv (D : World → Nat → Prop) (w : World) (B2 B3 B4 fn : Nat) (cb : Array Value) (a : Option Addr) (c : Nat) (set : List Int) : Prop where
  c2 : w.cell? ⟨B2, 0, none⟩ = some (.func (.func fn) #[] cb)
  c3 : w.cell? ⟨B3, 0, none⟩ = some (.slice a set.length c)
  c4 : w.cell? ⟨B4, 0, none⟩ = some (.func (.func 99) #[] #[.pointer (some ⟨B2, 0, none⟩), .pointer (some ⟨B3, 0, none⟩), .pointer (some ⟨B4, 0, none⟩)])
  hs : Ints w (.slice a set.length c) set
  d2 : ¬ D w B2
  d3 : ¬ D w B3
  d4 : ¬ D w B4
  ds : ∀ g, (Value.slice a set.length c).ownBlock = some g → ¬ D w g
  lt2 : B2 < w.heap.size
  lts : ∀ g, (Value.slice a set.length c).ownBlock = some g → g < w.heap.size
theorem SEnv.keep {D : World → Nat → Prop} {w w' : World} {B2 B3 B4 fn : Nat} {cb : Array Value} {a : Option Addr} {c : Nat} {set : List Int} (h : SEnv D w B2 B3 B4 fn cb a c set) (hf : Fr D w w') : SEnv D w' B2 B3 B4 fn cb a c set where
  c2 := hf.cell h.c2 h.d2
  c3 := hf.cell h.c3 h.d3
  c4 := hf.cell h.c4 h.d4
  hs := hf.ints h.hs h.ds
  d2 := fun hd => by rcases hf.own _ hd with h1 | h1; exact h.d2 h1; have := World.block_lt_of_cell? _ _ h.c2; simp at this; omega
  d3 := fun hd => by rcases hf.own _ hd with h1 | h1; exact h.d3 h1; have := World.block_lt_of_cell? _ _ h.c3; simp at this; omega
  d4 := fun hd => by rcases hf.own _ hd with h1 | h1; exact h.d4 h1; have := World.block_lt_of_cell? _ _ h.c4; simp at this; omega
  ds := fun g hg hd => by rcases hf.own _ hd with h1 | h1; exact h.ds g hg h1; have := h.lts g hg; omega
  lt2 := Nat.lt_of_lt_of_le h.lt2 hf.size
  lts := fun g hg => Nat.lt_of_lt_of_le (h.lts g hg) hf.size
set_option maxHeartbeats 4000000 in
theorem extend_c {D : World → Nat → Prop} {I : List (List Int) → World → Prop} {fn B2 B3 B4 : Nat} {cb : Array Value} {a : Option Addr} {c : Nat} {set : List Int} (H : Doer D I fn cb set) (hset : set.length ≤ 10) :
    ∀ (m : Nat) (fr : Nat) (part : List Int) (vp : Value) (done : List (List Int)) (w : World), fr + m = set.length → part.length ≤ fr → (∀ y ∈ part, y ∈ set) → SEnv D w B2 B3 B4 fn cb a c set → I done w → Ints w vp part → (∀ g, vp.ownBlock = some g → ¬ D w g ∧ g < w.heap.size) →
      Calls Tryz.prog 99 #[vp, .int .i64 (fr : Int), .pointer (some ⟨B2, 0, none⟩), .pointer (some ⟨B3, 0, none⟩), .pointer (some ⟨B4, 0, none⟩)] w fun e w' => e = .returned (.tuple #[]) ∧ I (done ++ part :: loopE (set.drop fr) part) w' ∧ Fr D w w' := by
  intro m
  induction m using Nat.strongRecOn with
  | ind m ih =>
    intro fr part vp done w hm hpl hpm hE hI hvp hdp
    have hcf : ∀ (bs : Array Value) (w : World), (callFunc fn bs).run Tryz.prog w = .ok (.enter fn bs) w := H.calls
    have k2 := hE.c2
    have HR := Lib.hid (H.run done part vp w (by omega) hpm hI hvp (fun g hg => (hdp g hg).1))
    have hpv := hvp
    obtain ⟨pa, pc, rfl, _, _, _⟩ := hpv.parts
    go_enter Tryz.func99, Tryz.ntmps99
    go_wp2_with fail
    refine HR.out.mono ?_
    rintro e w1 ⟨rfl, hI1, hF1⟩
    have hE1 := hE.keep hF1
    have hv1 := hF1.ints hvp (fun g hg => (hdp g hg).1)
    have hd1 : ∀ g, (Value.slice pa part.length pc).ownBlock = some g → ¬ D w1 g ∧ g < w1.heap.size := fun g hg => ⟨fun hd => by rcases hF1.own g hd with h | h; exact (hdp g hg).1 h; have := (hdp g hg).2; omega, Nat.lt_of_lt_of_le (hdp g hg).2 hF1.size⟩
    clear k2 hE hI hvp hdp
    obtain ⟨i, hi, hz0, hz1, hz2⟩ := info_parts info_int
    have HI1 := Lib.hid hI1; have HE1 := Lib.hid hE1; have HF1 := Lib.hid hF1; have HV1 := Lib.hid hv1; have HD1 := Lib.hid hd1
    clear hI1 hE1 hF1 hv1 hd1
    have IH := Lib.hid ih; have HPM := Lib.hid hpm
    clear ih hpm
    go_wp2
    go_loopw [7] (fun j wr => ∃ (k : Nat) (V : List (List Int)), fr ≤ k ∧ k ≤ set.length ∧ j = .int .i64 (k : Int) ∧ Hid (loopE (set.drop fr) part = V ++ loopE (set.drop k) part) ∧ Hid (I (done ++ part :: V) wr) ∧ Hid (Fr D w1 wr)) (fun j _ => set.length - (intOf j).toNat)
    case atStart => exact ⟨fr, [], by omega, by omega, rfl, rfl, HI1.out, Fr.refl _⟩
    case round =>
      obtain ⟨k, V, hfk, hks, rfl, hV, hIr, hFr⟩ := hrel
      have hEr := Lib.hid (HE1.out.keep hFr.out)
      have c3 := hEr.out.c3
      have c4 := hEr.out.c4
      by_cases hlt : k < set.length
      · have hd : decide ((k : Int) < (set.length : Int)) = true := by simp; omega
        obtain ⟨x, hx⟩ := elem_at hlt
        obtain ⟨a', c', ea, _, _, HS⟩ := hEr.out.hs.parts
        injection ea with ea1 ea2 ea3
        subst ea1
        obtain ⟨b, off, rfl, g0⟩ := HS.out k x hx.out
        have hvr := HF1.out.trans hFr.out
        have hv2 : Ints wr (.slice pa part.length pc) part := hFr.out.ints HV1.out (fun g hg => (HD1.out g hg).1)
        clear HS
        have hw : IntKind.i64.wrap ((k : Int) + 1) = ((k + 1 : Nat) : Int) := by rw [IntWalk.i64_in _ (by omega)]; simp
        go_wp2_with fail
        go_region_held3 (fun w' => w'.cell? ⟨B3, 0, none⟩ = some (.slice (some ⟨b, off, none⟩) set.length c) ∧ w'.cell? ⟨B4, 0, none⟩ = some (.func (.func 99) #[] #[.pointer (some ⟨B2, 0, none⟩), .pointer (some ⟨B3, 0, none⟩), .pointer (some ⟨B4, 0, none⟩)]) ∧ w'.cell? ⟨b, off + k, none⟩ = some (.int .i64 x))
          (first | (refine ⟨?_, ?_, ?_⟩ <;> assumption) | go_keep)
          (first | (go_at_call 60; refine (Clone_c _ part _ (by first | exact Sl.drew hv2 | exact Sl.drew (Sl.alloc hv2 _) | exact Sl.alloc (Sl.drew hv2) _) (by omega)).mono ?_; rintro e w' ⟨uc, rfl, hoc, hbc⟩; have hb3 : Below wr.heap.size wr w' := Below.chain (by (repeat (first | exact Below.refl _ _ | exact (Below.refl _ _).drew | assumption | exact below_one _ | refine Below.chain ?_ (by assumption) | refine Below.drew ?_ | refine Below.alc ?_ _ | refine below_drewN ?_ | (refine Below.setCell ?_ ?_ _) | exact Nat.le_refl _ | (simp; done) | (simp; omega)))) hbc; have l0 := cell_later hb3 c3; have l1 := cell_later hb3 c4; have l2 := cell_later hb3 g0) | (go_at_call 99; have hF5a := H.fr hIr.out hb7; have hd3 : ∀ g, (Value.slice (some ⟨gg, 0, none⟩) (part.length + 1) cap).ownBlock = some g → ¬ D w3 g ∧ g < w3.heap.size := fun g hg => ⟨fun hdd => by have h1 := H.ltD _ _ _ hIr.out (H.keepD _ _ _ hIr.out hb7 g hdd); have h2 := (ho5.lt g hg).1; omega, (ho5.lt g hg).2⟩; have HX := IH.out (set.length - (k + 1)) (by omega) (k + 1) (part ++ [x]) (.slice (some ⟨gg, 0, none⟩) (part.length + 1) cap) (done ++ part :: V) w3 (by omega) (by simp; omega) (fun y hy => by rcases List.mem_append.1 hy with h | h; exact HPM.out y h; rw [List.mem_singleton] at h; rw [h]; exact List.mem_of_getElem? hx.out) (hEr.out.keep hF5a) (H.keepI _ _ _ hIr.out hb7) (Ints.of_own (ownsRow_cast ho5 (by simp) (by simp))) hd3; rw [show ((k + 1 : Nat) : Int) = (k : Int) + 1 by simp] at HX; refine HX.mono ?_; rintro e w4 ⟨rfl, hI4, hF4⟩; have hF5 := hF5a.trans hF4; have n0 := hF5.cell c3 hEr.out.d3; have n1 := hF5.cell c4 hEr.out.d4; have n2 := hF5.cell g0 (hEr.out.ds b rfl)) | (go_split_ands; refine step_append_lies _ (by rfl) _ _ _ (by rfl) wr.heap.size 3 i _ 1 8 Tryz.underlying24 hi hz0 hz1 hz2 rfl (by omega) _ part.length (ints part) (by rfl) (by first | exact own_lo hoc (by simp) | exact own_lo (hoc.alloc _) (by simp)) _ 1 1 [.int .i64 x] (by rfl) (by rfl) (by first | exact news_new _ [.int .i64 x] _ | exact fun j u hu => cell_later hbc (news_new _ [.int .i64 x] _ j u hu)) (by simp [Value.oneCell']) (by omega) (by unfold maxLen; omega) (by omega) (by have := hb3.size; simp; omega) _ rfl ?_; intro gg cap w3 ho5 hg5 hat hlt5; have hb7 : Below wr.heap.size wr w3 := (by first | exact hb3 | exact Below.alc hb3 _ : Below wr.heap.size wr _).grown hg5 (by have := hb3.size; simp; omega) (fun g hg => by have := (hoc.lt g hg).1; simp at this; omega); have k0 := cell_later hb7 c3; have k1 := cell_later hb7 c4; have k2 := cell_later hb7 g0))
        all_goals
          have HI4 := Lib.hid hI4; have HF5 := Lib.hid hF5
          clear hI4 hF5 hF4 hF5a hd3 ho5 hg5 hb7 hoc hbc hb3 k0 k1 k2 l0 l1 l2 n0 n1 n2 g0 c3 c4
          have hdr : set.drop k = x :: set.drop (k + 1) := by
            rw [List.drop_eq_getElem_cons hlt]
            have := hx.out
            rw [List.getElem?_eq_getElem hlt] at this
            rw [Option.some.inj this]
          have HV2 : Hid (loopE (set.drop fr) part = (V ++ (part ++ [x]) :: loopE (set.drop (k + 1)) (part ++ [x])) ++ loopE (set.drop (k + 1)) part) := by
            show _ = _
            rw [hV.out, hdr]
            simp [loopE]
          have HI5 : Hid (I (done ++ part :: (V ++ (part ++ [x]) :: loopE (set.drop (k + 1)) (part ++ [x]))) w4) := by
            have := HI4.out
            show I _ _
            simpa using this
          clear hdr hV HI4
          go_wp2
          go_roundw
          case rel => exact ⟨k + 1, _, by omega, by omega, by go_num, HV2, HI5, hFr.out.trans HF5.out⟩
          case measure => simp [intOf]; omega
      · obtain rfl : k = set.length := by omega
        have HI5 : Hid (I (done ++ part :: loopE (set.drop fr) part) wr) := by
          have h1 := hIr.out
          have h2 := hV.out
          rw [List.drop_length] at h2
          simp only [loopE, List.append_nil] at h2
          show I _ _
          rw [h2]; exact h1
        have HF5 := Lib.hid (HF1.out.trans hFr.out)
        clear hV hIr
        go_wp2
        refine bodyPost_end (results_none rfl _ _ _) rfl ?_
        exact ⟨rfl, HI5.out, HF5.out⟩
theorem subsets_c {D : World → Nat → Prop} {I : List (List Int) → World → Prop} {fn : Nat} {cb : Array Value} {set : List Int} (H : Doer D I fn cb set) (hset : set.length ≤ 10) (v : Value) (w : World) (done : List (List Int)) (hI : I done w) (hv : Ints w v set)
    (hds : ∀ g, v.ownBlock = some g → ¬ D w g ∧ g < w.heap.size) :
    Calls Tryz.prog 57 #[v, .func (.func fn) #[] cb] w fun e w' => e = .returned (.tuple #[]) ∧ I (done ++ subsL set) w' ∧ Fr D w w' := by
  obtain ⟨a, c, rfl, _, _, _⟩ := hv.parts
  have hbA : Below w.heap.size w (((w.alloc (.cells #[.slice a set.length c] 24)).alloc (.cells #[.func (.func fn) #[] cb] 71)).alloc (.cells #[.func (.func 99) #[] #[.pointer (some ⟨w.heap.size + 1, 0, none⟩), .pointer (some ⟨w.heap.size, 0, none⟩), .pointer (some ⟨w.heap.size + 1 + 1, 0, none⟩)]] 95)) := by (repeat (first | exact Below.refl _ _ | exact (Below.refl _ _).drew | assumption | exact below_one _ | refine Below.chain ?_ (by assumption) | refine Below.drew ?_ | refine Below.alc ?_ _ | refine below_drewN ?_ | (refine Below.setCell ?_ ?_ _) | exact Nat.le_refl _ | (simp; done) | (simp; omega)))
  have hE : SEnv D (((w.alloc (.cells #[.slice a set.length c] 24)).alloc (.cells #[.func (.func fn) #[] cb] 71)).alloc (.cells #[.func (.func 99) #[] #[.pointer (some ⟨w.heap.size + 1, 0, none⟩), .pointer (some ⟨w.heap.size, 0, none⟩), .pointer (some ⟨w.heap.size + 1 + 1, 0, none⟩)]] 95)) (w.heap.size + 1) w.heap.size (w.heap.size + 1 + 1) fn cb a c set :=
    have hnd : ∀ k, w.heap.size ≤ k → ¬ D (((w.alloc (.cells #[.slice a set.length c] 24)).alloc (.cells #[.func (.func fn) #[] cb] 71)).alloc (.cells #[.func (.func 99) #[] #[.pointer (some ⟨w.heap.size + 1, 0, none⟩), .pointer (some ⟨w.heap.size, 0, none⟩), .pointer (some ⟨w.heap.size + 1 + 1, 0, none⟩)]] 95)) k := fun k hk hd => by
      have := H.ltD _ _ _ hI (H.keepD _ _ _ hI hbA k hd); omega
    { c2 := by rw [World.cell?_alloc_past _ _ _ (by simp), World.cell?_alloc_at _ _ _ _ (by simp)]; rfl
      c3 := by rw [World.cell?_alloc_past _ _ _ (by simp only [World.size_alloc]; omega), World.cell?_alloc_past _ _ _ (by simp), World.cell?_alloc_at _ _ _ _ rfl]; rfl
      c4 := by rw [World.cell?_alloc_at _ _ _ _ (by simp)]; rfl
      hs := hv.below hbA
      d2 := hnd _ (by omega)
      d3 := hnd _ (by omega)
      d4 := hnd _ (by omega)
      ds := fun g hg hd => (hds g hg).1 (H.keepD _ _ _ hI hbA g hd)
      lt2 := by simp
      lts := fun g hg => by have := (hds g hg).2; simp; omega }
  have HX := extend_c H hset set.length 0 [] (.slice none 0 0) done _ (by omega) (by simp) (fun y hy => by simp at hy) hE (H.keepI _ _ _ hI hbA) (Sl.nil_ _ _) (fun g hg => by simp [Value.ownBlock] at hg)
  have hF := Lib.hid (H.fr hI hbA)
  have HY := Lib.hid HX
  have hst : (store ⟨w.heap.size + 1 + 1, 0, none⟩ (.func (.func 99) #[] #[.pointer (some ⟨w.heap.size + 1, 0, none⟩), .pointer (some ⟨w.heap.size, 0, none⟩), .pointer (some ⟨w.heap.size + 1 + 1, 0, none⟩)])).run Tryz.prog (((w.alloc (.cells #[.slice a set.length c] 24)).alloc (.cells #[.func (.func fn) #[] cb] 71)).alloc (.cells #[.nilFunc] 95)) = .ok () (((w.alloc (.cells #[.slice a set.length c] 24)).alloc (.cells #[.func (.func fn) #[] cb] 71)).alloc (.cells #[.func (.func 99) #[] #[.pointer (some ⟨w.heap.size + 1, 0, none⟩), .pointer (some ⟨w.heap.size, 0, none⟩), .pointer (some ⟨w.heap.size + 1 + 1, 0, none⟩)]] 95)) := by
    rw [run_store _ _ _ _ _ rfl]
    simp [go_sem]
  clear HX hE hds hI hv
  go_enter Tryz.func57, Tryz.ntmps57
  go_wp2_with fail
  refine HY.out.mono ?_
  rintro e w1 ⟨rfl, hI1, hF1⟩
  have HI := Lib.hid hI1; have HF := Lib.hid (hF.out.trans hF1)
  clear hI1 hF1
  go_wp2
  refine bodyPost_end (results_none rfl _ _ _) rfl ?_
  exact ⟨rfl, HI.out, HF.out⟩
#print axioms subsets_c
end Go.Proofs.YtlipkplomndjcaaGreat
namespace Go.Proofs.YtlipkplomndjcaaGreat
open Go.RowKit
set_option linter.unusedVariables false

theorem IsState_c (bar kind : Int) (w : World) : Calls Tryz.prog 25 #[.agg #[.int .i64 bar, .int .i64 kind]] w fun e w' => e = .returned (.bool (stateB bar kind)) ∧ Below w.heap.size w w' := by
  by_cases h0 : kind = 0
  · subst h0
    go_enter Tryz.func25, Tryz.ntmps25
    go_wp2_with (go_at_call 67; refine (within_c _ _ _ _).mono ?_; rintro e w' ⟨rfl, rfl⟩)
    all_goals (go_ret; exact ⟨bool_ret (by simp_all [stateB, inB]; try omega), below_one _⟩)
  · have h1 : (kind != 0) = true := by simpa using h0
    go_enter Tryz.func25, Tryz.ntmps25
    go_wp2_with (go_at_call 67; refine (within_c _ _ _ _).mono ?_; rintro e w' ⟨rfl, rfl⟩)
    all_goals (go_ret; exact ⟨bool_ret (by simp_all [stateB, inB]; try omega), below_one _⟩)
theorem l7State_c (bar kind : Int) (w : World) : Calls Tryz.prog 65 #[.agg #[.int .i64 bar, .int .i64 kind]] w fun e w' => e = .returned (.bool (stateB bar kind)) ∧ Below w.heap.size w w' := by
  by_cases h0 : kind = 0
  · subst h0
    go_enter Tryz.func65, Tryz.ntmps65
    go_wp2_with (go_at_call 71; refine (l1In_c _ _ _ _).mono ?_; rintro e w' ⟨rfl, rfl⟩)
    all_goals (go_ret; exact ⟨bool_ret (by simp_all [stateB]; try omega), below_one _⟩)
  · have h1 : (kind == 0) = false := by simpa using h0
    go_enter Tryz.func65, Tryz.ntmps65
    go_wp2_with (go_at_call 71; refine (l1In_c _ _ _ _).mono ?_; rintro e w' ⟨rfl, rfl⟩)
    all_goals (go_ret; exact ⟨bool_ret (by simp_all [stateB, inB]; try omega), below_one _⟩)
def faultV (bar kind : Int) : Value := .agg #[.int .i64 (stD bar kind), .int .i64 (stL bar kind)]
theorem Sfault_c (bar kind : Int) (h : stateB bar kind = true) (w : World) : Calls Tryz.prog 64 #[.agg #[.int .i64 bar, .int .i64 kind]] w fun e w' => e = .returned (faultV bar kind) ∧ Below w.heap.size w w' := by
  rcases stateB_cases h with ⟨rfl, rfl⟩ | ⟨rfl, h0, h1⟩ | ⟨rfl, h0, h1⟩
  · go_enter Tryz.func64, Tryz.ntmps64
    go_wp2
    exact bodyPost_ret (v := faultV 0 0) (by simp [results, Tryz.results64, go_sem, faultV, stD, stL]) rfl ⟨rfl, (below_one _).alloc (by simp) _⟩
  · rcases bar_cases h0 h1 with rfl | rfl | rfl | rfl | rfl | rfl | rfl
    all_goals
      clear h0 h1 h
      go_enter Tryz.func64, Tryz.ntmps64
      go_wp2
      refine bodyPost_ret (v := faultV _ 1) (by simp [results, Tryz.results64, go_sem, faultV, stD, stL]) rfl ⟨rfl, ?_⟩
      repeat (first | exact below_one _ | apply Below.setCell | apply Below.alloc | simp)
  · rcases bar_cases h0 h1 with rfl | rfl | rfl | rfl | rfl | rfl | rfl
    all_goals
      clear h0 h1 h
      go_enter Tryz.func64, Tryz.ntmps64
      go_wp2
      refine bodyPost_ret (v := faultV _ 2) (by simp [results, Tryz.results64, go_sem, faultV, stD, stL]) rfl ⟨rfl, ?_⟩
      repeat (first | exact below_one _ | apply Below.setCell | apply Below.alloc | simp)
theorem isTest_c (v : Value) (xs : List Int) (w : World) (hv : Ints w v xs) : Calls Tryz.prog 44 #[v] w fun e w' => e = .returned (.bool (testB xs)) ∧ Below w.heap.size w w' := by
  obtain ⟨a, c, hvv, hc1, hc2, HC⟩ := hv.parts
  by_cases h : xs.length ≤ 10
  · subst hvv
    go_enter Tryz.func44, Tryz.ntmps44
    go_wp2_with (go_at_call 75; refine (areAllInt_c _ xs 84 digitB _ hv (fun _ _ => by kernel_rfl) (fun x w' => isDigit_c x w')).mono ?_; rintro e w' ⟨rfl, hb⟩)
    go_ret
    exact ⟨bool_ret (by simp [testB, h]), by assumption⟩
  · subst hvv
    go_enter Tryz.func44, Tryz.ntmps44
    go_wp2_with fail
    go_ret
    exact ⟨bool_ret (by simp [testB]; omega), Below.refl _ _⟩
theorem l7Test_c (v : Value) (xs : List Int) (w : World) (hv : Ints w v xs) : Calls Tryz.prog 46 #[v] w fun e w' => e = .returned (.bool (testB xs)) ∧ Below w.heap.size w w' := by
  have hm := hv.le
  obtain ⟨a, c, rfl, hc1, hc2, HC⟩ := hv.parts
  go_enter Tryz.func46, Tryz.ntmps46
  go_wp2
  go_loopw [3] (fun i wr => ∃ k : Nat, k ≤ xs.length ∧ k ≤ 11 ∧ i = .int .i64 k ∧ Hid (∀ j x, j < k → xs[j]? = some x → digitB x = true) ∧ w = wr) (fun i _ => xs.length - (intOf i).toNat)
  case atStart => exact ⟨0, by omega, by omega, rfl, fun j x hj => by omega, by trivial⟩
  case round =>
    obtain ⟨k, hk, hk2, rfl, hbef, rfl⟩ := hrel
    clear hv
    by_cases hlt : k < xs.length ∧ k ≤ 10
    · obtain ⟨hlt, hle⟩ := hlt
      obtain ⟨x, hx⟩ := elem_at hlt
      obtain ⟨b, off, rfl, g0⟩ := HC.out k x hx.out
      go_wp2_with fail
      refine (l1In_c _ _ _ _).mono ?_
      rintro e w' ⟨rfl, rfl⟩
      rcases hpx : inB x 0 9 with _ | _
      · have HP := Lib.hid hpx; clear hpx
        go_wp2
        go_ret
        exact ⟨bool_ret (by
          symm; simp only [testB, Bool.and_eq_false_iff]; right
          rw [List.all_eq_false]; exact ⟨x, List.mem_of_getElem? hx.out, by simp [digitB, HP.out]⟩), Below.refl _ _⟩
      · have HP := Lib.hid hpx; clear hpx
        go_wp2
        go_roundw
        case rel => exact ⟨k + 1, by omega, by omega, by go_num, fun j y hj hy => by
          by_cases hj2 : j < k
          · exact hbef.out j y hj2 hy
          · obtain rfl : j = k := by omega
            rw [hx.out] at hy; obtain rfl := Option.some.inj hy; exact HP.out, by trivial⟩
        case measure => simp [intOf]; omega
    · have hor : k = xs.length ∨ (k = 11 ∧ k < xs.length) := by omega
      clear hlt
      rcases hor with hor | ⟨hor, hor2⟩
      · have HK := Lib.hid hor
        have h1 : ¬ k < xs.length := by omega
        clear hor
        go_wp2
        go_ret
        refine ⟨bool_ret ?_, Below.refl _ _⟩
        have hall : xs.all digitB = true := by
          rw [List.all_eq_true]; intro x hx
          obtain ⟨j, hj⟩ := List.mem_iff_getElem?.1 hx
          have := (List.getElem?_eq_some_iff.1 hj).1
          exact hbef.out j x (by have := HK.out; omega) hj
        simp [testB, hall]; omega
      · have HK := Lib.hid hor
        have h1 : ¬ k ≤ 10 := by omega
        clear hor
        go_wp2
        go_ret
        refine ⟨bool_ret ?_, Below.refl _ _⟩
        have := HK.out
        rw [decide_eq_false (by omega)]
        simp [testB]; omega
/-- the place of the first digit of a test that finds a state, or -1 -/
def placeOf (bar kind : Int) (xs : List Int) : Int := firstAt (finds bar kind) xs
theorem finding_c (v : Value) (xs : List Int) (bar kind : Int) (w : World) (hv : Ints w v xs) (hs : stateB bar kind = true) (ht : testB xs = true) :
    Calls Tryz.prog 50 #[.agg #[.int .i64 bar, .int .i64 kind], v] w fun e w' => e = .returned (.int .i64 (placeOf bar kind xs)) ∧ Below w.heap.size w w' := by
  have bd := stDL_bd hs
  go_enter Tryz.func50, Tryz.ntmps50
  go_wp2_with fail
  refine (Sfault_c bar kind hs _).mono ?_
  rintro e w1 ⟨rfl, hb1⟩
  unfold faultV
  go_wp2_with fail
  refine (IndexFuncInt_c v xs 95 #[.pointer (some ⟨w1.heap.size, 0, none⟩)] (finds bar kind) _ ?_ (fun _ _ => by kernel_rfl) ?_).mono ?_
  · exact Ints.below (Ints.below (Ints.below hv (below_one _)) hb1) (below_one _)
  · intro x w2 hx hb2
    have hd : 0 ≤ x ∧ x ≤ 9 := by
      simp only [testB, Bool.and_eq_true, List.all_eq_true] at ht
      exact digitB_true (ht.2 x hx)
    have hx0 := hd.1; have hx1 := hd.2
    have bdx := dg_bd x
    have c0 : w2.cell? ⟨w1.heap.size, 0, none⟩ = some (.int .i64 (stD bar kind)) := by
      rw [(bcell hb2).1 _ _ (by simp), World.cell?_alloc_at _ _ _ _ rfl]; rfl
    have c1 : w2.cell? ⟨w1.heap.size, 1, none⟩ = some (.int .i64 (stL bar kind)) := by
      rw [(bcell hb2).1 _ _ (by simp), World.cell?_alloc_at _ _ _ _ rfl]; rfl
    have hix := fun w => index_dig x hx0 hx1 w
    clear hv hb1 hb2 hs ht hx hd
    go_enter Tryz.func95, Tryz.ntmps95
    go_wp2_with fail
    go_region_held3 (fun w' => w'.cell? ⟨w1.heap.size, 0, none⟩ = some (.int .i64 (stD bar kind)) ∧ w'.cell? ⟨w1.heap.size, 1, none⟩ = some (.int .i64 (stL bar kind)))
      (first | go_keep | (go_split_ands; exact ⟨cell_later (by assumption) (by assumption), cell_later (by assumption) (by assumption)⟩))
      (first | (go_at_call 78; refine (digitCells_c _).mono ?_; rintro e w' ⟨rfl, hb⟩) | (go_at_call 77; refine (shown_c _ _ _ (by omega) (by omega) (by omega) (by omega) (by omega) (by omega) _).mono ?_; rintro e w' ⟨rfl, hb⟩))
    go_wp2
    go_ret
    exact ⟨rfl, by (repeat (first | exact Below.refl _ _ | exact (Below.refl _ _).drew | assumption | exact below_one _ | refine Below.chain ?_ (by assumption) | refine Below.drew ?_ | refine Below.alc ?_ _ | refine below_drewN ?_ | (refine Below.setCell ?_ ?_ _) | exact Nat.le_refl _ | (simp; done) | (simp; omega)))⟩
  · rintro e w3 ⟨rfl, hb3⟩
    go_wp2
    go_ret
    exact ⟨rfl, ((((below_one _).trans (hb1.mono (by simp))).alloc (by have := hb1.size; simp at this; omega) _).trans (hb3.mono (by have := hb1.size; simp at this ⊢; omega)))⟩
/-- what both texts of FirstFinding return -/
def ffOk (xs : List Int) (bar kind : Int) : Bool := testB xs && (stateB bar kind && decide (0 ≤ placeOf bar kind xs))
def ffN (xs : List Int) (bar kind : Int) : Int := if ffOk xs bar kind then placeOf bar kind xs else 0
def firstFindingV (xs : List Int) (bar kind : Int) : Value := .tuple #[.int .i64 (ffN xs bar kind), .bool (ffOk xs bar kind)]
theorem FirstFinding_c (v : Value) (xs : List Int) (bar kind : Int) (w : World) (hv : Ints w v xs) :
    Calls Tryz.prog 28 #[v, .agg #[.int .i64 bar, .int .i64 kind]] w fun e w' => e = .returned (firstFindingV xs bar kind) ∧ Below w.heap.size w w' := by
  rcases ht : testB xs with _ | _
  · have HF0 : firstFindingV xs bar kind = .tuple #[.int .i64 0, .bool false] := by simp [firstFindingV, ffN, ffOk, ht]
    have HF := Lib.hid HF0; clear HF0; have HT := Lib.hid ht; clear ht
    go_enter Tryz.func28, Tryz.ntmps28
    go_wp2_with fail
    refine (isTest_c v xs _ (hv.below (below_one _))).mono ?_
    rintro e w1 ⟨rfl, hb1⟩
    rw [HT.out]
    go_wp2
    go_ret2
    exact ⟨by rw [HF.out]; rfl, by (repeat (first | exact Below.refl _ _ | exact (Below.refl _ _).drew | assumption | exact below_one _ | refine Below.chain ?_ (by assumption) | refine Below.drew ?_ | refine Below.alc ?_ _ | refine below_drewN ?_ | (refine Below.setCell ?_ ?_ _) | exact Nat.le_refl _ | (simp; done) | (simp; omega)))⟩
  · rcases hs : stateB bar kind with _ | _
    · have HF0 : firstFindingV xs bar kind = .tuple #[.int .i64 0, .bool false] := by simp [firstFindingV, ffN, ffOk, hs]
      have HF := Lib.hid HF0; clear HF0; have HT := Lib.hid ht; have HS := Lib.hid hs; clear ht hs
      go_enter Tryz.func28, Tryz.ntmps28
      go_wp2_with fail
      refine (isTest_c v xs _ (hv.below (below_one _))).mono ?_
      rintro e w1 ⟨rfl, hb1⟩
      rw [HT.out]
      obtain ⟨hc1, hf1⟩ := bcell hb1
      go_wp2_with fail
      refine (IsState_c bar kind _).mono ?_
      rintro e w2 ⟨rfl, hb2⟩
      rw [HS.out]
      go_wp2
      go_ret2
      exact ⟨by rw [HF.out]; rfl, by (repeat (first | exact Below.refl _ _ | exact (Below.refl _ _).drew | assumption | exact below_one _ | refine Below.chain ?_ (by assumption) | refine Below.drew ?_ | refine Below.alc ?_ _ | refine below_drewN ?_ | (refine Below.setCell ?_ ?_ _) | exact Nat.le_refl _ | (simp; done) | (simp; omega)))⟩
    · have HF0 : firstFindingV xs bar kind = .tuple #[.int .i64 (if 0 ≤ placeOf bar kind xs then placeOf bar kind xs else 0), .bool (decide (0 ≤ placeOf bar kind xs))] := by simp [firstFindingV, ffN, ffOk, hs, ht]
      have HF := Lib.hid HF0; clear HF0; have HT := Lib.hid ht; have HS := Lib.hid hs; clear ht hs
      go_enter Tryz.func28, Tryz.ntmps28
      go_wp2_with fail
      refine (isTest_c v xs _ (hv.below (below_one _))).mono ?_
      rintro e w1 ⟨rfl, hb1⟩
      rw [HT.out]
      obtain ⟨hc1, hf1⟩ := bcell hb1
      go_wp2_with fail
      refine (IsState_c bar kind _).mono ?_
      rintro e w2 ⟨rfl, hb2⟩
      rw [HS.out]
      obtain ⟨hc2, hf2⟩ := bcell hb2
      have hz1 : w.heap.size < w1.heap.size := by have := hb1.size; simp at this; omega
      go_wp2_with fail
      refine (finding_c v xs bar kind _ (Ints.below (Ints.below (hv.below (below_one _)) hb1) hb2) HS.out HT.out).mono ?_
      rintro e w3 ⟨rfl, hb3⟩
      have HQ : Hid (firstFindingV xs bar kind = .tuple #[.int .i64 (if 0 ≤ placeOf bar kind xs then placeOf bar kind xs else 0), .bool (decide (0 ≤ placeOf bar kind xs))]) := HF
      clear HF
      generalize placeOf bar kind xs = q at *
      by_cases hq : q < 0
      · have HF : Hid (firstFindingV xs bar kind = .tuple #[.int .i64 0, .bool false]) := by rw [HQ.out, if_neg (by omega), decide_eq_false (by omega)]; rfl
        clear HQ
        go_wp2
        go_ret2
        exact ⟨by rw [HF.out]; rfl, by (repeat (first | exact Below.refl _ _ | exact (Below.refl _ _).drew | assumption | exact below_one _ | refine Below.chain ?_ (by assumption) | refine Below.drew ?_ | refine Below.alc ?_ _ | refine below_drewN ?_ | (refine Below.setCell ?_ ?_ _) | exact Nat.le_refl _ | (simp; done) | (simp; omega)))⟩
      · have HF : Hid (firstFindingV xs bar kind = .tuple #[.int .i64 q, .bool true]) := by rw [HQ.out, if_pos (by omega), decide_eq_true (by omega)]; rfl
        clear HQ
        go_wp2
        go_ret2
        exact ⟨by rw [HF.out]; rfl, by (repeat (first | exact Below.refl _ _ | exact (Below.refl _ _).drew | assumption | exact below_one _ | refine Below.chain ?_ (by assumption) | refine Below.drew ?_ | refine Below.alc ?_ _ | refine below_drewN ?_ | (refine Below.setCell ?_ ?_ _) | exact Nat.le_refl _ | (simp; done) | (simp; omega)))⟩

theorem l7Fault_c (bar kind : Int) (h : stateB bar kind = true) (w : World) : Calls Tryz.prog 66 #[.agg #[.int .i64 bar, .int .i64 kind]] w fun e w' => e = .returned (faultV bar kind) ∧ Below w.heap.size w w' := by
  rcases stateB_cases h with ⟨rfl, rfl⟩ | ⟨rfl, h0, h1⟩ | ⟨rfl, h0, h1⟩
  · go_enter Tryz.func66, Tryz.ntmps66
    go_wp2
    exact bodyPost_ret (v := faultV 0 0) (by simp [results, Tryz.results66, go_sem, faultV, stD, stL]) rfl ⟨rfl, (below_one _).alloc (by simp) _⟩
  · rcases bar_cases h0 h1 with rfl | rfl | rfl | rfl | rfl | rfl | rfl
    all_goals
      clear h0 h1 h
      go_enter Tryz.func66, Tryz.ntmps66
      go_wp2
      refine bodyPost_ret (v := faultV _ 1) (by simp [results, Tryz.results66, go_sem, faultV, stD, stL]) rfl ⟨rfl, ?_⟩
      repeat (first | exact below_one _ | apply Below.setCell | apply Below.alloc | simp)
  · rcases bar_cases h0 h1 with rfl | rfl | rfl | rfl | rfl | rfl | rfl
    all_goals
      clear h0 h1 h
      go_enter Tryz.func66, Tryz.ntmps66
      go_wp2
      refine bodyPost_ret (v := faultV _ 2) (by simp [results, Tryz.results66, go_sem, faultV, stD, stL]) rfl ⟨rfl, ?_⟩
      repeat (first | exact below_one _ | apply Below.setCell | apply Below.alloc | simp)
theorem testB_digit {xs : List Int} (ht : testB xs = true) {k : Nat} {x : Int} (hx : xs[k]? = some x) : 0 ≤ x ∧ x ≤ 9 := by
  simp only [testB, Bool.and_eq_true, List.all_eq_true] at ht
  exact digitB_true (ht.2 x (List.mem_of_getElem? hx))
theorem l7Place_c (v : Value) (xs : List Int) (bar kind : Int) (w : World) (hv : Ints w v xs) (hs : stateB bar kind = true) (ht : testB xs = true) :
    Calls Tryz.prog 82 #[v, .agg #[.int .i64 bar, .int .i64 kind]] w fun e w' => e = .returned (.int .i64 (placeOf bar kind xs)) ∧ Below w.heap.size w w' := by
  have bd := stDL_bd hs
  have hm := hv.le
  obtain ⟨a, c, rfl, hc1, hc2, HC⟩ := hv.parts
  clear hv
  go_enter Tryz.func82, Tryz.ntmps82
  go_wp2_with fail
  refine (l7Fault_c bar kind hs _).mono ?_
  rintro e w1 ⟨rfl, hb1⟩
  unfold faultV
  have hz1 : w.heap.size < w1.heap.size := by have := hb1.size; simp at this; omega
  go_wp2_with fail
  go_loopw [6, 7] (fun i q wr => ∃ k : Nat, k ≤ xs.length ∧ i = .int .i64 k ∧ Hid (∀ j x, j < k → xs[j]? = some x → finds bar kind x = false) ∧ Below w.heap.size w wr ∧
      wr.cell? ⟨w1.heap.size, 0, none⟩ = some (.int .i64 (stD bar kind)) ∧ wr.cell? ⟨w1.heap.size, 1, none⟩ = some (.int .i64 (stL bar kind))) (fun i _ _ => xs.length - (intOf i).toNat)
  case atStart => exact ⟨0, by omega, rfl, fun j x hj => by omega, by (repeat (first | exact Below.refl _ _ | exact (Below.refl _ _).drew | assumption | exact below_one _ | refine Below.chain ?_ (by assumption) | refine Below.drew ?_ | refine Below.alc ?_ _ | refine below_drewN ?_ | (refine Below.setCell ?_ ?_ _) | exact Nat.le_refl _ | (simp; done) | (simp; omega))), by rw [World.cell?_alloc_at _ _ _ _ rfl]; rfl, by rw [World.cell?_alloc_at _ _ _ _ rfl]; rfl⟩
  case round =>
    obtain ⟨k, hk, rfl, hbef, hb, g0, g1⟩ := hrel
    by_cases hlt : k < xs.length
    · obtain ⟨x, hx⟩ := elem_at hlt
      obtain ⟨b, off, rfl, h0⟩ := HC.out k x hx.out
      have hblt : b < w.heap.size := World.block_lt_of_cell? w _ h0
      have h1 : wr.cell? ⟨b, off + k, none⟩ = some (.int .i64 x) := ((bcell hb).1 _ _ hblt).trans h0
      have hxd := testB_digit ht hx.out
      have bdx := dg_bd x
      clear h0 hb1
      go_wp2_with fail
      refine (l2Digit_c x hxd.1 hxd.2 _).mono ?_
      rintro e w2 ⟨rfl, hb2⟩
      have g02 := cell_later hb2 g0
      have g12 := cell_later hb2 g1
      go_wp2_with fail
      refine (l3Shown_c _ _ _ bd.1 bd.2.1 bd.2.2.1 bd.2.2.2 bdx.1 bdx.2 _).mono ?_
      rintro e w3 ⟨rfl, hb3⟩
      have g03 := cell_later hb3 g02
      have g13 := cell_later hb3 g12
      clear g0 g1 g02 g12
      have hb4 : Below w.heap.size w w3 := by (repeat (first | exact Below.refl _ _ | exact (Below.refl _ _).drew | assumption | exact below_one _ | refine Below.chain ?_ (by assumption) | refine Below.drew ?_ | refine Below.alc ?_ _ | refine below_drewN ?_ | (refine Below.setCell ?_ ?_ _) | exact Nat.le_refl _ | (simp; done) | (simp; omega)))
      rcases hf : finds bar kind x with _ | _
      · have ht2 : (shC (stD bar kind) (stL bar kind) (dg x) != dg x) = false := hf
        have HP := Lib.hid hf; clear hf
        go_wp2
        go_roundw
        case rel => exact ⟨k + 1, by omega, by go_num, fun j y hj hy => by
          by_cases hj2 : j < k
          · exact hbef.out j y hj2 hy
          · obtain rfl : j = k := by omega
            rw [hx.out] at hy; obtain rfl := Option.some.inj hy; exact HP.out, hb4, g03, g13⟩
        case measure => simp [intOf]; omega
      · have ht2 : (shC (stD bar kind) (stL bar kind) (dg x) != dg x) = true := hf
        have HP := Lib.hid hf; clear hf
        go_wp2
        go_ret
        exact ⟨int_ret (firstAt_some hx.out HP.out hbef.out).symm, hb4⟩
    · go_wp2
      go_ret
      exact ⟨int_ret (firstAt_none (by omega) hbef.out).symm, hb⟩
theorem l1Most_c (a b : Int) (w : World) : Calls Tryz.prog 83 #[.int .i64 a, .int .i64 b] w fun e w' => e = .returned (.int .i64 (max a b)) ∧ w = w' := by
  by_cases h : b < a
  · go_enter Tryz.func83, Tryz.ntmps83
    go_wp2
    go_ret
    exact ⟨int_ret (by omega), rfl⟩
  · go_enter Tryz.func83, Tryz.ntmps83
    go_wp2
    go_ret
    exact ⟨int_ret (by omega), rfl⟩
theorem sFirstFinding_c (v : Value) (xs : List Int) (bar kind : Int) (w : World) (hv : Ints w v xs) :
    Calls Tryz.prog 34 #[v, .agg #[.int .i64 bar, .int .i64 kind]] w fun e w' => e = .returned (firstFindingV xs bar kind) ∧ Below w.heap.size w w' := by
  rcases ht : testB xs with _ | _
  · have HF0 : firstFindingV xs bar kind = .tuple #[.int .i64 0, .bool false] := by simp [firstFindingV, ffN, ffOk, ht]
    have HF := Lib.hid HF0; clear HF0; have HT := Lib.hid ht; clear ht
    go_enter Tryz.func34, Tryz.ntmps34
    go_wp2_with fail
    refine (l7Test_c v xs _ (hv.below (below_one _))).mono ?_
    rintro e w1 ⟨rfl, hb1⟩
    rw [HT.out]
    go_wp2
    go_ret2
    exact ⟨by rw [HF.out]; rfl, by (repeat (first | exact Below.refl _ _ | exact (Below.refl _ _).drew | assumption | exact below_one _ | refine Below.chain ?_ (by assumption) | refine Below.drew ?_ | refine Below.alc ?_ _ | refine below_drewN ?_ | (refine Below.setCell ?_ ?_ _) | exact Nat.le_refl _ | (simp; done) | (simp; omega)))⟩
  · rcases hs : stateB bar kind with _ | _
    · have HF0 : firstFindingV xs bar kind = .tuple #[.int .i64 0, .bool false] := by simp [firstFindingV, ffN, ffOk, hs]
      have HF := Lib.hid HF0; clear HF0; have HT := Lib.hid ht; have HS := Lib.hid hs; clear ht hs
      go_enter Tryz.func34, Tryz.ntmps34
      go_wp2_with fail
      refine (l7Test_c v xs _ (hv.below (below_one _))).mono ?_
      rintro e w1 ⟨rfl, hb1⟩
      rw [HT.out]
      obtain ⟨hc1, hf1⟩ := bcell hb1
      go_wp2_with fail
      refine (l7State_c bar kind _).mono ?_
      rintro e w2 ⟨rfl, hb2⟩
      rw [HS.out]
      go_wp2
      go_ret2
      exact ⟨by rw [HF.out]; rfl, by (repeat (first | exact Below.refl _ _ | exact (Below.refl _ _).drew | assumption | exact below_one _ | refine Below.chain ?_ (by assumption) | refine Below.drew ?_ | refine Below.alc ?_ _ | refine below_drewN ?_ | (refine Below.setCell ?_ ?_ _) | exact Nat.le_refl _ | (simp; done) | (simp; omega)))⟩
    · have HF0 : firstFindingV xs bar kind = .tuple #[.int .i64 (if 0 ≤ placeOf bar kind xs then placeOf bar kind xs else 0), .bool (decide (0 ≤ placeOf bar kind xs))] := by simp [firstFindingV, ffN, ffOk, hs, ht]
      have HF := Lib.hid HF0; clear HF0; have HT := Lib.hid ht; have HS := Lib.hid hs; clear ht hs
      go_enter Tryz.func34, Tryz.ntmps34
      go_wp2_with fail
      refine (l7Test_c v xs _ (hv.below (below_one _))).mono ?_
      rintro e w1 ⟨rfl, hb1⟩
      rw [HT.out]
      obtain ⟨hc1, hf1⟩ := bcell hb1
      go_wp2_with fail
      refine (l7State_c bar kind _).mono ?_
      rintro e w2 ⟨rfl, hb2⟩
      rw [HS.out]
      obtain ⟨hc2, hf2⟩ := bcell hb2
      have hz1 : w.heap.size < w1.heap.size := by have := hb1.size; simp at this; omega
      go_wp2_with fail
      refine (l7Place_c v xs bar kind _ (Ints.below (Ints.below (hv.below (below_one _)) hb1) hb2) HS.out HT.out).mono ?_
      rintro e w3 ⟨rfl, hb3⟩
      generalize placeOf bar kind xs = q at *
      go_wp2_with (go_at_call 83; refine (l1Most_c _ _ _).mono ?_; rintro e w' ⟨rfl, rfl⟩)
      go_ret2
      refine ⟨?_, by (repeat (first | exact Below.refl _ _ | exact (Below.refl _ _).drew | assumption | exact below_one _ | refine Below.chain ?_ (by assumption) | refine Below.drew ?_ | refine Below.alc ?_ _ | refine below_drewN ?_ | (refine Below.setCell ?_ ?_ _) | exact Nat.le_refl _ | (simp; done) | (simp; omega)))⟩
      rw [HF.out]
      have e1 : max q 0 = if 0 ≤ q then q else 0 := by split <;> omega
      rw [← e1]; rfl
end Go.Proofs.YtlipkplomndjcaaGreat
