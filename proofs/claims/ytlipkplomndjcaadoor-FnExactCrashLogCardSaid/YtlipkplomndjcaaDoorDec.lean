/- The walks of strings.Cut at one byte, VerifyChecksum, decodeRecord. -/
import Derived.Test.YtlipkplomndjcaaDoorSeal
import Derived.Test.YtlipkplomndjcaaDoorCutP
namespace Go.Proofs.YtlipkplomndjcaaDoor
open Go.RowKit
set_option linter.unusedVariables false
set_option maxRecDepth 100000
theorem bs_eq {s : ByteArray} {l : List UInt8} (h : s.data.toList = l) : s = bs l := by rw [← h, bs_of]
theorem ext_to {s : ByteArray} {a b : List UInt8} (h : s.data.toList = a ++ b) : s.extract 0 a.length = bs a := bs_eq (by rw [Lib.extract_data, h]; simp)
theorem ext_from {s : ByteArray} {a b : List UInt8} {c : UInt8} (h : s.data.toList = a ++ c :: b) : s.extract (a.length + 1) s.size = bs b := bs_eq (by rw [Lib.extract_data, h]; rw [← ba_len, h]; simp; exact List.take_of_length_le (by omega))
theorem str_eq {a b : ByteArray} (h : a = b) : (a.toList == b.toList) = true := by rw [h]; simp
theorem str_ne {a b : ByteArray} (h : a ≠ b) : (a.toList == b.toList) = false := by
  rw [Lib.toList_data, Lib.toList_data]
  simp only [beq_eq_false_iff_ne, ne_eq]
  exact fun e => h (by rw [← bs_of a, e, bs_of])
/-- what a Cut at one byte answers -/
def CutOut (s : ByteArray) (c : UInt8) (w : World) (e : Ending) (w' : World) : Prop :=
  ∃ a b f, e = .returned (.tuple #[.string a, .string b, .bool f]) ∧ a.size ≤ s.size ∧ b.size ≤ s.size ∧ Hid (∀ x y : List UInt8, c ∉ x → s.data.toList = x ++ c :: y → a = bs x ∧ b = bs y) ∧ Below w.heap.size w w'
set_option maxHeartbeats 1000000 in
theorem CutL_c (s : ByteArray) (c : UInt8) (w : World) (hs : s.size ≤ 1073741824) : Calls Tryd.prog 83 #[.string s, .string ⟨#[c]⟩] w (CutOut s c w) := by
  rcases first_at s.data.toList c with ⟨a, b, hab, hc⟩ | hc
  · have HX := Lib.hid (indexByte_hit (b := b) hc)
    have hlen : a.length + 1 + b.length = s.size := by rw [← ba_len, hab]; simp; omega
    have H1 := Lib.hid (ext_to hab)
    have H2 := Lib.hid (ext_from hab)
    have HAB := Lib.hid hab
    have HC := Lib.hid hc
    have hla : a.length ≤ s.size := by omega
    have hlb : a.length + 1 ≤ s.size := by omega
    generalize hn : a.length = n at *
    have hp0 : (0 : Int) ≤ (n : Int) := by omega
    have hp1 : (n : Int) ≤ (s.size : Int) := by omega
    have hp2 : (n : Int) + 1 ≤ (s.size : Int) := by omega
    have hw : IntKind.i64.wrap ((n : Int) + 1) = (n : Int) + 1 := IntWalk.i64_in _ (by omega)
    have HN := Lib.hid hn
    have HL := Lib.hid hlen
    clear hab hc hn hlen
    go_enter Tryd.func83, Tryd.ntmps83
    go_wp2_with fail
    refine (Tryd.stringslite_Index_one s c _).mono ?_
    rintro e w2 ⟨rfl, rfl⟩
    rw [HAB.out, HX.out]
    go_wp2
    go_quiet (fail)
    go_wp2
    go_ret3
    refine ⟨_, _, _, rfl, ?_, ?_, ?_, by (repeat (first | exact Below.refl _ _ | exact (Below.refl _ _).drew | assumption | exact below_one _ | refine Below.chain ?_ (by assumption) | refine Below.drew ?_ | refine Below.alc ?_ _ | refine below_drewN ?_ | (refine Below.setCell ?_ ?_ _) | exact Nat.le_refl _ | (simp; done) | (simp; omega)))⟩
    · rw [H1.out, bs_size]; have := HN.out; omega
    · rw [H2.out, bs_size]; have := HL.out; omega
    · intro x y hx hxy
      obtain ⟨h1, h2⟩ := part_inj HC.out hx (HAB.out.symm.trans hxy)
      rw [H1.out, H2.out, h1, h2]; exact ⟨rfl, rfl⟩
  · have HX := Lib.hid (indexByte_miss hc)
    have HC := Lib.hid hc
    clear hc
    go_enter Tryd.func83, Tryd.ntmps83
    go_wp2_with fail
    refine (Tryd.stringslite_Index_one s c _).mono ?_
    rintro e w2 ⟨rfl, rfl⟩
    rw [HX.out]
    go_wp2
    go_ret3
    refine ⟨_, _, _, rfl, Nat.le_refl _, by show (0 : Nat) ≤ _; omega, ?_, by (repeat (first | exact Below.refl _ _ | exact (Below.refl _ _).drew | assumption | exact below_one _ | refine Below.chain ?_ (by assumption) | refine Below.drew ?_ | refine Below.alc ?_ _ | refine below_drewN ?_ | (refine Below.setCell ?_ ?_ _) | exact Nat.le_refl _ | (simp; done) | (simp; omega)))⟩
    intro x y hx hxy
    exact absurd (by rw [hxy]; simp) HC.out
theorem Cut_c (s : ByteArray) (c : UInt8) (w : World) (hs : s.size ≤ 1073741824) : Calls Tryd.prog 74 #[.string s, .string ⟨#[c]⟩] w (CutOut s c w) := by
  have HC := Lib.hid (CutL_c s c)
  go_enter Tryd.func74, Tryd.ntmps74
  go_wp2_with fail
  refine (HC.out _ hs).mono ?_
  rintro e w2 ⟨a, b, f, rfl, h1, h2, h3, h4⟩
  go_wp2
  go_ret3
  exact ⟨a, b, f, rfl, h1, h2, h3, h4⟩
/-- what VerifyChecksum answers: of a sealed text the text -/
def VerOut (s : ByteArray) (w : World) (e : Ending) (w' : World) : Prop :=
  ∃ t ok, e = .returned (.tuple #[.string t, .bool ok]) ∧ t.size ≤ s.size ∧ Hid (∀ u : List UInt8, (35 : UInt8) ∉ u → u.length ≤ 3000 → s.data.toList = sealS u → t = bs u ∧ ok = true) ∧ Below w.heap.size w w'
set_option maxHeartbeats 1000000 in
theorem VerifyChecksum_c (s : ByteArray) (w : World) (hs : s.size ≤ 1073741824) (ht : Tab w) : Calls Tryd.prog 72 #[.string s] w (VerOut s w) := by
  rcases lastIdx_any s.data.toList 35 with h | ⟨i, hi, h⟩
  · have HX := Lib.hid h
    clear h ht
    go_enter Tryd.func72, Tryd.ntmps72
    go_wp2_with fail
    refine (Tryd.strings_LastIndex s ⟨#[35]⟩ (by omega) _).mono ?_
    rintro e w2 ⟨rfl, rfl⟩
    rw [HX.out]
    go_wp2
    go_ret2
    refine ⟨_, _, rfl, by show (0 : Nat) ≤ _; omega, ?_, by (repeat (first | exact Below.refl _ _ | exact (Below.refl _ _).drew | assumption | exact below_one _ | refine Below.chain ?_ (by assumption) | refine Below.drew ?_ | refine Below.alc ?_ _ | refine below_drewN ?_ | (refine Below.setCell ?_ ?_ _) | exact Nat.le_refl _ | (simp; done) | (simp; omega)))⟩
    intro u hu hl hxy
    have := HX.out
    rw [hxy, seal_last] at this
    omega
  · rw [ba_len] at hi
    have hT := Lib.hid (show (s.extract 0 i).data.toList = s.data.toList.take i by rw [Lib.extract_data]; simp)
    have hsz : (s.extract 0 i).size = i := by rw [← ba_len, hT.out]; simp; omega
    have HSZ := Lib.hid hsz
    have HA := Lib.hid (fun w => AppendChecksum_c (s.extract 0 i) w (by omega))
    have HX := Lib.hid h
    have HT := Lib.hid ht
    clear h ht hsz
    have hp1 : (i : Int) ≤ (s.size : Int) := by omega
    go_enter Tryd.func72, Tryd.ntmps72
    go_wp2_with fail
    refine (Tryd.strings_LastIndex s ⟨#[35]⟩ (by omega) _).mono ?_
    rintro e w2 ⟨rfl, rfl⟩
    rw [HX.out]
    go_wp2_with fail
    refine (HA.out _ HT.out).mono ?_
    rintro e w2 ⟨rfl, hb2⟩
    generalize hR : appR (s.extract 0 i).data.toList = R
    have HR := Lib.hid hR
    clear hR
    obtain ⟨out, ok⟩ := R
    have HU : Hid (∀ u : List UInt8, (35 : UInt8) ∉ u → u.length ≤ 3000 → s.data.toList = sealS u → s.extract 0 i = bs u ∧ ok = true ∧ bs out = s) := by
      intro u hu hl hxy
      have h1 := HX.out
      rw [hxy, seal_last] at h1
      have h1 : i = u.length := by omega
      have h2 : (s.extract 0 i).data.toList = u := by rw [hT.out, hxy, h1]; unfold sealS; simp
      have h3 := HR.out
      rw [h2, appR_yes ⟨by omega, hu, by have := sealS_len u; omega⟩] at h3
      injection h3 with h3 h4
      exact ⟨bs_eq h2, h4.symm, by rw [← h3, ← hxy, bs_of]⟩
    cases ok with
    | false =>
      go_wp2
      go_ret2
      refine ⟨_, _, rfl, by show (0 : Nat) ≤ _; omega, ?_, hb2⟩
      intro u hu hl hxy
      cases (HU.out u hu hl hxy).2.1
    | true =>
      by_cases hq : bs out = s
      · have hne := str_eq hq
        clear hq
        go_wp2
        go_ret2
        refine ⟨_, _, rfl, by rw [HSZ.out]; omega, ?_, hb2⟩
        intro u hu hl hxy
        exact ⟨(HU.out u hu hl hxy).1, rfl⟩
      · have hne := str_ne hq
        have HQ := Lib.hid hq
        clear hq
        go_wp2
        go_ret2
        refine ⟨_, _, rfl, by show (0 : Nat) ≤ _; omega, ?_, hb2⟩
        intro u hu hl hxy
        exact absurd (HU.out u hu hl hxy).2.2 HQ.out
/-- a block of the call's own that is known whole -/
def Bk (w : World) (g t : Nat) (cs : Array Value) : Prop := w.heap[g]? = some (.cells cs t (0, 0))
theorem Bk.new (w : World) (t : Nat) (cs : Array Value) : Bk (w.alloc (.cells cs t)) w.heap.size t cs := by
  show (w.heap.push _)[w.heap.size]? = _; simp
theorem Bk.below {w w' : World} {g t : Nat} {cs : Array Value} (h : Bk w g t cs) (hb : Below w.heap.size w w') : Bk w' g t cs :=
  (hb.block g (Array.getElem?_eq_some_iff.1 h).1).trans h
theorem Bk.alloc {w : World} {g t : Nat} {cs : Array Value} (h : Bk w g t cs) (o : Obj) : Bk (w.alloc o) g t cs := h.below (below_one o)
theorem Bk.lt {w : World} {g t : Nat} {cs : Array Value} (h : Bk w g t cs) : g < w.heap.size := (Array.getElem?_eq_some_iff.1 h).1
theorem Bk.cell {w : World} {g t : Nat} {cs : Array Value} (h : Bk w g t cs) (i : Nat) : w.cell? ⟨g, i, none⟩ = cs[i]? := by unfold Bk at h; simp [World.cell?, h]
theorem Bk.frozen {w : World} {g t : Nat} {cs : Array Value} (h : Bk w g t cs) (i : Nat) : w.frozen? ⟨g, i, none⟩ = false := by unfold Bk at h; simp [World.frozen?, h]
def DecOut (k : Nat) (line : ByteArray) (w : World) (e : Ending) (w' : World) : Prop :=
  ∃ c r ok, e = .returned (.tuple #[recV c r, .bool ok]) ∧ c.size ≤ line.size ∧ r.size ≤ line.size ∧
    Hid (ok = true → OkE (c.data.toList, r.data.toList) ∧ k < 60 ∧ line.data.toList = lnS k (c.data.toList, r.data.toList)) ∧
    Hid (ok = false → k < 60 → ∀ e, OkE e → line.data.toList ≠ lnS k e) ∧ Below w.heap.size w w'
/-- the last word of decodeRecord, plainly -/
theorem dec_true {k : Nat} {c r line : ByteArray} (h1 : (encR (k : Int) c r).2 = true) (h2 : bs (encR (k : Int) c r).1 = line) : OkE (c.data.toList, r.data.toList) ∧ k < 60 ∧ line.data.toList = lnS k (c.data.toList, r.data.toList) := by
  unfold encR at h1 h2
  split at h1
  · rename_i h
    rw [if_pos h] at h2
    refine ⟨recB_iff.1 h.2.2, by omega, ?_⟩
    rw [← h2, bs_list, lnS_def]
  · cases h1
theorem enc_of {k : Nat} {e : Bs × Bs} (h : OkE e) (hk : k < 60) : encR (k : Int) (bs e.1) (bs e.2) = (lnS k e, true) := by
  have hr : recB (bs e.1) (bs e.2) = true := recB_iff.2 (by rw [bs_list, bs_list]; exact h)
  unfold encR
  rw [if_pos ⟨by omega, by omega, hr⟩, bs_list, bs_list, lnS_def]
/-- how a line is taken apart -/
theorem dec_parts {k : Nat} {e : Bs × Bs} {line t a1 b1 c r : ByteArray} {ok1 : Bool} (he : OkE e) (hk : k < 60) (hl : line.data.toList = lnS k e)
    (HV : ∀ u : List UInt8, (35 : UInt8) ∉ u → u.length ≤ 3000 → (bs (Lib.trimSuffix line.data.toList [10])).data.toList = sealS u → t = bs u ∧ ok1 = true)
    (HC1 : ∀ x y : List UInt8, (32 : UInt8) ∉ x → t.data.toList = x ++ 32 :: y → a1 = bs x ∧ b1 = bs y)
    (HC2 : ∀ x y : List UInt8, (64 : UInt8) ∉ x → b1.data.toList = x ++ 64 :: y → c = bs x ∧ r = bs y) :
    ok1 = true ∧ (encR (k : Int) c r).2 = true ∧ bs (encR (k : Int) c r).1 = line := by
  have hb := bodyS_len he hk
  obtain ⟨rfl, h1⟩ := HV (bodyS k e) (bodyS_no he (.inl rfl)) (by omega) (by rw [bs_list, hl]; unfold lnS; exact trim_hit _)
  obtain ⟨_, rfl⟩ := HC1 (Lib.itoa (k : Int)) (e.1 ++ 64 :: e.2) itoa_no32 (by rw [bs_list]; rfl)
  obtain ⟨rfl, rfl⟩ := HC2 e.1 e.2 he.at_ (by rw [bs_list])
  rw [enc_of he hk]
  exact ⟨h1, rfl, by show bs (lnS k e) = line; rw [← hl, bs_of]⟩
theorem Trim_c (s : ByteArray) (w : World) (hs : s.size ≤ 1073741824) : Calls Tryd.prog 73 #[.string s, .string ⟨#[10]⟩] w fun e w' => e = .returned (.string (bs (Lib.trimSuffix s.data.toList [10]))) ∧ w = w' :=
  (Tryd.strings_TrimSuffix s ⟨#[10]⟩ w (by omega)).mono fun e w' h => ⟨h.1, h.2.symm⟩
set_option maxHeartbeats 2000000 in
theorem decodeRecord_c (k : Nat) (hk : k ≤ 60) (line : ByteArray) (w : World) (hs : line.size ≤ 1048576) (ht : Tab w) : Calls Tryd.prog 65 #[.int .i64 (k : Int), .string line] w (DecOut k line w) := by
  have hsz : (bs (Lib.trimSuffix line.data.toList [10])).size ≤ line.size := by rw [bs_size]; have := trim_len line.data.toList [10]; rw [ba_len] at this; exact this
  have HS := Lib.hid (Trim_c line)
  have HV := Lib.hid (VerifyChecksum_c (bs (Lib.trimSuffix line.data.toList [10])))
  have HP := Lib.hid (fun e t a1 b1 c r ok1 => @dec_parts k e line t a1 b1 c r ok1)
  generalize bs (Lib.trimSuffix line.data.toList [10]) = s1 at *
  have HT := Lib.hid ht
  clear ht
  go_enter Tryd.func65, Tryd.ntmps65
  go_wp2_with fail
  refine (HS.out _ (by omega)).mono ?_
  rintro e w2 ⟨rfl, rfl⟩
  have B0 := Lib.hid (Bk.new w 33 #[.string ⟨#[]⟩, .string ⟨#[]⟩])
  have hb0 := Lib.hid (below_one (w := w) (.cells #[.string ⟨#[]⟩, .string ⟨#[]⟩] 33))
  go_wp2_with fail
  refine (HV.out _ (by omega) (HT.out.on hb0.out)).mono ?_
  rintro e w2 ⟨t, ok1, rfl, ht, HV1, hb2⟩
  have B1 := Lib.hid (B0.out.below hb2)
  have hb1 := Lib.hid (Below.chain hb0.out hb2)
  clear B0 hb0 hb2
  go_wp2_with fail
  refine (Cut_c t 32 _ (by omega)).mono ?_
  rintro e w3 ⟨a1, b1, f1, rfl, ha1, hb1s, HC1, hb2⟩
  have B0 := Lib.hid (B1.out.below hb2)
  have hb0 := Lib.hid (Below.chain hb1.out hb2)
  clear B1 hb1 hb2
  go_wp2_with fail
  refine (Cut_c b1 64 _ (by omega)).mono ?_
  rintro e w4 ⟨c, r, f2, rfl, hcs, hrs, HC2, hb2⟩
  have HQ : Hid (∀ e : Bs × Bs, OkE e → k < 60 → line.data.toList = lnS k e → ok1 = true ∧ (encR (k : Int) c r).2 = true ∧ bs (encR (k : Int) c r).1 = line) :=
    fun e he hk2 hl => HP.out e t a1 b1 c r ok1 he hk2 hl HV1.out HC1.out HC2.out
  clear HV1 HC1 HC2 HP HV HS
  have B1 := Lib.hid (B0.out.below hb2)
  have hb1 := Lib.hid (Below.chain hb0.out hb2)
  clear B0 hb0 hb2
  have HD := Lib.hid (@dec_true k c r line)
  have HE := Lib.hid (fun w => EncodeRecord_c (k : Int) c r w (by omega) (by omega))
  unfold recV at HE
  have B0 := Lib.hid (B1.out.alloc (.cells #[.string c, .string r] 33))
  have C0 := Lib.hid (Bk.new w4 33 #[.string c, .string r])
  have hb0 := Lib.hid (Below.alc hb1.out (.cells #[.string c, .string r] 33))
  clear B1 hb1
  go_wp2_with fail
  refine (HE.out _ (HT.out.on hb0.out)).mono ?_
  rintro e w5 ⟨rfl, hb2⟩
  have B1 := B0.out.below hb2
  have C1 := C0.out.below hb2
  have q0 : w5.cell? ⟨w4.heap.size, 0, none⟩ = some (.string c) := C1.cell 0
  have q1 : w5.cell? ⟨w4.heap.size, 1, none⟩ = some (.string r) := C1.cell 1
  have z0 : w5.cell? ⟨w.heap.size, 0, none⟩ = some (.string ⟨#[]⟩) := B1.cell 0
  have z1 : w5.cell? ⟨w.heap.size, 1, none⟩ = some (.string ⟨#[]⟩) := B1.cell 1
  have f0 : w5.frozen? ⟨w.heap.size, 0, none⟩ = false := B1.frozen 0
  have f1 : w5.frozen? ⟨w.heap.size, 1, none⟩ = false := B1.frozen 1
  have hb1 := Lib.hid (Below.chain hb0.out hb2)
  clear B0 hb0 hb2 B1 C0 C1 HE
  have HDX := HD; have HQX := HQ
  generalize encR (k : Int) c r = R at *
  obtain ⟨X, fine⟩ := R
  clear HD HQ
  have fin : ∀ (ok : Bool) (w' : World), Hid (ok = true → ok1 = true ∧ fine = true ∧ bs X = line) → Hid (ok = false → ¬ (ok1 = true ∧ fine = true ∧ bs X = line)) → Below w.heap.size w w' →
      DecOut k line w (.returned (.tuple #[.agg #[.string c, .string r], .bool ok])) w' := fun ok w' h1 h2 h3 =>
    ⟨c, r, ok, rfl, by omega, by omega, fun h => HDX.out (h1.out h).2.1 (h1.out h).2.2, fun h hk2 e he hl => h2.out h (HQX.out e he hk2 hl), h3⟩
  have FIN := Lib.hid fin
  clear fin HDX HQX
  cases ok1 with
  | false =>
    go_wp2
    exact bodyPost_ret (v := .tuple #[.agg #[.string c, .string r], .bool false]) (by simp [results, Tryd.results65, go_sem, z0, z1]) rfl (FIN.out false _ (fun h => by cases h) (fun _ h => by cases h.1) (by have hb := hb1.out; exact (hb.setCell (p := ⟨w.heap.size, 0, none⟩) (Nat.le_refl _) _).setCell (p := ⟨w.heap.size, 1, none⟩) (Nat.le_refl _) _))
  | true =>
    cases fine with
    | false =>
      go_wp2
      exact bodyPost_ret (v := .tuple #[.agg #[.string c, .string r], .bool false]) (by simp [results, Tryd.results65, go_sem, z0, z1]) rfl (FIN.out false _ (fun h => by cases h) (fun _ h => by cases h.2.1) (by have hb := hb1.out; exact (hb.setCell (p := ⟨w.heap.size, 0, none⟩) (Nat.le_refl _) _).setCell (p := ⟨w.heap.size, 1, none⟩) (Nat.le_refl _) _))
    | true =>
      by_cases hq : bs X = line
      · have hqe := str_eq hq
        have HQ := Lib.hid hq
        clear hq
        go_wp2
        exact bodyPost_ret (v := .tuple #[.agg #[.string c, .string r], .bool true]) (by simp [results, Tryd.results65, go_sem, z0, z1]) rfl (FIN.out true _ (fun _ => by simp [HQ.out]) (fun h => by cases h) (by have hb := hb1.out; exact (hb.setCell (p := ⟨w.heap.size, 0, none⟩) (Nat.le_refl _) _).setCell (p := ⟨w.heap.size, 1, none⟩) (Nat.le_refl _) _))
      · have hqe := str_ne hq
        have HQ := Lib.hid hq
        clear hq
        go_wp2
        exact bodyPost_ret (v := .tuple #[.agg #[.string c, .string r], .bool false]) (by simp [results, Tryd.results65, go_sem, z0, z1]) rfl (FIN.out false _ (fun h => by cases h) (fun _ h => HQ.out h.2.2) (by have hb := hb1.out; exact (hb.setCell (p := ⟨w.heap.size, 0, none⟩) (Nat.le_refl _) _).setCell (p := ⟨w.heap.size, 1, none⟩) (Nat.le_refl _) _))
end Go.Proofs.YtlipkplomndjcaaDoor
