import Derived.Test.YtohgjfdbnkjefaaGreatDoorKc3
import Derived.Test.YtohgjfdbnkjefaaGreatDoorSfc
import Derived.Test.YtohgjfdbnkjefaaGreatDoorRows
import Derived.ProofKit
import Derived.LaidMore
import Derived.OpenShut
import Derived.Stop.Joined
import Derived.MakeChecks
import Derived.Stop.LaidErr
import Derived.Shelf.Vars
import Derived.Lay
import Derived.Deep.RegionHeld3
open Go.Lib (hid)
namespace Go.Proofs.YtohgjfdbnkjefaaGreatDoor
open Go.RowKit
set_option linter.unusedVariables false
set_option linter.unusedSimpArgs false
set_option maxRecDepth 100000
theorem dec_size {u : Nat} (h : u ≤ 999999) : (bs (Lib.decDigits u)).size ≤ 6 := by rw [bs_size]; exact dec_len 5 u (by omega)
theorem itoa_neg {u : Nat} (h : 0 < u) : Lib.itoa (-(u : Int)) = 45 :: Lib.decDigits u := by
 unfold Lib.itoa
 rw [if_pos (by omega), Int.natAbs_neg, Int.natAbs_natCast]
theorem cons_bs (c : UInt8) (l : Bs) : (⟨#[c]⟩ : ByteArray) ++ bs l = bs (c :: l) := ByteArray.ext (by simp [bs])
set_option maxHeartbeats 1000000 in
theorem l1NumN_c : ∀ (u : Nat) (v : Int) (w : World), v = -(u : Int) → 0 < u → u ≤ 999999 → Calls Tryz.prog 134 #[.int .i64 v] w fun e w' => e = .returned (.string (bs (45 :: Lib.decDigits u))) ∧ Below w.heap.size w w' := by
 intro u
 induction u using Nat.strongRecOn with
 | ind u ih =>
  intro v w hv h0 h1
  have t0 : v < 0 := by omega
  by_cases h10 : u < 10
  · have t1 : -10 < v := by omega
    have hw : IntKind.i64.wrap (-v) = (u : Int) := by rw [IntWalk.i64_in _ (by omega)]; omega
    have hs := dec_size h1
    have HN := hid (fun W => l1Num_c u W (by omega))
    have HC := hid (cons_bs 45 (Lib.decDigits u))
    clear ih hv
    generalize bs (Lib.decDigits u) = X at *
    have hs1 : ¬ 9223372036854775807 < 1 + X.size := by omega
    go_enter Tryz.func134, Tryz.ntmps134
    go_wp2_with fail
    refine (HN.out _).mono ?_
    rintro e w1 ⟨rfl, hb⟩
    go_wp2
    go_ret
    exact ⟨by rw [← HC.out]; rfl, hb⟩
  · have t1 : ¬ -10 < v := by omega
    have hq : v.tdiv 10 = -((u / 10 : Nat) : Int) := by rw [hv, Int.neg_tdiv, Int.tdiv_eq_ediv_of_nonneg (by omega)]; simp
    have hr : v.tmod 10 = -((u % 10 : Nat) : Int) := by rw [hv, Int.neg_tmod, Int.tmod_eq_emod_of_nonneg (by omega)]; simp
    have IH := hid (fun W => ih (u / 10) (by omega) (v.tdiv 10) W hq (by omega) (by omega))
    have hm : u % 10 < 10 := Nat.mod_lt _ (by decide)
    have HM := hid (fun W => l1Num_c (u % 10) W (by omega))
    have HD := hid (show bs (45 :: Lib.decDigits (u / 10)) ++ bs (Lib.decDigits (u % 10)) = bs (45 :: Lib.decDigits u) by
     rw [bs_append, decDigits_big h10, Lib.decDigits_one hm]; rfl)
    have hw1 : IntKind.i64.wrap (v.tdiv 10) = v.tdiv 10 := IntWalk.i64_in _ (by omega)
    have hw2 : IntKind.i64.wrap (-(v.tmod 10)) = ((u % 10 : Nat) : Int) := by rw [IntWalk.i64_in _ (by omega)]; omega
    have hs1 : (bs (45 :: Lib.decDigits (u / 10))).size ≤ 7 := by
     rw [bs_size]; have := dec_len 5 (u / 10) (by omega); simp; omega
    have hs2 := dec_size (u := u % 10) (by omega)
    clear ih hq hr hv
    generalize bs (45 :: Lib.decDigits (u / 10)) = X at *
    generalize u % 10 = m at *
    generalize bs (Lib.decDigits m) = Y at *
    have hs3 : ¬ 9223372036854775807 < X.size + Y.size := by omega
    go_enter Tryz.func134, Tryz.ntmps134
    go_wp2_with fail
    refine (IH.out _).mono ?_
    rintro e w1 ⟨rfl, hb⟩
    have HB := hid hb
    clear hb
    go_wp2_with fail
    refine (HM.out _).mono ?_
    rintro e w2 ⟨rfl, hb⟩
    have HB2 := hid (Below.chain HB.out hb)
    clear hb
    go_wp2
    go_ret
    exact ⟨by rw [HD.out]; rfl, HB2.out⟩
theorem l1NumI_c (v : Int) (w : World) (h0 : -999999 ≤ v) (h1 : v ≤ 999999) : Calls Tryz.prog 134 #[.int .i64 v] w fun e w' => e = .returned (.string (bs (Lib.itoa v))) ∧ Below w.heap.size w w' := by
 by_cases hn : v < 0
 · obtain ⟨u, hu⟩ : ∃ u : Nat, v = -(u : Int) := ⟨v.natAbs, by omega⟩
   refine (l1NumN_c u v w hu (by omega) (by omega)).mono fun e w' h => ?_
   rw [hu, itoa_neg (by omega)]; exact h
 · obtain ⟨u, rfl⟩ := Int.eq_ofNat_of_zero_le (by omega : 0 ≤ v)
   refine (l1Num_c u w (by omega)).mono fun e w' h => ?_
   show e = .returned (.string (bs (Lib.itoa (u : Int)))) ∧ _
   rw [itoa_nat]; exact h
theorem ItoaI_c (n : Int) (h0 : -999999 ≤ n) (h1 : n ≤ 999999) (w : World) (ht : Tab w) : Calls Tryz.prog 116 #[.int .i64 n] w fun e w' => e = .returned (.string (bs (Lib.itoa n))) ∧ Below w.heap.size w w' :=
 (Tryz.strconv_Itoa n (by omega) (by omega) w ht).mono fun e w' ⟨he, k, os, hw⟩ => ⟨he, hw ▸ below_growN w k os⟩
def cnt (c : Int) : Int := ((List.range 7).map fun (i : Nat) => ((c.toNat / 2 ^ i % 2 : Nat) : Int)).sum
def on1 (x : Int) : Int := IntKind.u64.wrap (bits .and .u64 (x / 2) 6148914691236517205 + bits .and .u64 x 6148914691236517205)
def on2 (x : Int) : Int := IntKind.u64.wrap (bits .and .u64 (x / 4) 3689348814741910323 + bits .and .u64 x 3689348814741910323)
def on3 (x : Int) : Int := bits .and .u64 (IntKind.u64.wrap (x / 16 + x)) 1085102592571150095
def on4 (x : Int) : Int := IntKind.u64.wrap (x + x / 256)
def on5 (x : Int) : Int := IntKind.u64.wrap (x + x / 65536)
def on6 (x : Int) : Int := IntKind.u64.wrap (x + x / 4294967296)
def onesF (x : Int) : Int := on6 (on5 (on4 (on3 (on2 (on1 x)))))
theorem onesF_all : ∀ c : Fin 128, onesF (c.1 : Int) = cnt (c.1 : Int) ∧ 0 ≤ cnt (c.1 : Int) ∧ cnt (c.1 : Int) ≤ 7 ∧ bits .and .i64 (wrap64 (cnt (c.1 : Int))) 127 = cnt (c.1 : Int) := by decide +kernel
theorem Ones64_c (c : Nat) (hc : c < 128) (w : World) : Calls Tryz.prog 161 #[.int .u64 c] w fun e w' => e = .returned (.int .i64 (cnt c)) ∧ w = w' := by
 have h0 : (0 : Int) ≤ c := by omega
 have h1 : (c : Int) ≤ 127 := by omega
 have H := hid (onesF_all ⟨c, hc⟩)
 go_enter Tryz.func161, Tryz.ntmps161
 go_wp2
 go_ret
 refine ⟨?_, rfl⟩
 refine int_ret ?_
 show bits .and .i64 (wrap64 (onesF (c : Int))) 127 = cnt (c : Int)
 rw [H.out.1]; exact H.out.2.2.2
theorem Ones_c (c : Nat) (hc : c < 128) (w : World) : Calls Tryz.prog 114 #[.int .u64 c] w fun e w' => e = .returned (.int .i64 (cnt c)) ∧ w = w' := by
 have h0 : (0 : Int) ≤ c := by omega
 have h1 : (c : Int) ≤ 127 := by omega
 go_enter Tryz.func114, Tryz.ntmps114
 go_wp2_with fail
 refine (Ones64_c c hc _).mono ?_
 rintro e w' ⟨rfl, rfl⟩
 go_wp2
 go_ret
 exact ⟨rfl, rfl⟩
theorem count_c (c : Int) (h0 : 0 ≤ c) (h1 : c ≤ 127) (w : World) : Calls Tryz.prog 61 #[.int .i64 c] w fun e w' => e = .returned (.int .i64 (cnt c)) ∧ w = w' := by
 obtain ⟨n, rfl⟩ := Int.eq_ofNat_of_zero_le h0
 go_enter Tryz.func61, Tryz.ntmps61
 go_wp2_with fail
 refine (Ones_c n (by omega) _).mono ?_
 rintro e w' ⟨rfl, rfl⟩
 go_wp2
 go_ret
 exact ⟨rfl, rfl⟩
def cntTo (c : Int) (k : Nat) : Int := ((List.range k).map fun (i : Nat) => ((c.toNat / 2 ^ i % 2 : Nat) : Int)).sum
theorem cntTo_fin : ∀ (c : Fin 128) (k : Fin 7), cntTo (c.1 : Int) (k.1 + 1) = cntTo (c.1 : Int) k.1 + ((c.1 / 2 ^ k.1 % 2 : Nat) : Int) ∧ 0 ≤ cntTo (c.1 : Int) k.1 ∧ cntTo (c.1 : Int) k.1 ≤ 7 := by decide +kernel
theorem bit_at (n k : Nat) (hn : n < 128) : bits .and .i64 ((n : Int) / 2 ^ k) 1 = ((n / 2 ^ k % 2 : Nat) : Int) := by
 have e : ((n : Int) / 2 ^ k) = ((n / 2 ^ k : Nat) : Int) := by simp
 have hle : n / 2 ^ k ≤ n := Nat.div_le_self _ _
 rw [e, show (1 : Int) = ((1 : Nat) : Int) from rfl, i64_and_nat _ 1 (by omega) (by omega), Nat.and_one_is_mod]
theorem l2Count_c (c : Int) (h0 : 0 ≤ c) (h1 : c ≤ 127) (w : World) : Calls Tryz.prog 221 #[.int .i64 c] w fun e w' => e = .returned (.int .i64 (cnt c)) ∧ w = w' := by
 obtain ⟨n, rfl⟩ := Int.eq_ofNat_of_zero_le h0
 go_enter Tryz.func221, Tryz.ntmps221
 go_wp2
 go_loopw [3, 4] (fun m j wr => ∃ k : Nat, k ≤ 7 ∧ j = .int .i64 (k : Int) ∧ m = .int .i64 (cntTo (n : Int) k) ∧ w = wr) (fun _ j _ => 8 - (intOf j).toNat)
 case atStart => exact ⟨0, by omega, rfl, rfl, by trivial⟩
 case round =>
  obtain ⟨k, hk, rfl, rfl, rfl⟩ := hrel
  by_cases hlt : k < 7
  · have hd : decide ((k : Int) < 7) = true := by simp; omega
    have hf := cntTo_fin ⟨n, by omega⟩ ⟨k, hlt⟩
    simp only at hf
    obtain ⟨hS, hb0, hb1⟩ := hf
    have HS := hid hS; clear hS
    generalize cntTo (n : Int) k = m at *
    go_wp2
    exact ⟨⟨k + 1, by omega, by go_num, by
     rw [HS.out, bit_at n k (by omega)]
     exact int_val (by have : n / 2 ^ k % 2 < 2 := Nat.mod_lt _ (by omega); simp only [wrap64]; omega), trivial⟩, by simp [intOf]; omega⟩
  · obtain rfl : k = 7 := by omega
    go_wp2
    go_ret
    exact ⟨rfl, rfl⟩
theorem info_strx : (Tryz.prog.info? 9).map (fun i => (i.zero, i.size, i.bytes)) = some (some (.string ⟨#[]⟩), 1, 16) := by kernel_rfl
def strsV (l : List Bs) : List Value := l.map strV
theorem strsV_snoc (l : List Bs) (x : Bs) : strsV (l ++ [x]) = strsV l ++ [.string (bs x)] := by unfold strsV; rw [List.map_append]; rfl
theorem join_len (l : List Bs) (h : ∀ x ∈ l, x.length ≤ 1000) : (joinS l).length ≤ 1001 * l.length := by
 unfold joinS
 induction l with
 | nil => simp [join_nil]
 | cons x t ih =>
  have hx := h x (by simp)
  have ht := ih (fun y hy => h y (by simp [hy]))
  cases t with
  | nil => rw [join_one']; simp; omega
  | cons y u =>
   rw [join_cons2, List.length_append, List.length_append]
   simp only [List.length_cons, List.length_nil] at ht ⊢
   omega
theorem strsV_at {l : List Bs} {j : Nat} {x : ByteArray} (h : (l.map bs)[j]? = some x) : (strsV l)[j]? = some (.string x) := by
 unfold strsV
 rw [List.getElem?_map] at h ⊢
 obtain ⟨y, hy, rfl⟩ := Option.map_eq_some_iff.1 h
 rw [hy]; rfl
theorem Join_c (v : Value) (l : List Bs) (w : World) (hv : Sl w 1 v l.length (strsV l)) (hl : l.length ≤ 100000) (hx : ∀ x ∈ l, x.length ≤ 1000) :
 Calls Tryz.prog 66 #[v, .string ⟨#[32]⟩] w fun e w' => e = .returned (.string (bs (joinS l))) ∧ Below w.heap.size w w' := by
 obtain ⟨a, c, rfl, h1, h2, h3, h4⟩ := hv
 have hmap : ((l.map bs).map fun (b : ByteArray) => b.data.toList) = l := by
  rw [List.map_map]
  conv => rhs; rw [← List.map_id l]
  exact List.map_congr_left fun x _ => bs_list x
 have hjl := join_len l hx
 cases l with
 | nil =>
  refine (Tryz.strings_Join_none a c ⟨#[32]⟩ w).mono fun e w' ⟨he, hw⟩ => ⟨?_, hw ▸ Below.refl _ _⟩
  rw [he]; rfl
 | cons x t =>
  obtain ⟨b, off, rfl, hc⟩ := h4 (by simp)
  have hcell : ∀ (j : Nat) y, ((x :: t).map bs)[j]? = some y → w.cell? ⟨b, off + j, none⟩ = some (.string y) := fun j y hy => by
   have hj : j < (x :: t).length := by have := (List.getElem?_eq_some_iff.1 hy).1; simpa using this
   rw [hc j (by omega)]; exact strsV_at hy
  have hbk : b < w.heap.size := World.block_lt_of_cell? w _ (hcell 0 (bs x) rfl)
  have h := Tryz.strings_Join b off c ((x :: t).map bs) ⟨#[32]⟩ w hcell hbk (by rw [List.length_map]; omega) (by rw [List.length_map]; exact h1) (by
   rw [hmap]
   exact Nat.le_trans hjl (by omega))
  rw [List.length_map, hmap] at h
  exact h
theorem bars_piece : ∀ i : Fin 7, ((⟨#[97, 98, 99, 100, 101, 102, 103]⟩ : ByteArray).extract i.1 (i.1 + 1)) = bs [UInt8.ofNat (97 + i.1)] := by decide +kernel
theorem barsOf_c (c : Int) (h0 : 0 ≤ c) (h1 : c ≤ 127) (w : World) : Calls Tryz.prog 111 #[.int .i64 c] w fun e w' => e = .returned (.string (bs (barsTo c 7))) ∧ w = w' := by
 obtain ⟨n, rfl⟩ := Int.eq_ofNat_of_zero_le h0
 go_enter Tryz.func111, Tryz.ntmps111
 go_wp2
 go_loopw [3, 4, 5] (fun s _ j wr => ∃ k : Nat, k ≤ 7 ∧ j = .int .i64 (k : Int) ∧ s = .string (bs (barsTo (n : Int) k)) ∧ w = wr) (fun _ _ j _ => 8 - (intOf j).toNat)
 case atStart => exact ⟨0, by omega, rfl, rfl, by trivial⟩
 case round =>
  obtain ⟨k, hk, rfl, rfl, rfl⟩ := hrel
  by_cases hlt : k < 7
  · have hd : decide ((k : Int) < 7) = true := by simp; omega
    have hbit := bit_at n k (by omega)
    have hS := barsTo_succ (n : Int) k
    have hsz : (bs (barsTo (n : Int) k)).size ≤ 7 := by rw [bs_size]; exact Nat.le_trans (barsTo_len _ _) hk
    have HP := hid (bars_piece ⟨k, hlt⟩)
    have hp1 : ((⟨#[97, 98, 99, 100, 101, 102, 103]⟩ : ByteArray).extract k (k + 1)).size = 1 := by rw [HP.out]; rfl
    by_cases hb : n / 2 ^ k % 2 = 1
    · have hS2 : bs (barsTo (n : Int) k) ++ bs [UInt8.ofNat (97 + k)] = bs (barsTo (n : Int) (k + 1)) := by
       rw [bs_append, hS, Int.toNat_natCast, if_pos hb]
      have HS := hid hS2
      rw [hb] at hbit
      clear hS hS2 hb
      generalize bs (barsTo (n : Int) k) = X at *
      have hs1 : ¬ 9223372036854775807 < X.size + (min (k + 1) 7 - k) := by omega
      go_wp2
      go_roundw
      case rel => exact ⟨k + 1, by omega, by go_num, by rw [← HS.out, ← HP.out], by trivial⟩
      case measure => simp [intOf]; omega
    · have hb0 : n / 2 ^ k % 2 = 0 := by omega
      have HS := hid (show barsTo (n : Int) (k + 1) = barsTo (n : Int) k by rw [hS, Int.toNat_natCast, if_neg hb, List.append_nil])
      rw [hb0] at hbit
      clear hS hb hb0 hp1 HP
      go_wp2
      go_roundw
      case rel => exact ⟨k + 1, by omega, by go_num, by rw [HS.out], by trivial⟩
      case measure => simp [intOf]; omega
  · obtain rfl : k = 7 := by omega
    go_wp2
    go_ret
    exact ⟨rfl, rfl⟩
structure TabC (w : World) : Prop where
 pow : Tab w
 len : ∃ m, w.cell? ⟨0, 0, none⟩ = some (.int .i64 m)
 syn : ∃ ev, w.cell? ⟨1, 0, none⟩ = some ev ∧ (ev = .nilIface ∨ ∃ te pe, ev = .iface te pe)
 rng : ∃ ev, w.cell? ⟨2, 0, none⟩ = some ev ∧ (ev = .nilIface ∨ ∃ te pe, ev = .iface te pe)
theorem TabC.on {w w' : World} (h : TabC w) (hb : Below w.heap.size w w') : TabC w' := by
 obtain ⟨m, hm⟩ := h.len
 obtain ⟨s, hs, hs2⟩ := h.syn
 obtain ⟨r, hr, hr2⟩ := h.rng
 exact ⟨h.pow.on hb, ⟨m, cell_later hb hm⟩, ⟨s, cell_later hb hs, hs2⟩, ⟨r, cell_later hb hr, hr2⟩⟩
def rdV (s : Bs) : Value := .tuple #[.int .i64 ((rdO s).getD 0), .bool (rdO s).isSome]
theorem rdV_no {s : Bs} (h : rdO s = none) : rdV s = .tuple #[.int .i64 0, .bool false] := by unfold rdV; rw [h]; rfl
theorem rdV_yes {s : Bs} {v : Int} (h : rdO s = some v) : rdV s = .tuple #[.int .i64 v, .bool true] := by unfold rdV; rw [h]; rfl
theorem Split_c (s : ByteArray) (c : UInt8) (w : World) (hs : s.size ≤ 1048576) (ht : TabC w) : Calls Tryz.prog 77 #[.string s, .string ⟨#[c]⟩] w (SplOut c s.data.toList w) := by
 obtain ⟨m, hm⟩ := ht.len
 refine (Tryz.strings_Split s ⟨#[c]⟩ m w (by omega) hm (Nat.le_refl 1)).mono fun e w' ⟨he, hw⟩ => ?_
 have hd := Lib.splitB_data ⟨#[c]⟩ 0 (Lib.countB s ⟨#[c]⟩) s
 have hk := lib_split c _ s.data.toList (Nat.le_refl _)
 have hl := Lib.splitB_all ⟨#[c]⟩ (Nat.le_refl 1) 0 (Lib.countB s ⟨#[c]⟩) s rfl
 have hcount : Lib.countB s ⟨#[c]⟩ = Lib.count s.data.toList [c] := rfl
 rw [hcount] at hd hl he hw
 have hd2 : (Lib.splitB ⟨#[c]⟩ 0 (Lib.count s.data.toList [c]) s).map (·.data.toList) = splitS c s.data.toList := hd.trans hk
 generalize hp : Lib.splitB ⟨#[c]⟩ 0 (Lib.count s.data.toList [c]) s = ps at *
 have hval : (splitS c s.data.toList).map strV = ps.map Value.string := by
  rw [← hd2, List.map_map]
  exact List.map_congr_left fun x _ => by show Value.string (bs x.data.toList) = _; rw [bs_of]
 have hlen : (splitS c s.data.toList).length = ps.length := by rw [← hd2, List.length_map]
 subst hw
 refine ⟨_, he, ?_, below_one _⟩
 rw [hlen, hval, ← hl]
 exact ownsRow_cast (World.ownsRow_lit w (ps.map Value.string).toArray ps.length (Nat.le_refl _) (by
  have h1 := Lib.countB_le ⟨#[c]⟩ (Nat.le_refl 1) s.size s (Nat.le_refl _)
  rw [hcount] at h1
  unfold maxLen; omega) (by simp)) rfl (by simp)
set_option maxHeartbeats 1000000 in
theorem ParseInt_c (s : ByteArray) (w : World) (hs : s.size ≤ 1048576) (ht : TabC w) : Calls Tryz.prog 100 #[.string s] w fun e w' => e = .returned (rdV s.data.toList) ∧ Below w.heap.size w w' := by
 have HT := hid ht
 cases h : Lib.atoiAll s.data.toList with
 | ok v =>
  have HA : Hid (Calls Tryz.prog 145 #[.string s] w fun e w' => e = .returned (.tuple #[.int .i64 v, .nilIface]) ∧ Below w.heap.size w w') := (Tryz.strconv_Atoi_ok s (by omega) v h w).mono fun e w' ⟨he, hw⟩ => ⟨he, by
   rcases hw with rfl | ⟨t, rfl⟩
   · exact Below.refl _ _
   · exact Go.Joins.below_bytesWorld w.heap.size w 5 t (Nat.le_refl _)⟩
  obtain ⟨b0, b1⟩ := Lib.atoiAll_bounds h
  have hR : rdO s.data.toList = if -999999 ≤ v ∧ v ≤ 999999 ∧ Lib.itoa v = s.data.toList then some v else none := by unfold rdO; rw [h]
  have HR := hid hR
  clear h hR ht
  by_cases hin : -999999 ≤ v ∧ v ≤ 999999
  · have hb : inB v (-999999) 999999 = true := inB_mk hin.1 hin.2
    have HI := hid (fun W h => ItoaI_c v hin.1 hin.2 W h)
    by_cases he : Lib.itoa v = s.data.toList
    · have HV := hid (rdV_yes (s := s.data.toList) (v := v) (by rw [HR.out, if_pos ⟨hin.1, hin.2, he⟩]))
      have hst := str_eq (show bs (Lib.itoa v) = s by rw [he, bs_of])
      generalize bs (Lib.itoa v) = X at *
      go_enter Tryz.func100, Tryz.ntmps100
      go_wp2_with fail
      refine HA.out.mono ?_
      rintro e w1 ⟨rfl, hb1⟩
      have HB := hid hb1
      clear hb1
      go_wp2_with fail
      refine (within_c _ _ _ _).mono ?_
      rintro e w2 ⟨rfl, rfl⟩
      rw [hb]
      go_wp2_with fail
      refine (HI.out _ (HT.out.on HB.out).pow).mono ?_
      rintro e w3 ⟨rfl, hb3⟩
      have HB3 := hid (Below.chain HB.out hb3)
      clear hb3
      go_wp2
      exact bodyPost_ret (v := .tuple #[.int .i64 v, .bool true]) (by simp [results, Tryz.results100, go_sem]) rfl ⟨by rw [HV.out], HB3.out⟩
    · have HV := hid (rdV_no (s := s.data.toList) (by rw [HR.out, if_neg (fun h => he h.2.2)]))
      have hst := str_ne (show bs (Lib.itoa v) ≠ s from fun e => he ((bs_list _).symm.trans (congrArg (fun x : ByteArray => x.data.toList) e)))
      clear he
      generalize bs (Lib.itoa v) = X at *
      go_enter Tryz.func100, Tryz.ntmps100
      go_wp2_with fail
      refine HA.out.mono ?_
      rintro e w1 ⟨rfl, hb1⟩
      have HB := hid hb1
      clear hb1
      go_wp2_with fail
      refine (within_c _ _ _ _).mono ?_
      rintro e w2 ⟨rfl, rfl⟩
      rw [hb]
      go_wp2_with fail
      refine (HI.out _ (HT.out.on HB.out).pow).mono ?_
      rintro e w3 ⟨rfl, hb3⟩
      have HB3 := hid (Below.chain HB.out hb3)
      clear hb3
      go_wp2
      exact bodyPost_ret (v := .tuple #[.int .i64 0, .bool false]) (by simp [results, Tryz.results100, go_sem]) rfl ⟨by rw [HV.out], HB3.out⟩
  · have hb : inB v (-999999) 999999 = false := by
     cases hq : inB v (-999999) 999999 with
     | false => rfl
     | true => exact absurd (inB_true hq) hin
    have HV := hid (rdV_no (s := s.data.toList) (by rw [HR.out, if_neg (fun h => hin ⟨h.1, h.2.1⟩)]))
    clear hin
    go_enter Tryz.func100, Tryz.ntmps100
    go_wp2_with fail
    refine HA.out.mono ?_
    rintro e w1 ⟨rfl, hb1⟩
    have HB := hid hb1
    clear hb1
    go_wp2_with fail
    refine (within_c _ _ _ _).mono ?_
    rintro e w2 ⟨rfl, rfl⟩
    rw [hb]
    go_wp2
    exact bodyPost_ret (v := .tuple #[.int .i64 0, .bool false]) (by simp [results, Tryz.results100, go_sem]) rfl ⟨by rw [HV.out], HB.out⟩
 | range =>
  obtain ⟨ev, hev, hev2⟩ := ht.rng
  have HA : Hid (Calls Tryz.prog 145 #[.string s] w fun e w' => ∃ (k : Int) (t : TypeId) (p : Value), e = .returned (.tuple #[.int .i64 k, .iface t p]) ∧ Below w.heap.size w w') := (Tryz.strconv_Atoi_range s (by omega) h ev w hev hev2).mono fun e w' ⟨N, he, _, _, hb⟩ => ⟨_, _, _, he, hb⟩
  have HV := hid (rdV_no (s := s.data.toList) (by unfold rdO; rw [h]))
  clear h ht hev hev2
  go_enter Tryz.func100, Tryz.ntmps100
  go_wp2_with fail
  refine HA.out.mono ?_
  rintro e w1 ⟨k, t, p, rfl, hb1⟩
  have HB := hid hb1
  clear hb1
  go_wp2
  exact bodyPost_ret (v := .tuple #[.int .i64 0, .bool false]) (by simp [results, Tryz.results100, go_sem]) rfl ⟨by rw [HV.out], HB.out⟩
 | _ =>
  obtain ⟨ev, hev, hev2⟩ := ht.syn
  have HA : Hid (Calls Tryz.prog 145 #[.string s] w fun e w' => ∃ (k : Int) (t : TypeId) (p : Value), e = .returned (.tuple #[.int .i64 k, .iface t p]) ∧ Below w.heap.size w w') := (Any.strconv_Atoi_syntax Tryz.laysC172 s (by omega) h ev w hev hev2).mono fun e w' ⟨N, he, _, _, hb⟩ => ⟨_, _, _, he, hb⟩
  have HV := hid (rdV_no (s := s.data.toList) (by unfold rdO; rw [h]))
  clear h ht hev hev2
  go_enter Tryz.func100, Tryz.ntmps100
  go_wp2_with fail
  refine HA.out.mono ?_
  rintro e w1 ⟨k, t, p, rfl, hb1⟩
  have HB := hid hb1
  clear hb1
  go_wp2
  exact bodyPost_ret (v := .tuple #[.int .i64 0, .bool false]) (by simp [results, Tryz.results100, go_sem]) rfl ⟨by rw [HV.out], HB.out⟩
end Go.Proofs.YtohgjfdbnkjefaaGreatDoor
namespace Go.Proofs.YtohgjfdbnkjefaaGreatDoor
open Go.ChangeShapes Go.WideShapes Go.ChangeAt Go.RowKit
set_option maxRecDepth 100000
set_option linter.unusedVariables false
abbrev laidL : List (String × DataW Unit) := [("math/bits.deBruijn32tab", Rows.laid_math_bits_deBruijn32tab), ("math/bits.deBruijn64tab", Rows.laid_math_bits_deBruijn64tab), ("internal/strconv.uint64pow10", Rows.laid_internal_strconv_uint64pow10), ("unicode/utf8.acceptRanges", Rows.laid_unicode_utf8_acceptRanges), ("strconv.ErrRange", Rows.laid_strconv_ErrRange), ("strconv.ErrSyntax", Rows.laid_strconv_ErrSyntax), ("unicode/utf8.first", Rows.laid_unicode_utf8_first)]
theorem start_met (os : Os) (args : Array Value) : laidMetH Tryz.prog laidL ((World.laidAll Tryz.prog os laidL).forCall (fun _ _ => 0) ⟨#[], args, []⟩).memory := by
 rw [MakeChecks.laidMetH_plain _ _ _ (by kernel_rfl)]; exact laidMet_laidAll _ (by kernel_rfl) (by kernel_rfl)
theorem start_shaped (os : Os) : (World.laidAll Tryz.prog os laidL).Shaped Tryz.prog := World.shaped_of_ZipB (by kernel_rfl) (by kernel_rfl)
theorem pow_data : (Rows.laid_internal_strconv_uint64pow10 : DataW Unit) = Lib.tabData .u64 Lib.pow10Tab := by kernel_rfl
theorem star_err : "*" ++ "errors.errorString" = "*errors.errorString" := by decide
theorem row_err (u : TypeId) (h : Tryz.prog.typeName? 3 u = some "*errors.errorString") : u = 273 :=
 typeName_ptr_named (nm := "errors.errorString") (by rw [star_err]; kernel_rfl) (by kernel_rfl) (by decide) u (by rw [star_err]; exact h)
theorem tabC_of {W : World} (h : laidMetH Tryz.prog laidL W) (hsh : W.ShapedOpen Tryz.prog) : TabC W := by
 rw [MakeChecks.laidMetH_plain _ _ _ (by kernel_rfl)] at h
 have h2 := laidMet.tail (laidMet.tail h)
 have h4 := laidMet.tail (laidMet.tail h2)
 have h5 := laidMet.tail h4
 rw [pow_data] at h2
 have hp : Tab W := Lib.tabIs_of_head (g := 3) (t := 264) (e := 81) (n := 20) (by kernel_rfl) (by kernel_rfl) (by kernel_rfl) (by kernel_rfl) (by kernel_rfl) (by kernel_rfl) h2
 obtain ⟨m, hm⟩ := cell_of_shapedOpen_int (P := Tryz.prog) (g := 0) (t := 3) (zero := #[.int .i64 0]) hsh (of_decide_eq_true (by kernel_rfl)) (by kernel_rfl) rfl (by kernel_rfl) (by kernel_rfl) Tryz.underlying3
 obtain ⟨a1, s1, hv1, _, _, _⟩ := laid_sentinel (g := 2) h4 (by kernel_rfl) (by kernel_rfl) Tryz.underlying152 row_err Tryz.underlying273 Tryz.underlying275 rfl rfl Tryz.underlying9 (by kernel_rfl) (by kernel_rfl)
 obtain ⟨a2, s2, hv2, _, _, _⟩ := laid_sentinel (g := 1) h5 (by kernel_rfl) (by kernel_rfl) Tryz.underlying152 row_err Tryz.underlying273 Tryz.underlying275 rfl rfl Tryz.underlying9 (by kernel_rfl) (by kernel_rfl)
 exact ⟨hp, ⟨m, hm⟩, ⟨_, World.var?_cell (g := 1) (by kernel_rfl) hv2 0, .inr ⟨_, _, rfl⟩⟩, ⟨_, World.var?_cell (g := 2) (by kernel_rfl) hv1 0, .inr ⟨_, _, rfl⟩⟩⟩
section
variable {H : Type} {enc : TypeId × Value → H}
theorem handed_both {a : Assume} {C : Checked} {os : Os} {f : FuncId} {fn : Func} {s : ChangeSpec} {conds : List PathCond} {apart fresh handsOn again : Bool} {X : World → Array Value → Prop}
 (hX : ∀ (w w' : World) (args : Array Value), w.heap = w'.heap → X w args → X w' args)
 (own : ownKnob C.prog.godebug = none) (started : os.Started) (noInit : C.prog.inits.idxOf? f = none) (hfn : C.prog.funcs[f]? = some fn)
 (witness : ∃ (w : World) (tape : Tape) (i : Input), w.os = os ∧ (w.forCall tape i).Shaped C.prog ∧ i.vars = [] ∧ Input.okWide C.prog (w.forCall tape i) .any w.heap.size f i ∧
  ((s.pre enc C.prog fn conds apart (w.forCall tape i).memory i.args ∧ X (w.forCall tape i).memory i.args) ∧ sizedMet enc C.prog fn (OpenSpec.ofChange s) apart (w.forCall tape i).memory i.args) ∧ a.holds C.prog (lone (Frame.enter C.prog f i.args .normal) [] (w.forCall tape i)))
 (contract : ∀ (W : World) (base : Nat) (args : Array Value) (ds gs : List (DataW H)) (before : List MemPlace),
  (∀ (j : Nat) t v, fn.params[j]? = some t → args[j]? = some v → Value.okWide C.prog W .any base t v) →
  DataW.Whole enc C.prog fn.params.toList s.vars apart W args.toList ds gs before →
  conds.all (PathCond.test C.prog ⟨fn.params.toList, ds, s.plain.varTypes C.prog, gs⟩) = true →
  X W args → W.ShapedOpen C.prog →
  Calls C.prog f args W fun e W' => ∃ v, e = .returned v ∧ s.post enc C.prog fn apart fresh handsOn again W args v W') :
 ReturnsInHanded a C os f .any (fun w args => (s.pre enc C.prog fn conds apart w args ∧ X w args) ∧ sizedMet enc C.prog fn (OpenSpec.ofChange s) apart w args) (s.post enc C.prog fn apart fresh handsOn again) := by
 refine returnsInHanded_of_calls own started noInit witness ?_
 rintro w tape i _ hshape _ ⟨_, _, _, fn', hfn', _, _, _, _, hval⟩ ⟨⟨⟨ds, gs, before, hw, hc⟩, hx⟩, _⟩ _
 obtain rfl : fn' = fn := Option.some.inj (hfn'.symm.trans hfn)
 refine (contract (w.forCall tape i) w.heap.size i.args ds gs before hval (DataW.Whole.of_heap (w' := w.forCall tape i) (by rfl) hw) hc (hX _ _ _ (by rfl) hx) hshape).mono ?_
 rintro e W' ⟨v, rfl, hp⟩
 exact ChangeSpec.post_blind hp
end
end Go.Proofs.YtohgjfdbnkjefaaGreatDoor
namespace Go.Proofs.YtohgjfdbnkjefaaGreatDoor
open Go.RowKit
set_option linter.unusedVariables false
def firstAt {α : Type} (p : α → Bool) (xs : List α) : Int := match xs.findIdx? p with | some i => (i : Int) | none => -1
theorem firstAt_none {α : Type} {p : α → Bool} {xs : List α} {k : Nat} (hk : xs.length ≤ k) (h : ∀ j x, j < k → xs[j]? = some x → p x = false) : firstAt p xs = -1 := by
 have : xs.findIdx? p = none := by
  rw [List.findIdx?_eq_none_iff]; intro x hx
  obtain ⟨j, hj⟩ := List.mem_iff_getElem?.1 hx
  exact h j x (Nat.lt_of_lt_of_le (List.getElem?_eq_some_iff.1 hj).1 hk) hj
 simp [firstAt, this]
theorem firstAt_some {α : Type} {p : α → Bool} {xs : List α} {k : Nat} {x : α} (hx : xs[k]? = some x) (hp : p x = true) (h : ∀ j x, j < k → xs[j]? = some x → p x = false) : firstAt p xs = k := by
 have : xs.findIdx? p = some k := by
  rw [List.findIdx?_eq_some_iff_getElem]
  obtain ⟨hl, he⟩ := List.getElem?_eq_some_iff.1 hx
  refine ⟨hl, by rw [he]; exact hp, fun j hj => ?_⟩
  have := h j xs[j] hj (List.getElem?_eq_getElem (by omega))
  simp [this]
 simp [firstAt, this]
def CallsIt (fn : Nat) : Prop := ∀ (bs : Array Value) (w : World), (callFunc fn bs).run Tryz.prog w = .ok (.enter fn bs) w
theorem IndexFuncInt_c (v : Value) (xs : List Int) (fn : Nat) (cap : Array Value) (p : Int → Bool) (w : World) (hv : Ints w v xs) (hf : CallsIt fn)
 (hp : ∀ (x : Int) (w' : World), x ∈ xs → Below w.heap.size w w' → Calls Tryz.prog fn (#[.int .i64 x] ++ cap) w' fun e w'' => e = .returned (.bool (p x)) ∧ Below w'.heap.size w' w'') :
 Calls Tryz.prog 205 #[v, .func (.func fn) #[] cap] w fun e w' => e = .returned (.int .i64 (firstAt p xs)) ∧ Below w.heap.size w w' := by
 obtain ⟨a, c, rfl, hc1, hc2, HC⟩ := hv.parts
 have hf' : ∀ (bs : Array Value) (w : World), (callFunc fn bs).run Tryz.prog w = .ok (.enter fn bs) w := hf
 go_enter Tryz.func205, Tryz.ntmps205
 go_wp2
 go_loopw [8] (fun i wr => ∃ k : Nat, k ≤ xs.length ∧ i = .int .i64 k ∧ Hid (∀ j x, j < k → xs[j]? = some x → p x = false) ∧ Below w.heap.size w wr) (fun i _ => xs.length - (intOf i).toNat)
 case atStart => exact ⟨0, by omega, rfl, fun j x hj => by omega, Below.refl _ _⟩
 case round =>
  obtain ⟨k, hk, rfl, hbef, hb⟩ := hrel
  have hlen := hv.le
  by_cases hlt : k < xs.length
  · obtain ⟨x, hx⟩ := elem_at hlt
    obtain ⟨b, off, rfl, g0⟩ := HC.out k x hx.out
    have hblt : b < w.heap.size := World.block_lt_of_cell? w _ g0
    have g1 : wr.cell? ⟨b, off + k, none⟩ = some (.int .i64 x) := ((bcell hb).1 _ _ hblt).trans g0
    clear g0
    go_wp2_with fail
    refine (hp x _ (List.mem_of_getElem? hx.out) hb).mono ?_
    rintro e w1 ⟨rfl, hb1⟩
    have hb2 : Below w.heap.size w w1 := hb.trans (hb1.mono hb.size)
    rcases hpx : p x with _ | _
    · have HP := hid hpx; clear hpx
      go_wp2
      go_roundw
      case rel => exact ⟨k + 1, by omega, by go_num, fun j y hj hy => by
       by_cases hj2 : j < k
       · exact hbef.out j y hj2 hy
       · obtain rfl : j = k := by omega
         rw [hx.out] at hy; obtain rfl := Option.some.inj hy; exact HP.out, hb2⟩
      case measure => simp [intOf]; omega
    · have HP := hid hpx; clear hpx
      go_wp2
      go_ret
      exact ⟨int_ret (firstAt_some hx.out HP.out hbef.out).symm, hb2⟩
  · go_wp2
    go_ret
    exact ⟨int_ret (firstAt_none (by omega) hbef.out).symm, hb⟩
theorem ContainsFuncInt_c (v : Value) (xs : List Int) (fn : Nat) (cap : Array Value) (p : Int → Bool) (w : World) (hv : Ints w v xs) (hf : CallsIt fn)
 (hp : ∀ (x : Int) (w' : World), x ∈ xs → Below w.heap.size w w' → Calls Tryz.prog fn (#[.int .i64 x] ++ cap) w' fun e w'' => e = .returned (.bool (p x)) ∧ Below w'.heap.size w' w'') :
 Calls Tryz.prog 158 #[v, .func (.func fn) #[] cap] w fun e w' => e = .returned (.bool (decide (0 ≤ firstAt p xs))) ∧ Below w.heap.size w w' := by
 go_enter Tryz.func158, Tryz.ntmps158
 go_wp2_with fail
 refine (IndexFuncInt_c v xs fn cap p w hv hf hp).mono ?_
 rintro e w' ⟨rfl, hb⟩
 go_wp2
 go_ret
 exact ⟨bool_ret (by simp), hb⟩
theorem firstAt_not_all {xs : List Int} {p : Int → Bool} : (decide (0 ≤ firstAt (fun x => !p x) xs)) = !(xs.all p) := by
 unfold firstAt
 cases h : xs.findIdx? (fun x => !p x) with
 | none => rw [List.findIdx?_eq_none_iff] at h; simp; exact fun x hx => by simpa using h x hx
 | some i =>
  rw [List.findIdx?_eq_some_iff_getElem] at h; obtain ⟨hl, h1, _⟩ := h
  simp; exact ⟨xs[i], List.getElem_mem hl, by simpa using h1⟩
theorem areAllInt_c (v : Value) (xs : List Int) (fn : Nat) (p : Int → Bool) (w : World) (hv : Ints w v xs) (hf : CallsIt fn)
 (hp : ∀ (x : Int) (w' : World), Calls Tryz.prog fn #[.int .i64 x] w' fun e w'' => e = .returned (.bool (p x)) ∧ w' = w'') :
 Calls Tryz.prog 109 #[v, .func (.func fn) #[] #[]] w fun e w' => e = .returned (.bool (xs.all p)) ∧ Below w.heap.size w w' := by
 go_enter Tryz.func109, Tryz.ntmps109
 go_wp2_with fail
 refine (ContainsFuncInt_c v xs 159 #[.pointer (some ⟨w.heap.size, 0, none⟩)] (fun x => !p x) _ (hv.below (below_one _)) (fun _ _ => by kernel_rfl) ?_).mono ?_
 · intro x w' _ hb
   have hc : w'.cell? ⟨w.heap.size, 0, none⟩ = some (.func (.func fn) #[] #[]) := by
    rw [(bcell hb).1 _ _ (by simp), World.cell?_alloc_at _ _ _ _ rfl]; rfl
   have hf' : ∀ (bs : Array Value) (w : World), (callFunc fn bs).run Tryz.prog w = .ok (.enter fn bs) w := hf
   go_enter Tryz.func159, Tryz.ntmps159
   go_wp2_with fail
   refine (hp x w').mono ?_
   rintro e w'' ⟨rfl, rfl⟩
   go_wp2
   go_ret
   exact ⟨rfl, Below.refl _ _⟩
 · rintro e w' ⟨rfl, hb⟩
   go_wp2
   go_ret
   exact ⟨bool_ret (by rw [firstAt_not_all]; simp), (below_one _).trans (hb.mono (by simp))⟩
set_option maxRecDepth 100000
def tenI : List Int := [0, 1, 2, 3, 4, 5, 6, 7, 8, 9]
theorem tenI_fin : ∀ k : Fin 10, tenI[k.1]? = some (k.1 : Int) := by decide
theorem tenI_at {k : Nat} (h : k < 10) : tenI[k]? = some (k : Int) := tenI_fin ⟨k, h⟩
def digTo (d l c : Int) (n : Nat) : List Int := (tenI.take n).filter fun x => shC d l (dg x) == c
def digL (d l c : Int) : List Int := tenI.filter fun x => shC d l (dg x) == c
theorem digTo_all (d l c : Int) : digTo d l c 10 = digL d l c := rfl
theorem digTo_le (d l c : Int) (n : Nat) : (digTo d l c n).length ≤ 10 := Nat.le_trans (List.length_filter_le _ _) (by rw [List.length_take]; simp [tenI]; omega)
theorem digL_le (d l c : Int) : (digL d l c).length ≤ 10 := Nat.le_trans (List.length_filter_le _ _) (by simp [tenI])
theorem digTo_succ (d l c : Int) {n : Nat} (h : n < 10) : digTo d l c (n + 1) = digTo d l c n ++ if shC d l (dg n) == c then [(n : Int)] else [] := by
 unfold digTo
 rw [take_snoc (tenI_at h), List.filter_append]
 cases hq : (shC d l (dg n) == c) <;> simp [hq]
theorem ints_snoc (xs : List Int) (x : Int) : (xs ++ [x]).map (Value.int .i64) = xs.map (Value.int .i64) ++ [.int .i64 x] := by simp
theorem digits_c (d l c : Int) (w : World) (d0 : 0 ≤ d) (d1 : d ≤ 127) (l0 : 0 ≤ l) (l1 : l ≤ 127) :
 Calls Tryz.prog 115 #[.agg #[.int .i64 d, .int .i64 l], .int .i64 c] w fun e w' => ∃ u, e = .returned u ∧ w'.ownsRow w.heap.size 3 1 u (digL d l c).length ((digL d l c).map (Value.int .i64)) ∧ Below w.heap.size w w' := by
 obtain ⟨i, hi, hz0, hz1, hz2⟩ := info_parts info_int
 have q0 : (w.alloc (.cells #[.int .i64 d, .int .i64 l] 46)).cell? ⟨w.heap.size, 0, none⟩ = some (.int .i64 d) := by rw [World.cell?_alloc_at _ _ _ _ rfl]; rfl
 have q1 : (w.alloc (.cells #[.int .i64 d, .int .i64 l] 46)).cell? ⟨w.heap.size, 1, none⟩ = some (.int .i64 l) := by rw [World.cell?_alloc_at _ _ _ _ rfl]; rfl
 have hb0 := below_one (w := w) (.cells #[.int .i64 d, .int .i64 l] 46)
 go_enter Tryz.func115, Tryz.ntmps115
 go_wp2_with fail
 refine (digitCells_c _).mono ?_
 rintro e w1 ⟨rfl, hb1⟩
 have r0 := cell_later hb1 q0
 have r1 := cell_later hb1 q1
 have hb2 := Below.chain hb0 hb1
 clear q0 q1 hb0 hb1
 go_wp2
 go_loopw [5, 6, 7, 9] (fun o _ _ j wr => ∃ k : Nat, k ≤ 10 ∧ j = .int .i64 (k : Int) ∧ wr.ownsRow (w.heap.size + 1) 3 1 o (digTo d l c k).length ((digTo d l c k).map (Value.int .i64)) ∧ Below w.heap.size w wr ∧ w.heap.size + 1 ≤ wr.heap.size ∧ wr.cell? ⟨w.heap.size, 0, none⟩ = some (.int .i64 d) ∧ wr.cell? ⟨w.heap.size, 1, none⟩ = some (.int .i64 l)) (fun _ _ _ j _ => 11 - (intOf j).toNat)
 case atStart => exact ⟨0, by omega, rfl, World.ownsRow_nil _ _ _ _, hb2, World.block_lt_of_cell? _ _ r0, r0, r1⟩
 case round =>
  obtain ⟨k, hk, rfl, ho, hb, hsz, g0, g1⟩ := hrel
  clear r0 r1 hb2
  by_cases hlt : k < 10
  · have hd : decide ((k : Int) < 10) = true := by simp; omega
    have hix := fun w => index_dig (k : Int) (by omega) (by omega) w
    have bdx := dg_bd (k : Int)
    have hsc := digTo_succ d l c hlt
    have hle := digTo_le d l c k
    generalize digTo d l c k = cur at *
    have HS := hid hsc; clear hsc
    go_wp2_with fail
    refine (shown_c d l (dg k) d0 d1 l0 l1 bdx.1 bdx.2 _).mono ?_
    rintro e w2 ⟨rfl, hb3⟩
    have g02 := cell_later hb3 g0
    have g12 := cell_later hb3 g1
    have hb4 := Below.chain hb hb3
    have ho2 := own_keep ho hb3
    have hsz2 := Nat.le_trans hsz hb3.size
    clear g0 g1 hb hb3 ho hsz hix
    rcases hq : (shC d l (dg (k : Int)) == c) with _ | _
    · have hS2 : digTo d l c (k + 1) = cur := by rw [HS.out]; simp [hq]
      have HS2 := hid hS2; clear hS2 HS
      go_wp2
      go_roundw
      case rel => exact ⟨k + 1, by omega, by go_num, by rw [HS2.out]; exact ho2, hb4, hsz2, g02, g12⟩
      case measure => simp [intOf]; omega
    · have hS2 : digTo d l c (k + 1) = cur ++ [(k : Int)] := by rw [HS.out]; simp [hq]
      have HS2 := hid hS2; clear hS2 HS
      go_wp2_with (at_builtin; refine wpList_append_own_at _ rfl _ _ 37 rfl (w.heap.size + 1) 3 i (.int .i64 0) 1 8 Tryz.underlying37 hi hz0 hz1 hz2 rfl (by decide) _ cur.length (cur.map (Value.int .i64)) rfl (ho2.alloc _) ⟨w2.heap.size, 0, none⟩ 1 1 [.int .i64 k] rfl rfl (news_new _ [.int .i64 k] _) (by simp [Value.oneCell']) (by unfold maxLen; omega) (by omega) (by simp; omega) ?_)
      intro v' w3 ho5 hg5 _ _
      have hlt2 := World.block_lt_of_cell? _ _ g02
      have hb7 : Below w.heap.size w w3 := (Below.alc hb4 _).grown hg5 (by have := hb4.size; simp; omega) (fun g hg => by have := (ho2.lt g hg).1; omega)
      have hkeep : ∀ o v, w2.cell? ⟨w.heap.size, o, none⟩ = some v → w3.cell? ⟨w.heap.size, o, none⟩ = some v := fun o v h =>
       hg5.cell (cell_later (below_one _) h) (fun e => by have := (ho2.lt _ e.symm).1; simp at this; omega)
      have g03 := hkeep _ _ g02
      have g13 := hkeep _ _ g12
      have hsz3 : w.heap.size + 1 ≤ w3.heap.size := Nat.le_trans (by simp; omega) hg5.size
      clear ho2 hb4 hg5 g02 g12 hkeep hlt2 hsz2
      go_wp2
      go_roundw
      case rel => exact ⟨k + 1, by omega, by go_num, by rw [HS2.out]; exact ownsRow_cast ho5 (by simp) (ints_snoc _ _).symm, hb7, hsz3, g03, g13⟩
      case measure => simp [intOf]; omega
  · obtain rfl : k = 10 := by omega
    go_wp2
    go_ret
    exact ⟨_, rfl, by rw [← digTo_all]; exact own_lo ho (by omega), hb⟩
theorem l3Digits_c (d l c : Int) (w : World) (d0 : 0 ≤ d) (d1 : d ≤ 127) (l0 : 0 ≤ l) (l1 : l ≤ 127) :
 Calls Tryz.prog 223 #[.agg #[.int .i64 d, .int .i64 l], .int .i64 c] w fun e w' => ∃ u, e = .returned u ∧ w'.ownsRow w.heap.size 3 1 u (digL d l c).length ((digL d l c).map (Value.int .i64)) ∧ Below w.heap.size w w' := by
 obtain ⟨i, hi, hz0, hz1, hz2⟩ := info_parts info_int
 have q0 : (w.alloc (.cells #[.int .i64 d, .int .i64 l] 46)).cell? ⟨w.heap.size, 0, none⟩ = some (.int .i64 d) := by rw [World.cell?_alloc_at _ _ _ _ rfl]; rfl
 have q1 : (w.alloc (.cells #[.int .i64 d, .int .i64 l] 46)).cell? ⟨w.heap.size, 1, none⟩ = some (.int .i64 l) := by rw [World.cell?_alloc_at _ _ _ _ rfl]; rfl
 have r0 := cell_later (below_one (.cells #[] 3)) q0
 have r1 := cell_later (below_one (.cells #[] 3)) q1
 have hb2 : Below w.heap.size w ((w.alloc (.cells #[.int .i64 d, .int .i64 l] 46)).alloc (.cells #[] 3)) := qBl
 have ho0 := World.ownsRow_lit (e := 3) (size := 1) (base := w.heap.size + 1) (w.alloc (.cells #[.int .i64 d, .int .i64 l] 46)) #[] 0 (by simp) (by decide) rfl
 rw [show (w.alloc (.cells #[.int .i64 d, .int .i64 l] 46)).heap.size = w.heap.size + 1 by simp] at ho0
 clear q0 q1
 go_enter Tryz.func223, Tryz.ntmps223
 go_wp2
 go_loopw [5, 6] (fun o j wr => ∃ k : Nat, k ≤ 10 ∧ j = .int .i64 (k : Int) ∧ wr.ownsRow (w.heap.size + 1) 3 1 o (digTo d l c k).length ((digTo d l c k).map (Value.int .i64)) ∧ Below w.heap.size w wr ∧ w.heap.size + 1 ≤ wr.heap.size ∧ wr.cell? ⟨w.heap.size, 0, none⟩ = some (.int .i64 d) ∧ wr.cell? ⟨w.heap.size, 1, none⟩ = some (.int .i64 l)) (fun _ j _ => 11 - (intOf j).toNat)
 case atStart => exact ⟨0, by omega, rfl, ho0, hb2, World.block_lt_of_cell? _ _ r0, r0, r1⟩
 case round =>
  obtain ⟨k, hk, rfl, ho, hb, hsz, g0, g1⟩ := hrel
  clear r0 r1 hb2 ho0
  by_cases hlt : k < 10
  · have hd : decide ((k : Int) < 10) = true := by simp; omega
    have bdx := dg_bd (k : Int)
    have hsc := digTo_succ d l c hlt
    have hle := digTo_le d l c k
    generalize digTo d l c k = cur at *
    have HS := hid hsc; clear hsc
    go_wp2_with fail
    go_region_held3 (fun w' => w'.cell? ⟨w.heap.size, 0, none⟩ = some (.int .i64 d) ∧ w'.cell? ⟨w.heap.size, 1, none⟩ = some (.int .i64 l))
     (first | go_keep | (go_split_ands; exact ⟨cell_later (by assumption) (by assumption), cell_later (by assumption) (by assumption)⟩))
     (first | (go_at_call 141; refine (l2Digit_c (k : Int) (by omega) (by omega) _).mono ?_; rintro e w' ⟨rfl, hb2⟩) | (go_at_call 219; refine (l3Shown_c d l (dg k) d0 d1 l0 l1 bdx.1 bdx.2 _).mono ?_; rintro e w' ⟨rfl, hb3⟩))
    go_split_ands
    have g02 : w'.cell? ⟨w.heap.size, 0, none⟩ = some (.int .i64 d) := by assumption
    have g12 : w'.cell? ⟨w.heap.size, 1, none⟩ = some (.int .i64 l) := by assumption
    have hb23 : Below wr.heap.size wr w' := Below.chain (Below.chain (Below.refl _ _).drew hb2) hb3
    have hb4 := Below.chain hb hb23
    have ho2 := own_keep ho hb23
    have hsz2 := Nat.le_trans hsz hb23.size
    clear g0 g1 hb hb3 hb2 hb23 ho hsz
    rcases hq : (shC d l (dg (k : Int)) == c) with _ | _
    · have hS2 : digTo d l c (k + 1) = cur := by rw [HS.out]; simp [hq]
      have HS2 := hid hS2; clear hS2 HS
      go_wp2
      go_roundw
      case rel => exact ⟨k + 1, by omega, by go_num, by rw [HS2.out]; exact ho2, hb4, hsz2, g02, g12⟩
      case measure => simp [intOf]; omega
    · have hS2 : digTo d l c (k + 1) = cur ++ [(k : Int)] := by rw [HS.out]; simp [hq]
      have HS2 := hid hS2; clear hS2 HS
      go_wp2_with (at_builtin; refine wpList_append_own_at _ rfl _ _ 37 rfl (w.heap.size + 1) 3 i (.int .i64 0) 1 8 Tryz.underlying37 hi hz0 hz1 hz2 rfl (by decide) _ cur.length (cur.map (Value.int .i64)) rfl (ho2.alloc _) ⟨w'.heap.size, 0, none⟩ 1 1 [.int .i64 k] rfl rfl (news_new _ [.int .i64 k] _) (by simp [Value.oneCell']) (by unfold maxLen; omega) (by omega) (by simp; omega) ?_)
      intro v' w3 ho5 hg5 _ _
      have hlt2 := World.block_lt_of_cell? _ _ g02
      have hb7 : Below w.heap.size w w3 := (Below.alc hb4 _).grown hg5 (by have := hb4.size; simp; omega) (fun g hg => by have := (ho2.lt g hg).1; omega)
      have hkeep : ∀ o v, w'.cell? ⟨w.heap.size, o, none⟩ = some v → w3.cell? ⟨w.heap.size, o, none⟩ = some v := fun o v h =>
       hg5.cell (cell_later (below_one _) h) (fun e => by have := (ho2.lt _ e.symm).1; simp at this; omega)
      have g03 := hkeep _ _ g02
      have g13 := hkeep _ _ g12
      have hsz3 : w.heap.size + 1 ≤ w3.heap.size := Nat.le_trans (by simp; omega) hg5.size
      clear ho2 hb4 hg5 g02 g12 hkeep hlt2 hsz2
      go_wp2
      go_roundw
      case rel => exact ⟨k + 1, by omega, by go_num, by rw [HS2.out]; exact ownsRow_cast ho5 (by simp) (ints_snoc _ _).symm, hb7, hsz3, g03, g13⟩
      case measure => simp [intOf]; omega
  · obtain rfl : k = 10 := by omega
    go_wp2
    go_ret
    exact ⟨_, rfl, by rw [← digTo_all]; exact own_lo ho (by omega), hb⟩
set_option linter.unusedSimpArgs false
theorem cell_c (g m : Nat) (w : World) (h : CurAt w g m) (hm : m + 20 < 4611686018427387904) :
 Calls Tryz.prog 91 #[.pointer (some ⟨g, 0, none⟩)] w (DrawI w g (m + 20) fun _ => True) := by
 have HC := hid h
 clear h
 go_enter Tryz.func91, Tryz.ntmps91
 go_wp2_with fail
 refine (pick_c 40 g m _ HC.out (by omega)).mono ?_
 rintro e w1 ⟨x, rfl, hx, hs⟩
 have HS := hid hs
 clear hs hx
 have A1 := hid (fun xs hp hl => amongL_c xs g (m + 2) w1 _ rfl HS.out.cur (by omega) hp hl)
 have O1 := hid (fun n => one_c n g (m + 2) w1 HS.out.cur (by omega))
 by_cases e0 : x = 0
 · subst e0
   go_wp2_with fail
   refine (A1.out [-1, 128, 4611686018427387904] (by decide) (by decide)).mono ?_
   rintro e w2 ⟨y, rfl, hy, hs⟩
   have HS2 := hid (HS.out.trans hs)
   clear hs hy
   go_wp2
   go_ret
   exact ⟨_, rfl, trivial, HS2.out.mono (by omega)⟩
 · by_cases e1 : x = 1 ∨ x = 2 ∨ x = 3
   · rcases e1 with rfl | rfl | rfl <;>
     · go_wp2_with fail
       refine (A1.out [0, 127, 64] (by decide) (by decide)).mono ?_
       rintro e w2 ⟨y, rfl, hy, hs⟩
       have HS2 := hid (HS.out.trans hs)
       clear hs hy
       go_wp2
       go_ret
       exact ⟨_, rfl, trivial, HS2.out.mono (by omega)⟩
   · have e1' : ¬ x = 1 := fun h => e1 (.inl h)
     have e2' : ¬ x = 2 := fun h => e1 (.inr (.inl h))
     have e3' : ¬ x = 3 := fun h => e1 (.inr (.inr h))
     clear e1
     go_wp2_with fail
     refine (O1.out 3).mono ?_
     rintro e w2 ⟨b, rfl, hs⟩
     have HS2 := hid (HS.out.trans hs)
     clear hs
     cases b with
     | true =>
      go_wp2_with fail
      refine (pick_c 128 g (m + 4) _ HS2.out.cur (by omega)).mono ?_
      rintro e w3 ⟨y, rfl, hy, hs⟩
      have HS3 := hid (HS2.out.trans hs)
      clear hs hy
      go_wp2
      go_ret
      exact ⟨_, rfl, trivial, HS3.out.mono (by omega)⟩
     | false =>
      go_wp2_with fail
      refine (pick_c 10 g (m + 4) _ HS2.out.cur (by omega)).mono ?_
      rintro e w3 ⟨y, rfl, hy, hs⟩
      have HS3 := hid (HS2.out.trans hs)
      have y0 := hy.1
      have y1 := hy.2 (by omega)
      clear hs hy
      go_wp2_with fail
      refine (l2Digit_c y y0 (by omega) _).mono ?_
      rintro e w4 ⟨rfl, hb⟩
      have HS4 := hid (HS3.out.below hb)
      clear hb
      go_wp2_with fail
      refine (one_c 5 g (m + 6) _ HS4.out.cur (by omega)).mono ?_
      rintro e w5 ⟨b, rfl, hs⟩
      have HS5 := hid (HS4.out.trans hs)
      clear hs
      cases b with
      | false =>
       go_wp2
       go_ret
       exact ⟨_, rfl, trivial, HS5.out.mono (by omega)⟩
      | true =>
       go_wp2_with fail
       refine (pick_c 7 g (m + 8) _ HS5.out.cur (by omega)).mono ?_
       rintro e w6 ⟨z, rfl, hz, hs⟩
       have HS6 := hid (HS5.out.trans hs)
       obtain ⟨k, rfl⟩ := Int.eq_ofNat_of_zero_le hz.1
       have z1 : k < 7 := by have := hz.2 (by omega); omega
       clear hs hz
       go_wp2
       go_ret
       exact ⟨_, rfl, trivial, HS6.out.mono (by omega)⟩
def DrawS (w : World) (g m n : Nat) (e : Ending) (w' : World) : Prop :=
 ∃ (v : Value) (xs : List Int), e = .returned v ∧ xs.length ≤ n ∧ w'.ownsRow w.heap.size 3 1 v xs.length (xs.map (Value.int .i64)) ∧ CStep w w' g m
theorem DrawS.mono {w : World} {g m m' n n' : Nat} {e : Ending} {w' : World} (h : DrawS w g m n e w') (hm : m ≤ m') (hn : n ≤ n') : DrawS w g m' n' e w' := by
 obtain ⟨v, xs, h1, h2, h3, h4⟩ := h
 exact ⟨v, xs, h1, by omega, h3, h4.mono hm⟩
theorem CStep.grown {a b c : World} {g m : Nat} {r : Option Nat} (h : CStep a b g m) (hg : b.grownBy c r) (hga : g < a.heap.size) (hr : ∀ k, r = some k → a.heap.size ≤ k) : CStep a c g m :=
 ⟨⟨hg.os.trans h.gr.os, hg.tape.trans h.gr.tape, hg.output.trans h.gr.output, Nat.le_trans h.gr.size hg.size, fun i hi hne => (hg.block i (Nat.lt_of_lt_of_le hi h.gr.size) (fun e => by
   have := hr i e.symm; omega)).trans (h.gr.block i hi hne)⟩, h.cur.grown hg (fun k hk => by have := hr k hk; omega)⟩
theorem row_start (w : World) (lo : Nat) (h : lo ≤ w.heap.size) : (w.alloc (.cells #[] 3)).ownsRow lo 3 1 (.slice (some ⟨w.heap.size, 0, none⟩) 0 0) ([] : List Int).length (([] : List Int).map (Value.int .i64)) :=
 World.ownsRow_lit (e := 3) (size := 1) (base := lo) w #[] 0 h (by decide) rfl
set_option maxHeartbeats 1000000 in
theorem row_c (g m : Nat) (w : World) (h : CurAt w g m) (hm : m + 150 < 4611686018427387904) :
 Calls Tryz.prog 140 #[.pointer (some ⟨g, 0, none⟩)] w (DrawS w g (m + 150) 7) := by
 have HC := hid h
 have hga := h.lt
 obtain ⟨i, hi, hz0, hz1, hz2⟩ := info_parts info_int
 have HO := hid (row_start w w.heap.size (Nat.le_refl _))
 clear h
 go_enter Tryz.func140, Tryz.ntmps140
 go_wp2_with fail
 refine (amongL_c [2, 3, 1, 4, 6, 0, 5, 2, 3] g m _ _ (by simp) (HC.out.alloc (.cells #[] 3)) (by omega) (by decide) (by decide)).mono ?_
 rintro e w1 ⟨x, rfl, hx, hs⟩
 have HS := hid ((((CStep.refl HC.out).alloc (.cells #[] 3)).trans hs))
 have ho := hs.row HO.out hga
 obtain ⟨x0, x1⟩ : 0 ≤ x ∧ x ≤ 6 := by
  simp only [List.mem_cons, List.not_mem_nil, or_false] at hx; omega
 obtain ⟨k, rfl⟩ := Int.eq_ofNat_of_zero_le x0
 have hk : k ≤ 6 := by omega
 clear hs hx x0 x1 HO
 go_wp2
 go_loopw [3, 4] (fun o j wr => ∃ (k : Nat) (xs : List Int), k ≤ 6 ∧ j = .int .i64 (k : Int) ∧ xs.length + k ≤ 6 ∧ wr.ownsRow w.heap.size 3 1 o xs.length (xs.map (Value.int .i64)) ∧ CStep w wr g (m + 2 + 20 * (6 - k))) (fun _ j _ => (intOf j).toNat)
 case atStart => exact ⟨k, [], hk, rfl, by simpa using hk, ho, HS.out.mono (by omega)⟩
 case round =>
  obtain ⟨k, xs, hk, rfl, hl, ho, hs⟩ := hrel
  have HS := hid hs
  have HO := hid ho
  clear hs ho
  by_cases hk0 : 0 < k
  · have hd : decide (0 < (k : Int)) = true := by simp; omega
    go_wp2_with fail
    refine (cell_c g _ _ HS.out.cur (by omega)).mono ?_
    rintro e w2 ⟨x, rfl, _, hs⟩
    have HS2 := hid (HS.out.trans hs)
    have HO2 := hid (hs.row HO.out hga)
    clear hs
    go_wp2_with (at_builtin; refine wpList_append_own_at _ rfl _ _ 37 rfl w.heap.size 3 i (.int .i64 0) 1 8 Tryz.underlying37 hi hz0 hz1 hz2 rfl (by decide) _ xs.length (xs.map (Value.int .i64)) rfl (HO2.out.alloc _) ⟨w2.heap.size, 0, none⟩ 1 1 [.int .i64 x] rfl rfl (news_new _ [.int .i64 x] _) (by simp [Value.oneCell']) (by unfold maxLen; omega) (by omega) (by have := HS2.out.gr.size; simp; omega) ?_)
    intro v' w3 ho5 hg5 _ _
    have HS3 := hid ((HS2.out.alloc _).grown hg5 hga (fun k hk => ((HO2.out.alloc (.cells #[.int .i64 x] 3)).lt k hk).1))
    have HO3 := hid ho5
    clear ho5 hg5
    go_wp2
    go_roundw
    case rel => exact ⟨k - 1, xs ++ [x], by omega, by go_num, by simp; omega, ownsRow_cast HO3.out (by simp) (ints_snoc _ _).symm, HS3.out.mono (by omega)⟩
    case measure => simp [intOf]; omega
  · obtain rfl : k = 0 := by omega
    clear hk0
    go_wp2_with fail
    refine (one_c 40 g _ _ HS.out.cur (by omega)).mono ?_
    rintro e w2 ⟨b, rfl, hs⟩
    have HS2 := hid (HS.out.trans hs)
    have HO2 := hid (hs.row HO.out hga)
    clear hs
    cases b with
    | false =>
     go_wp2
     go_ret
     exact ⟨_, xs, rfl, by omega, HO2.out, HS2.out.mono (by omega)⟩
    | true =>
     go_wp2
     go_ret
     exact ⟨_, [6, 6, 6, 6, 6, 6, 6], rfl, by decide, World.ownsRow_lit (e := 3) (size := 1) (base := w.heap.size) w2 #[.int .i64 6, .int .i64 6, .int .i64 6, .int .i64 6, .int .i64 6, .int .i64 6, .int .i64 6] 7 HS2.out.gr.size (by decide) rfl, (HS2.out.alloc _).mono (by omega)⟩
set_option maxHeartbeats 1000000 in
theorem digits_d (g m : Nat) (w : World) (h : CurAt w g m) (hm : m + 200 < 4611686018427387904) :
 Calls Tryz.prog 88 #[.pointer (some ⟨g, 0, none⟩)] w (DrawS w g (m + 200) 7) := by
 have HC := hid h
 have hga := h.lt
 obtain ⟨i, hi, hz0, hz1, hz2⟩ := info_parts info_int
 clear h
 go_enter Tryz.func88, Tryz.ntmps88
 go_wp2_with fail
 refine (one_c 6 g m _ HC.out (by omega)).mono ?_
 rintro e w1 ⟨b, rfl, hs⟩
 have HS := hid hs
 clear hs
 cases b with
 | true =>
  go_wp2_with fail
  refine (row_c g (m + 2) _ HS.out.cur (by omega)).mono ?_
  rintro e w2 ⟨v, xs, rfl, hl, ho, hs⟩
  have HS2 := hid (HS.out.trans hs)
  have HO2 := hid (own_lo ho HS.out.gr.size)
  clear hs ho
  go_wp2
  go_ret
  exact ⟨_, xs, rfl, hl, HO2.out, HS2.out.mono (by omega)⟩
 | false =>
  have HO := hid (row_start w1 w.heap.size HS.out.gr.size)
  have HS1 := hid (HS.out.alloc (.cells #[] 3))
  go_wp2_with fail
  refine (amongL_c [2, 3, 1, 4, 6] g (m + 2) _ _ (by simp) HS1.out.cur (by omega) (by decide) (by decide)).mono ?_
  rintro e w2 ⟨x, rfl, hx, hs⟩
  have HS2 := hid (HS1.out.trans hs)
  have ho := hs.row HO.out hga
  obtain ⟨x0, x1⟩ : 0 ≤ x ∧ x ≤ 6 := by
   simp only [List.mem_cons, List.not_mem_nil, or_false] at hx; omega
  obtain ⟨k, rfl⟩ := Int.eq_ofNat_of_zero_le x0
  have hk : k ≤ 6 := by omega
  clear hs hx x0 x1 HO HS1 HS
  go_wp2
  go_loopw [3, 4] (fun o j wr => ∃ (k : Nat) (xs : List Int), k ≤ 6 ∧ j = .int .i64 (k : Int) ∧ xs.length + k ≤ 6 ∧ wr.ownsRow w.heap.size 3 1 o xs.length (xs.map (Value.int .i64)) ∧ CStep w wr g (m + 4 + 20 * (6 - k))) (fun _ j _ => (intOf j).toNat)
  case atStart => exact ⟨k, [], hk, rfl, by simpa using hk, ho, HS2.out.mono (by omega)⟩
  case round =>
   obtain ⟨k, xs, hk, rfl, hl, ho, hs⟩ := hrel
   have HS := hid hs
   have HO := hid ho
   clear hs ho
   by_cases hk0 : 0 < k
   · have hd : decide (0 < (k : Int)) = true := by simp; omega
     go_wp2_with fail
     refine (amongL_c [0, 1, 2, 5, 6, 8, 9, 3, 4, 7] g _ _ _ (by simp) HS.out.cur (by omega) (by decide) (by decide)).mono ?_
     rintro e w2 ⟨x, rfl, hx, hs⟩
     obtain ⟨x0, x1⟩ : 0 ≤ x ∧ x ≤ 9 := by
      simp only [List.mem_cons, List.not_mem_nil, or_false] at hx; omega
     have HS2 := hid (HS.out.trans hs)
     have HO2 := hid (hs.row HO.out hga)
     clear hs hx
     go_wp2_with fail
     refine (l2Digit_c x x0 x1 _).mono ?_
     rintro e w3 ⟨rfl, hb⟩
     have HS3 := hid (HS2.out.below hb)
     have HO3 := hid (own_keep HO2.out hb)
     clear hb
     go_wp2_with (at_builtin; refine wpList_append_own_at _ rfl _ _ 37 rfl w.heap.size 3 i (.int .i64 0) 1 8 Tryz.underlying37 hi hz0 hz1 hz2 rfl (by decide) _ xs.length (xs.map (Value.int .i64)) rfl (HO3.out.alloc _) ⟨w3.heap.size, 0, none⟩ 1 1 [.int .i64 (dg x)] rfl rfl (news_new _ [.int .i64 (dg x)] _) (by simp [Value.oneCell']) (by unfold maxLen; omega) (by omega) (by have := HS3.out.gr.size; simp; omega) ?_)
     intro v' w4 ho5 hg5 _ _
     have HS4 := hid ((HS3.out.alloc _).grown hg5 hga (fun k hk => ((HO3.out.alloc (.cells #[.int .i64 (dg x)] 3)).lt k hk).1))
     have HO4 := hid ho5
     clear ho5 hg5
     go_wp2
     go_roundw
     case rel => exact ⟨k - 1, xs ++ [dg x], by omega, by go_num, by simp; omega, ownsRow_cast HO4.out (by simp) (ints_snoc _ _).symm, HS4.out.mono (by omega)⟩
     case measure => simp [intOf]; omega
   · obtain rfl : k = 0 := by omega
     clear hk0
     go_wp2
     go_ret
     exact ⟨_, xs, rfl, by omega, HO.out, HS.out.mono (by omega)⟩
theorem CStep.store {a b : World} {g m : Nat} (h : CStep a b g m) (hga : g < a.heap.size) {p : Addr} (hp : a.heap.size ≤ p.block) (v : Value) : CStep a (b.setCell p v) g m :=
 ⟨⟨h.gr.os, h.gr.tape, h.gr.output, by have := h.gr.size; simp [World.setCell]; exact this, fun k hk hne => (Below.heap_setCell _ _ _ _ (by omega)).trans (h.gr.block k hk hne)⟩, h.cur.blocks fun k hk => Below.heap_setCell _ _ _ _ (by omega)⟩
theorem Bk.step {a b : World} {g m k t : Nat} {cs : Array Value} (h : Bk a k t cs) (hs : CStep a b g m) (hk : k ≠ g) : Bk b k t cs := h.keep (hs.gr.block k h.lt (fun e => hk (by cases e; rfl)))
end Go.Proofs.YtohgjfdbnkjefaaGreatDoor
