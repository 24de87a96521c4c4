/- Texts of this claim, gathered: Cwp, Cwn, Ones, Cwt, Cwr, LaidC, All, Cwq, Faults, Groups. -/
import Derived.Test.YtohgjfdbnkjefaaGreatDoorKw2
import Derived.Lib.AtoiAllCases
import Derived.Lib.SplitLaws
import Derived.Lib.IndexBytes
import Derived.Lib.Join
import Derived.Test.YtohgjfdbnkjefaaGreatDoorSf
import Derived.Test.YtohgjfdbnkjefaaGreatDoorRows
import Derived.ProofKit
import Derived.LaidMore
import Derived.OpenShut
import Derived.Stop.Joined
import Derived.MakeChecks
import Derived.Stop.LaidErr
import Derived.Shelf.Vars
import Derived.Lay
import Derived.Deep.RegionHeld3
namespace Go.Proofs.YtohgjfdbnkjefaaGreatDoor
set_option linter.unusedVariables false
set_option linter.unusedSimpArgs false
def stepD (n : Nat) (c : UInt8) : Nat := 10 * n + (c.toNat - 48)
def valD (l : Bs) : Nat := l.foldl stepD 0
theorem valD_snoc (l : Bs) (c : UInt8) : valD (l ++ [c]) = stepD (valD l) c := by unfold valD; rw [List.foldl_append]; rfl
theorem valD_dec : ∀ u : Nat, valD (Lib.decDigits u) = u := by
 intro u
 induction u using Nat.strongRecOn with
 | ind u ih =>
  rw [Lib.decDigits]
  split
  · rename_i h
    have : (UInt8.ofNat (48 + u)).toNat = 48 + u := by simp; omega
    show stepD 0 (UInt8.ofNat (48 + u)) = u
    unfold stepD; omega
  · rename_i h
    have : (UInt8.ofNat (48 + u % 10)).toNat = 48 + u % 10 := by simp; omega
    rw [valD_snoc, ih (u / 10) (by omega)]
    unfold stepD; omega
theorem dec_len : ∀ (k u : Nat), u < 10 ^ (k + 1) → (Lib.decDigits u).length ≤ k + 1 := by
 intro k
 induction k with
 | zero => intro u h; rw [Lib.decDigits, dif_pos (by omega)]; simp
 | succ k ih =>
  intro u h
  rw [Lib.decDigits]
  split
  · simp
  · have := ih (u / 10) (by rw [Nat.pow_succ] at h; omega)
    rw [List.length_append]; simp; omega
theorem dec_ne (u : Nat) : Lib.decDigits u ≠ [] := by
 rw [Lib.decDigits]; split <;> simp
theorem parse_digits (l : Bs) (acc : Nat) (h : ∀ c ∈ l, 48 ≤ c.toNat ∧ c.toNat ≤ 57) (hb : acc * 10 ^ l.length + 10 ^ l.length ≤ 1000000000000) : Lib.parseUint10 acc l = .ok (l.foldl stepD acc) := by
 induction l generalizing acc with
 | nil => rfl
 | cons c t ih =>
  have hc := h c (by simp)
  simp only [List.length_cons, Nat.pow_succ] at hb
  have hp : 1 ≤ 10 ^ t.length := Nat.one_le_pow _ _ (by decide)
  have ha : acc * (10 ^ t.length * 10) = acc * 10 * 10 ^ t.length := by rw [Nat.mul_comm (10 ^ t.length) 10, Nat.mul_assoc]
  have hd : (acc * 10 + (c.toNat - 48)) * 10 ^ t.length ≤ acc * 10 * 10 ^ t.length + 9 * 10 ^ t.length := by
   rw [Nat.add_mul]
   exact Nat.add_le_add_left (Nat.mul_le_mul_right _ (by omega)) _
  have hacc : acc * 10 ≤ acc * 10 * 10 ^ t.length := Nat.le_mul_of_pos_right _ (by omega)
  rw [Lib.parseUint10, if_pos hc, if_neg (by omega), if_neg (by omega), ih _ (fun x hx => h x (by simp [hx])) (by omega)]
  simp only [List.foldl_cons]
  rw [show acc * 10 + (c.toNat - 48) = stepD acc c by unfold stepD; omega]
theorem mag_dec {u : Nat} (h : u ≤ 999999) : Lib.parseMag (Lib.decDigits u) = .ok u := by
 unfold Lib.parseMag
 rw [if_neg (dec_ne u)]
 have hl := dec_len 5 u (by omega)
 have hp : 10 ^ (Lib.decDigits u).length ≤ 10 ^ 6 := Nat.pow_le_pow_right (by decide) hl
 rw [parse_digits _ 0 (decDigits_digit u) (by omega)]
 exact congrArg Lib.NumEnd.ok (valD_dec u)
theorem atoi_itoa {v : Int} (h0 : -999999 ≤ v) (h1 : v ≤ 999999) : Lib.atoiAll (Lib.itoa v) = .ok v := by
 by_cases hn : v < 0
 · unfold Lib.itoa
   rw [if_pos hn, Lib.atoiAll_minus, mag_dec (by omega)]
   unfold Lib.signed
   simp only
   rw [if_neg (by omega)]
   congr 1; omega
 · unfold Lib.itoa
   rw [if_neg hn]
   have hm := mag_dec (u := v.toNat) (by omega)
   have hd := decDigits_digit v.toNat
   cases hl : Lib.decDigits v.toNat with
   | nil => exact absurd hl (dec_ne _)
   | cons c r =>
    rw [hl] at hm hd
    have hc := hd c (by simp)
    rw [Lib.atoiAll_plain c r (by omega) (by omega), hm]
    unfold Lib.signless
    simp only
    rw [if_neg (by omega)]
    congr 1; omega
def rdO (s : Bs) : Option Int := match Lib.atoiAll s with
 | .ok v => if -999999 ≤ v ∧ v ≤ 999999 ∧ Lib.itoa v = s then some v else none
 | _ => none
theorem rdO_iff (s : Bs) (v : Int) : rdO s = some v ↔ (-999999 ≤ v ∧ v ≤ 999999 ∧ Lib.itoa v = s) := by
 constructor
 · intro h
   unfold rdO at h
   split at h
   · split at h
     · rename_i h2
       obtain rfl := Option.some.inj h
       exact h2
     · cases h
   · cases h
 · rintro ⟨h0, h1, rfl⟩
   unfold rdO
   rw [atoi_itoa h0 h1]
   simp only
   rw [if_pos ⟨h0, h1, trivial⟩]
theorem splSt_shift (c : UInt8) (s : Bs) (l : List Bs) (cur : Bs) : s.foldl (splStep c) (l, cur) = (l ++ (s.foldl (splStep c) ([], cur)).1, (s.foldl (splStep c) ([], cur)).2) := by
 induction s generalizing l cur with
 | nil => simp
 | cons x t ih =>
  simp only [List.foldl_cons]
  by_cases hx : x = c
  · have e : ∀ l : List Bs, splStep c (l, cur) x = (l ++ [cur], []) := fun l => by unfold splStep; rw [if_pos hx]
    rw [e, e, ih (l ++ [cur]) [], ih ([] ++ [cur]) []]; simp
  · have e : ∀ l : List Bs, splStep c (l, cur) x = (l, cur ++ [x]) := fun l => by unfold splStep; rw [if_neg hx]
    rw [e, e, ih l (cur ++ [x])]
theorem split_cons {c : UInt8} {a b : Bs} (h : c ∉ a) : splitS c (a ++ c :: b) = a :: splitS c b := by
 have h1 : splSt c (a ++ c :: b) = b.foldl (splStep c) ([a], []) := by
  have : splSt c (a ++ c :: b) = (c :: b).foldl (splStep c) (splSt c a) := by unfold splSt; rw [List.foldl_append]
  rw [this, splSt_none h]
  simp [splStep]
 unfold splitS
 rw [h1, splSt_shift]
 rfl
theorem lib_split (c : UInt8) : ∀ (n : Nat) (s : Bs), s.length ≤ n → Lib.splitK [c] 0 (Lib.count s [c]) s = splitS c s := by
 intro n
 induction n with
 | zero =>
  intro s h
  have : s = [] := List.eq_nil_of_length_eq_zero (by omega)
  subst this
  rfl
 | succ n ih =>
  intro s h
  rcases first_at s c with ⟨a, b, rfl, ha⟩ | hno
  · have hc : Lib.count (a ++ c :: b) [c] = Lib.count b [c] + 1 := by
     rw [Lib.count_one, Lib.count_one, List.count_append, List.count_eq_zero.2 ha, List.count_cons_self]; omega
    have hi : Lib.index (a ++ c :: b) [c] = a.length := by rw [Lib.index_one, indexByte_hit ha]
    rw [hc, Lib.splitK, if_neg (by rw [hi]; first | (simp; done) | (simp; omega)), hi]
    rw [List.length_append, List.length_cons] at h
    rw [Int.toNat_natCast, Nat.add_zero, List.take_left' rfl, split_cons ha]
    congr 1
    rw [show a ++ c :: b = (a ++ [c]) ++ b by simp, List.drop_left' (by simp)]
    exact ih b (by omega)
  · rw [Lib.count_one, List.count_eq_zero.2 hno, split_miss hno]; rfl
theorem join_cons2 (y z : Bs) (t : List Bs) (sep : Bs) : Lib.join (y :: z :: t) sep = y ++ sep ++ Lib.join (z :: t) sep := by simp [Lib.join, List.intercalate]
theorem join_nil (sep : Bs) : Lib.join [] sep = [] := rfl
theorem join_one' (x sep : Bs) : Lib.join [x] sep = x := by simp [Lib.join, List.intercalate]
def joinS (xs : List Bs) : Bs := Lib.join xs [32]
def listT (l : List Int) : Bs := if l = [] then [110, 111, 110, 101] else joinS (l.map Lib.itoa)
def barsTo (c : Int) (k : Nat) : Bs := (List.range k).filterMap fun i => if c.toNat / 2 ^ i % 2 = 1 then some (UInt8.ofNat (97 + i)) else none
theorem barsTo_succ (c : Int) (k : Nat) : barsTo c (k + 1) = barsTo c k ++ (if c.toNat / 2 ^ k % 2 = 1 then [UInt8.ofNat (97 + k)] else []) := by
 unfold barsTo
 rw [List.range_succ, List.filterMap_append]
 congr 1
 by_cases h : c.toNat / 2 ^ k % 2 = 1 <;> simp [h]
theorem barsTo_len (c : Int) (k : Nat) : (barsTo c k).length ≤ k := by
 unfold barsTo
 exact Nat.le_trans (List.length_filterMap_le _ _) (by simp)
def rowW (c : Int) : Bs := if c = 0 then [45] else barsTo c 7
def rowTx (r : List Int) : Bs := joinS (r.map rowW)
theorem rowW_len (c : Int) : (rowW c).length ≤ 7 := by
 unfold rowW; split
 · simp
 · exact barsTo_len c 7
open Go.RowKit
set_option maxRecDepth 100000
theorem dec_size {u : Nat} (h : u ≤ 999999) : (bs (Lib.decDigits u)).size ≤ 6 := by rw [bs_size]; exact dec_len 5 u (by omega)
theorem ItoaI_c (n : Int) (h0 : -999999 ≤ n) (h1 : n ≤ 999999) (w : World) (ht : Tab w) : Calls Tryz.prog 116 #[.int .i64 n] w fun e w' => e = .returned (.string (bs (Lib.itoa n))) ∧ Below w.heap.size w w' :=
 (Tryz.strconv_Itoa n (by omega) (by omega) w ht).mono fun e w' ⟨he, k, os, hw⟩ => ⟨he, hw ▸ below_growN w k os⟩
def cnt (c : Int) : Int := ((List.range 7).map fun (i : Nat) => ((c.toNat / 2 ^ i % 2 : Nat) : Int)).sum
def on1 (x : Int) : Int := IntKind.u64.wrap (bits .and .u64 (x / 2) 6148914691236517205 + bits .and .u64 x 6148914691236517205)
def on2 (x : Int) : Int := IntKind.u64.wrap (bits .and .u64 (x / 4) 3689348814741910323 + bits .and .u64 x 3689348814741910323)
def on3 (x : Int) : Int := bits .and .u64 (IntKind.u64.wrap (x / 16 + x)) 1085102592571150095
def on4 (x : Int) : Int := IntKind.u64.wrap (x + x / 256)
def on5 (x : Int) : Int := IntKind.u64.wrap (x + x / 65536)
def on6 (x : Int) : Int := IntKind.u64.wrap (x + x / 4294967296)
def onesF (x : Int) : Int := on6 (on5 (on4 (on3 (on2 (on1 x)))))
theorem onesF_all : ∀ c : Fin 128, onesF (c.1 : Int) = cnt (c.1 : Int) ∧ 0 ≤ cnt (c.1 : Int) ∧ cnt (c.1 : Int) ≤ 7 ∧ bits .and .i64 (wrap64 (cnt (c.1 : Int))) 127 = cnt (c.1 : Int) := by decide +kernel
theorem Ones64_c (c : Nat) (hc : c < 128) (w : World) : Calls Tryz.prog 161 #[.int .u64 c] w fun e w' => e = .returned (.int .i64 (cnt c)) ∧ w = w' := by
 have h0 : (0 : Int) ≤ c := by omega
 have h1 : (c : Int) ≤ 127 := by omega
 have H := Lib.hid (onesF_all ⟨c, hc⟩)
 go_enter Tryz.func161, Tryz.ntmps161
 go_wp2
 go_ret
 refine ⟨?_, rfl⟩
 refine int_ret ?_
 show bits .and .i64 (wrap64 (onesF (c : Int))) 127 = cnt (c : Int)
 rw [H.out.1]; exact H.out.2.2.2
theorem Ones_c (c : Nat) (hc : c < 128) (w : World) : Calls Tryz.prog 114 #[.int .u64 c] w fun e w' => e = .returned (.int .i64 (cnt c)) ∧ w = w' := by
 have h0 : (0 : Int) ≤ c := by omega
 have h1 : (c : Int) ≤ 127 := by omega
 go_enter Tryz.func114, Tryz.ntmps114
 go_wp2_with fail
 refine (Ones64_c c hc _).mono ?_
 rintro e w' ⟨rfl, rfl⟩
 go_wp2
 go_ret
 exact ⟨rfl, rfl⟩
theorem count_c (c : Int) (h0 : 0 ≤ c) (h1 : c ≤ 127) (w : World) : Calls Tryz.prog 61 #[.int .i64 c] w fun e w' => e = .returned (.int .i64 (cnt c)) ∧ w = w' := by
 obtain ⟨n, rfl⟩ := Int.eq_ofNat_of_zero_le h0
 go_enter Tryz.func61, Tryz.ntmps61
 go_wp2_with fail
 refine (Ones_c n (by omega) _).mono ?_
 rintro e w' ⟨rfl, rfl⟩
 go_wp2
 go_ret
 exact ⟨rfl, rfl⟩
theorem bit_at (n k : Nat) (hn : n < 128) : bits .and .i64 ((n : Int) / 2 ^ k) 1 = ((n / 2 ^ k % 2 : Nat) : Int) := by
 have e : ((n : Int) / 2 ^ k) = ((n / 2 ^ k : Nat) : Int) := by simp
 have hle : n / 2 ^ k ≤ n := Nat.div_le_self _ _
 rw [e, show (1 : Int) = ((1 : Nat) : Int) from rfl, i64_and_nat _ 1 (by omega) (by omega), Nat.and_one_is_mod]
theorem info_strx : (Tryz.prog.info? 9).map (fun i => (i.zero, i.size, i.bytes)) = some (some (.string ⟨#[]⟩), 1, 16) := by kernel_rfl
def strsV (l : List Bs) : List Value := l.map strV
theorem strsV_snoc (l : List Bs) (x : Bs) : strsV (l ++ [x]) = strsV l ++ [.string (bs x)] := by unfold strsV; rw [List.map_append]; rfl
theorem join_len (l : List Bs) (h : ∀ x ∈ l, x.length ≤ 1000) : (joinS l).length ≤ 1001 * l.length := by
 unfold joinS
 induction l with
 | nil => simp [join_nil]
 | cons x t ih =>
  have hx := h x (by simp)
  have ht := ih (fun y hy => h y (by simp [hy]))
  cases t with
  | nil => rw [join_one']; simp; omega
  | cons y u =>
   rw [join_cons2, List.length_append, List.length_append]
   simp only [List.length_cons, List.length_nil] at ht ⊢
   omega
theorem strsV_at {l : List Bs} {j : Nat} {x : ByteArray} (h : (l.map bs)[j]? = some x) : (strsV l)[j]? = some (.string x) := by
 unfold strsV
 rw [List.getElem?_map] at h ⊢
 obtain ⟨y, hy, rfl⟩ := Option.map_eq_some_iff.1 h
 rw [hy]; rfl
theorem Join_c (v : Value) (l : List Bs) (w : World) (hv : Sl w 1 v l.length (strsV l)) (hl : l.length ≤ 100000) (hx : ∀ x ∈ l, x.length ≤ 1000) :
 Calls Tryz.prog 66 #[v, .string ⟨#[32]⟩] w fun e w' => e = .returned (.string (bs (joinS l))) ∧ Below w.heap.size w w' := by
 obtain ⟨a, c, rfl, h1, h2, h3, h4⟩ := hv
 have hmap : ((l.map bs).map fun (b : ByteArray) => b.data.toList) = l := by
  rw [List.map_map]
  conv => rhs; rw [← List.map_id l]
  exact List.map_congr_left fun x _ => bs_list x
 have hjl := join_len l hx
 cases l with
 | nil =>
  refine (Tryz.strings_Join_none a c ⟨#[32]⟩ w).mono fun e w' ⟨he, hw⟩ => ⟨?_, hw ▸ Below.refl _ _⟩
  rw [he]; rfl
 | cons x t =>
  obtain ⟨b, off, rfl, hc⟩ := h4 (by simp)
  have hcell : ∀ (j : Nat) y, ((x :: t).map bs)[j]? = some y → w.cell? ⟨b, off + j, none⟩ = some (.string y) := fun j y hy => by
   have hj : j < (x :: t).length := by have := (List.getElem?_eq_some_iff.1 hy).1; simpa using this
   rw [hc j (by omega)]; exact strsV_at hy
  have hbk : b < w.heap.size := World.block_lt_of_cell? w _ (hcell 0 (bs x) rfl)
  have h := Tryz.strings_Join b off c ((x :: t).map bs) ⟨#[32]⟩ w hcell hbk (by rw [List.length_map]; omega) (by rw [List.length_map]; exact h1) (by
   rw [hmap]
   exact Nat.le_trans hjl (by omega))
  rw [List.length_map, hmap] at h
  exact h
theorem bars_piece : ∀ i : Fin 7, ((⟨#[97, 98, 99, 100, 101, 102, 103]⟩ : ByteArray).extract i.1 (i.1 + 1)) = bs [UInt8.ofNat (97 + i.1)] := by decide +kernel
theorem barsOf_c (c : Int) (h0 : 0 ≤ c) (h1 : c ≤ 127) (w : World) : Calls Tryz.prog 111 #[.int .i64 c] w fun e w' => e = .returned (.string (bs (barsTo c 7))) ∧ w = w' := by
 obtain ⟨n, rfl⟩ := Int.eq_ofNat_of_zero_le h0
 go_enter Tryz.func111, Tryz.ntmps111
 go_wp2
 go_loopw [3, 4, 5] (fun s _ j wr => ∃ k : Nat, k ≤ 7 ∧ j = .int .i64 (k : Int) ∧ s = .string (bs (barsTo (n : Int) k)) ∧ w = wr) (fun _ _ j _ => 8 - (intOf j).toNat)
 case atStart => exact ⟨0, by omega, rfl, rfl, by trivial⟩
 case round =>
  obtain ⟨k, hk, rfl, rfl, rfl⟩ := hrel
  by_cases hlt : k < 7
  · have hd : decide ((k : Int) < 7) = true := by simp; omega
    have hbit := bit_at n k (by omega)
    have hS := barsTo_succ (n : Int) k
    have hsz : (bs (barsTo (n : Int) k)).size ≤ 7 := by rw [bs_size]; exact Nat.le_trans (barsTo_len _ _) hk
    have HP := Lib.hid (bars_piece ⟨k, hlt⟩)
    have hp1 : ((⟨#[97, 98, 99, 100, 101, 102, 103]⟩ : ByteArray).extract k (k + 1)).size = 1 := by rw [HP.out]; rfl
    by_cases hb : n / 2 ^ k % 2 = 1
    · have hS2 : bs (barsTo (n : Int) k) ++ bs [UInt8.ofNat (97 + k)] = bs (barsTo (n : Int) (k + 1)) := by
       rw [bs_append, hS, Int.toNat_natCast, if_pos hb]
      have HS := Lib.hid hS2
      rw [hb] at hbit
      clear hS hS2 hb
      generalize bs (barsTo (n : Int) k) = X at *
      have hs1 : ¬ 9223372036854775807 < X.size + (min (k + 1) 7 - k) := by omega
      go_wp2
      go_roundw
      case rel => exact ⟨k + 1, by omega, by go_num, by rw [← HS.out, ← HP.out], by trivial⟩
      case measure => simp [intOf]; omega
    · have hb0 : n / 2 ^ k % 2 = 0 := by omega
      have HS := Lib.hid (show barsTo (n : Int) (k + 1) = barsTo (n : Int) k by rw [hS, Int.toNat_natCast, if_neg hb, List.append_nil])
      rw [hb0] at hbit
      clear hS hb hb0 hp1 HP
      go_wp2
      go_roundw
      case rel => exact ⟨k + 1, by omega, by go_num, by rw [HS.out], by trivial⟩
      case measure => simp [intOf]; omega
  · obtain rfl : k = 7 := by omega
    go_wp2
    go_ret
    exact ⟨rfl, rfl⟩
structure TabC (w : World) : Prop where
 pow : Tab w
 len : ∃ m, w.cell? ⟨0, 0, none⟩ = some (.int .i64 m)
 syn : ∃ ev, w.cell? ⟨1, 0, none⟩ = some ev ∧ (ev = .nilIface ∨ ∃ te pe, ev = .iface te pe)
 rng : ∃ ev, w.cell? ⟨2, 0, none⟩ = some ev ∧ (ev = .nilIface ∨ ∃ te pe, ev = .iface te pe)
theorem TabC.on {w w' : World} (h : TabC w) (hb : Below w.heap.size w w') : TabC w' := by
 obtain ⟨m, hm⟩ := h.len
 obtain ⟨s, hs, hs2⟩ := h.syn
 obtain ⟨r, hr, hr2⟩ := h.rng
 exact ⟨h.pow.on hb, ⟨m, cell_later hb hm⟩, ⟨s, cell_later hb hs, hs2⟩, ⟨r, cell_later hb hr, hr2⟩⟩
def rdV (s : Bs) : Value := .tuple #[.int .i64 ((rdO s).getD 0), .bool (rdO s).isSome]
theorem rdV_no {s : Bs} (h : rdO s = none) : rdV s = .tuple #[.int .i64 0, .bool false] := by unfold rdV; rw [h]; rfl
theorem rdV_yes {s : Bs} {v : Int} (h : rdO s = some v) : rdV s = .tuple #[.int .i64 v, .bool true] := by unfold rdV; rw [h]; rfl
theorem Split_c (s : ByteArray) (c : UInt8) (w : World) (hs : s.size ≤ 1048576) (ht : TabC w) : Calls Tryz.prog 77 #[.string s, .string ⟨#[c]⟩] w (SplOut c s.data.toList w) := by
 obtain ⟨m, hm⟩ := ht.len
 refine (Tryz.strings_Split s ⟨#[c]⟩ m w (by omega) hm (Nat.le_refl 1)).mono fun e w' ⟨he, hw⟩ => ?_
 have hd := Lib.splitB_data ⟨#[c]⟩ 0 (Lib.countB s ⟨#[c]⟩) s
 have hk := lib_split c _ s.data.toList (Nat.le_refl _)
 have hl := Lib.splitB_all ⟨#[c]⟩ (Nat.le_refl 1) 0 (Lib.countB s ⟨#[c]⟩) s rfl
 have hcount : Lib.countB s ⟨#[c]⟩ = Lib.count s.data.toList [c] := rfl
 rw [hcount] at hd hl he hw
 have hd2 : (Lib.splitB ⟨#[c]⟩ 0 (Lib.count s.data.toList [c]) s).map (·.data.toList) = splitS c s.data.toList := hd.trans hk
 generalize hp : Lib.splitB ⟨#[c]⟩ 0 (Lib.count s.data.toList [c]) s = ps at *
 have hval : (splitS c s.data.toList).map strV = ps.map Value.string := by
  rw [← hd2, List.map_map]
  exact List.map_congr_left fun x _ => by show Value.string (bs x.data.toList) = _; rw [bs_of]
 have hlen : (splitS c s.data.toList).length = ps.length := by rw [← hd2, List.length_map]
 subst hw
 refine ⟨_, he, ?_, below_one _⟩
 rw [hlen, hval, ← hl]
 exact ownsRow_cast (World.ownsRow_lit w (ps.map Value.string).toArray ps.length (Nat.le_refl _) (by
  have h1 := Lib.countB_le ⟨#[c]⟩ (Nat.le_refl 1) s.size s (Nat.le_refl _)
  rw [hcount] at h1
  unfold maxLen; omega) (by simp)) rfl (by simp)
set_option maxHeartbeats 1000000 in
theorem ParseInt_c (s : ByteArray) (w : World) (hs : s.size ≤ 1048576) (ht : TabC w) : Calls Tryz.prog 100 #[.string s] w fun e w' => e = .returned (rdV s.data.toList) ∧ Below w.heap.size w w' := by
 have HT := Lib.hid ht
 cases h : Lib.atoiAll s.data.toList with
 | ok v =>
  have HA : Hid (Calls Tryz.prog 145 #[.string s] w fun e w' => e = .returned (.tuple #[.int .i64 v, .nilIface]) ∧ Below w.heap.size w w') := (Tryz.strconv_Atoi_ok s (by omega) v h w).mono fun e w' ⟨he, hw⟩ => ⟨he, by
   rcases hw with rfl | ⟨t, rfl⟩
   · exact Below.refl _ _
   · exact Go.Joins.below_bytesWorld w.heap.size w 5 t (Nat.le_refl _)⟩
  obtain ⟨b0, b1⟩ := Lib.atoiAll_bounds h
  have hR : rdO s.data.toList = if -999999 ≤ v ∧ v ≤ 999999 ∧ Lib.itoa v = s.data.toList then some v else none := by unfold rdO; rw [h]
  have HR := Lib.hid hR
  clear h hR ht
  by_cases hin : -999999 ≤ v ∧ v ≤ 999999
  · have hb : inB v (-999999) 999999 = true := inB_mk hin.1 hin.2
    have HI := Lib.hid (fun W h => ItoaI_c v hin.1 hin.2 W h)
    by_cases he : Lib.itoa v = s.data.toList
    · have HV := Lib.hid (rdV_yes (s := s.data.toList) (v := v) (by rw [HR.out, if_pos ⟨hin.1, hin.2, he⟩]))
      have hst := str_eq (show bs (Lib.itoa v) = s by rw [he, bs_of])
      generalize bs (Lib.itoa v) = X at *
      go_enter Tryz.func100, Tryz.ntmps100
      go_wp2_with fail
      refine HA.out.mono ?_
      rintro e w1 ⟨rfl, hb1⟩
      have HB := Lib.hid hb1
      clear hb1
      go_wp2_with fail
      refine (within_c _ _ _ _).mono ?_
      rintro e w2 ⟨rfl, rfl⟩
      rw [hb]
      go_wp2_with fail
      refine (HI.out _ (HT.out.on HB.out).pow).mono ?_
      rintro e w3 ⟨rfl, hb3⟩
      have HB3 := Lib.hid (Below.chain HB.out hb3)
      clear hb3
      go_wp2
      exact bodyPost_ret (v := .tuple #[.int .i64 v, .bool true]) (by simp [results, Tryz.results100, go_sem]) rfl ⟨by rw [HV.out], HB3.out⟩
    · have HV := Lib.hid (rdV_no (s := s.data.toList) (by rw [HR.out, if_neg (fun h => he h.2.2)]))
      have hst := str_ne (show bs (Lib.itoa v) ≠ s from fun e => he ((bs_list _).symm.trans (congrArg (fun x : ByteArray => x.data.toList) e)))
      clear he
      generalize bs (Lib.itoa v) = X at *
      go_enter Tryz.func100, Tryz.ntmps100
      go_wp2_with fail
      refine HA.out.mono ?_
      rintro e w1 ⟨rfl, hb1⟩
      have HB := Lib.hid hb1
      clear hb1
      go_wp2_with fail
      refine (within_c _ _ _ _).mono ?_
      rintro e w2 ⟨rfl, rfl⟩
      rw [hb]
      go_wp2_with fail
      refine (HI.out _ (HT.out.on HB.out).pow).mono ?_
      rintro e w3 ⟨rfl, hb3⟩
      have HB3 := Lib.hid (Below.chain HB.out hb3)
      clear hb3
      go_wp2
      exact bodyPost_ret (v := .tuple #[.int .i64 0, .bool false]) (by simp [results, Tryz.results100, go_sem]) rfl ⟨by rw [HV.out], HB3.out⟩
  · have hb : inB v (-999999) 999999 = false := by
     cases hq : inB v (-999999) 999999 with
     | false => rfl
     | true => exact absurd (inB_true hq) hin
    have HV := Lib.hid (rdV_no (s := s.data.toList) (by rw [HR.out, if_neg (fun h => hin ⟨h.1, h.2.1⟩)]))
    clear hin
    go_enter Tryz.func100, Tryz.ntmps100
    go_wp2_with fail
    refine HA.out.mono ?_
    rintro e w1 ⟨rfl, hb1⟩
    have HB := Lib.hid hb1
    clear hb1
    go_wp2_with fail
    refine (within_c _ _ _ _).mono ?_
    rintro e w2 ⟨rfl, rfl⟩
    rw [hb]
    go_wp2
    exact bodyPost_ret (v := .tuple #[.int .i64 0, .bool false]) (by simp [results, Tryz.results100, go_sem]) rfl ⟨by rw [HV.out], HB.out⟩
 | range =>
  obtain ⟨ev, hev, hev2⟩ := ht.rng
  have HA : Hid (Calls Tryz.prog 145 #[.string s] w fun e w' => ∃ (k : Int) (t : TypeId) (p : Value), e = .returned (.tuple #[.int .i64 k, .iface t p]) ∧ Below w.heap.size w w') := (Tryz.strconv_Atoi_range s (by omega) h ev w hev hev2).mono fun e w' ⟨N, he, _, _, hb⟩ => ⟨_, _, _, he, hb⟩
  have HV := Lib.hid (rdV_no (s := s.data.toList) (by unfold rdO; rw [h]))
  clear h ht hev hev2
  go_enter Tryz.func100, Tryz.ntmps100
  go_wp2_with fail
  refine HA.out.mono ?_
  rintro e w1 ⟨k, t, p, rfl, hb1⟩
  have HB := Lib.hid hb1
  clear hb1
  go_wp2
  exact bodyPost_ret (v := .tuple #[.int .i64 0, .bool false]) (by simp [results, Tryz.results100, go_sem]) rfl ⟨by rw [HV.out], HB.out⟩
 | _ =>
  obtain ⟨ev, hev, hev2⟩ := ht.syn
  have HA : Hid (Calls Tryz.prog 145 #[.string s] w fun e w' => ∃ (k : Int) (t : TypeId) (p : Value), e = .returned (.tuple #[.int .i64 k, .iface t p]) ∧ Below w.heap.size w w') := (Any.strconv_Atoi_syntax Tryz.laysC172 s (by omega) h ev w hev hev2).mono fun e w' ⟨N, he, _, _, hb⟩ => ⟨_, _, _, he, hb⟩
  have HV := Lib.hid (rdV_no (s := s.data.toList) (by unfold rdO; rw [h]))
  clear h ht hev hev2
  go_enter Tryz.func100, Tryz.ntmps100
  go_wp2_with fail
  refine HA.out.mono ?_
  rintro e w1 ⟨k, t, p, rfl, hb1⟩
  have HB := Lib.hid hb1
  clear hb1
  go_wp2
  exact bodyPost_ret (v := .tuple #[.int .i64 0, .bool false]) (by simp [results, Tryz.results100, go_sem]) rfl ⟨by rw [HV.out], HB.out⟩
end Go.Proofs.YtohgjfdbnkjefaaGreatDoor
namespace Go.Proofs.YtohgjfdbnkjefaaGreatDoor
open Go.ChangeShapes Go.WideShapes Go.ChangeAt Go.RowKit
set_option maxRecDepth 100000
set_option linter.unusedVariables false
abbrev laidL : List (String × DataW Unit) := [("math/bits.deBruijn32tab", Rows.laid_math_bits_deBruijn32tab), ("math/bits.deBruijn64tab", Rows.laid_math_bits_deBruijn64tab), ("internal/strconv.uint64pow10", Rows.laid_internal_strconv_uint64pow10), ("unicode/utf8.acceptRanges", Rows.laid_unicode_utf8_acceptRanges), ("strconv.ErrRange", Rows.laid_strconv_ErrRange), ("strconv.ErrSyntax", Rows.laid_strconv_ErrSyntax), ("unicode/utf8.first", Rows.laid_unicode_utf8_first)]
theorem start_met (os : Os) (args : Array Value) : laidMetH Tryz.prog laidL ((World.laidAll Tryz.prog os laidL).forCall (fun _ _ => 0) ⟨#[], args, []⟩).memory := by
 rw [MakeChecks.laidMetH_plain _ _ _ (by kernel_rfl)]; exact laidMet_laidAll _ (by kernel_rfl) (by kernel_rfl)
theorem start_shaped (os : Os) : (World.laidAll Tryz.prog os laidL).Shaped Tryz.prog := World.shaped_of_ZipB (by kernel_rfl) (by kernel_rfl)
theorem pow_data : (Rows.laid_internal_strconv_uint64pow10 : DataW Unit) = Lib.tabData .u64 Lib.pow10Tab := by kernel_rfl
theorem star_err : "*" ++ "errors.errorString" = "*errors.errorString" := by decide
theorem row_err (u : TypeId) (h : Tryz.prog.typeName? 3 u = some "*errors.errorString") : u = 273 :=
 typeName_ptr_named (nm := "errors.errorString") (by rw [star_err]; kernel_rfl) (by kernel_rfl) (by decide) u (by rw [star_err]; exact h)
theorem tabC_of {W : World} (h : laidMetH Tryz.prog laidL W) (hsh : W.ShapedOpen Tryz.prog) : TabC W := by
 rw [MakeChecks.laidMetH_plain _ _ _ (by kernel_rfl)] at h
 have h2 := laidMet.tail (laidMet.tail h)
 have h4 := laidMet.tail (laidMet.tail h2)
 have h5 := laidMet.tail h4
 rw [pow_data] at h2
 have hp : Tab W := Lib.tabIs_of_head (g := 3) (t := 264) (e := 81) (n := 20) (by kernel_rfl) (by kernel_rfl) (by kernel_rfl) (by kernel_rfl) (by kernel_rfl) (by kernel_rfl) h2
 obtain ⟨m, hm⟩ := cell_of_shapedOpen_int (P := Tryz.prog) (g := 0) (t := 3) (zero := #[.int .i64 0]) hsh (of_decide_eq_true (by kernel_rfl)) (by kernel_rfl) rfl (by kernel_rfl) (by kernel_rfl) Tryz.underlying3
 obtain ⟨a1, s1, hv1, _, _, _⟩ := laid_sentinel (g := 2) h4 (by kernel_rfl) (by kernel_rfl) Tryz.underlying152 row_err Tryz.underlying273 Tryz.underlying275 rfl rfl Tryz.underlying9 (by kernel_rfl) (by kernel_rfl)
 obtain ⟨a2, s2, hv2, _, _, _⟩ := laid_sentinel (g := 1) h5 (by kernel_rfl) (by kernel_rfl) Tryz.underlying152 row_err Tryz.underlying273 Tryz.underlying275 rfl rfl Tryz.underlying9 (by kernel_rfl) (by kernel_rfl)
 exact ⟨hp, ⟨m, hm⟩, ⟨_, World.var?_cell (g := 1) (by kernel_rfl) hv2 0, .inr ⟨_, _, rfl⟩⟩, ⟨_, World.var?_cell (g := 2) (by kernel_rfl) hv1 0, .inr ⟨_, _, rfl⟩⟩⟩
section
variable {H : Type} {enc : TypeId × Value → H}
theorem handed_both {a : Assume} {C : Checked} {os : Os} {f : FuncId} {fn : Func} {s : ChangeSpec} {conds : List PathCond} {apart fresh handsOn again : Bool} {X : World → Array Value → Prop}
 (hX : ∀ (w w' : World) (args : Array Value), w.heap = w'.heap → X w args → X w' args)
 (own : ownKnob C.prog.godebug = none) (started : os.Started) (noInit : C.prog.inits.idxOf? f = none) (hfn : C.prog.funcs[f]? = some fn)
 (witness : ∃ (w : World) (tape : Tape) (i : Input), w.os = os ∧ (w.forCall tape i).Shaped C.prog ∧ i.vars = [] ∧ Input.okWide C.prog (w.forCall tape i) .any w.heap.size f i ∧
  ((s.pre enc C.prog fn conds apart (w.forCall tape i).memory i.args ∧ X (w.forCall tape i).memory i.args) ∧ sizedMet enc C.prog fn (OpenSpec.ofChange s) apart (w.forCall tape i).memory i.args) ∧ a.holds C.prog (lone (Frame.enter C.prog f i.args .normal) [] (w.forCall tape i)))
 (contract : ∀ (W : World) (base : Nat) (args : Array Value) (ds gs : List (DataW H)) (before : List MemPlace),
  (∀ (j : Nat) t v, fn.params[j]? = some t → args[j]? = some v → Value.okWide C.prog W .any base t v) →
  DataW.Whole enc C.prog fn.params.toList s.vars apart W args.toList ds gs before →
  conds.all (PathCond.test C.prog ⟨fn.params.toList, ds, s.plain.varTypes C.prog, gs⟩) = true →
  X W args → W.ShapedOpen C.prog →
  Calls C.prog f args W fun e W' => ∃ v, e = .returned v ∧ s.post enc C.prog fn apart fresh handsOn again W args v W') :
 ReturnsInHanded a C os f .any (fun w args => (s.pre enc C.prog fn conds apart w args ∧ X w args) ∧ sizedMet enc C.prog fn (OpenSpec.ofChange s) apart w args) (s.post enc C.prog fn apart fresh handsOn again) := by
 refine returnsInHanded_of_calls own started noInit witness ?_
 rintro w tape i _ hshape _ ⟨_, _, _, fn', hfn', _, _, _, _, hval⟩ ⟨⟨⟨ds, gs, before, hw, hc⟩, hx⟩, _⟩ _
 obtain rfl : fn' = fn := Option.some.inj (hfn'.symm.trans hfn)
 refine (contract (w.forCall tape i) w.heap.size i.args ds gs before hval (DataW.Whole.of_heap (w' := w.forCall tape i) (by rfl) hw) hc (hX _ _ _ (by rfl) hx) hshape).mono ?_
 rintro e W' ⟨v, rfl, hp⟩
 exact ChangeSpec.post_blind hp
end
end Go.Proofs.YtohgjfdbnkjefaaGreatDoor
namespace Go.Proofs.YtohgjfdbnkjefaaGreatDoor
open Go.RowKit
set_option linter.unusedVariables false
def firstAt {α : Type} (p : α → Bool) (xs : List α) : Int := match xs.findIdx? p with | some i => (i : Int) | none => -1
theorem firstAt_none {α : Type} {p : α → Bool} {xs : List α} {k : Nat} (hk : xs.length ≤ k) (h : ∀ j x, j < k → xs[j]? = some x → p x = false) : firstAt p xs = -1 := by
 have : xs.findIdx? p = none := by
  rw [List.findIdx?_eq_none_iff]; intro x hx
  obtain ⟨j, hj⟩ := List.mem_iff_getElem?.1 hx
  exact h j x (Nat.lt_of_lt_of_le (List.getElem?_eq_some_iff.1 hj).1 hk) hj
 simp [firstAt, this]
theorem firstAt_some {α : Type} {p : α → Bool} {xs : List α} {k : Nat} {x : α} (hx : xs[k]? = some x) (hp : p x = true) (h : ∀ j x, j < k → xs[j]? = some x → p x = false) : firstAt p xs = k := by
 have : xs.findIdx? p = some k := by
  rw [List.findIdx?_eq_some_iff_getElem]
  obtain ⟨hl, he⟩ := List.getElem?_eq_some_iff.1 hx
  refine ⟨hl, by rw [he]; exact hp, fun j hj => ?_⟩
  have := h j xs[j] hj (List.getElem?_eq_getElem (by omega))
  simp [this]
 simp [firstAt, this]
def CallsIt (fn : Nat) : Prop := ∀ (bs : Array Value) (w : World), (callFunc fn bs).run Tryz.prog w = .ok (.enter fn bs) w
theorem IndexFuncInt_c (v : Value) (xs : List Int) (fn : Nat) (cap : Array Value) (p : Int → Bool) (w : World) (hv : Ints w v xs) (hf : CallsIt fn)
 (hp : ∀ (x : Int) (w' : World), x ∈ xs → Below w.heap.size w w' → Calls Tryz.prog fn (#[.int .i64 x] ++ cap) w' fun e w'' => e = .returned (.bool (p x)) ∧ Below w'.heap.size w' w'') :
 Calls Tryz.prog 205 #[v, .func (.func fn) #[] cap] w fun e w' => e = .returned (.int .i64 (firstAt p xs)) ∧ Below w.heap.size w w' := by
 obtain ⟨a, c, rfl, hc1, hc2, HC⟩ := hv.parts
 have hf' : ∀ (bs : Array Value) (w : World), (callFunc fn bs).run Tryz.prog w = .ok (.enter fn bs) w := hf
 go_enter Tryz.func205, Tryz.ntmps205
 go_wp2
 go_loopw [8] (fun i wr => ∃ k : Nat, k ≤ xs.length ∧ i = .int .i64 k ∧ Hid (∀ j x, j < k → xs[j]? = some x → p x = false) ∧ Below w.heap.size w wr) (fun i _ => xs.length - (intOf i).toNat)
 case atStart => exact ⟨0, by omega, rfl, fun j x hj => by omega, Below.refl _ _⟩
 case round =>
  obtain ⟨k, hk, rfl, hbef, hb⟩ := hrel
  have hlen := hv.le
  by_cases hlt : k < xs.length
  · obtain ⟨x, hx⟩ := elem_at hlt
    obtain ⟨b, off, rfl, g0⟩ := HC.out k x hx.out
    have hblt : b < w.heap.size := World.block_lt_of_cell? w _ g0
    have g1 : wr.cell? ⟨b, off + k, none⟩ = some (.int .i64 x) := ((bcell hb).1 _ _ hblt).trans g0
    clear g0
    go_wp2_with fail
    refine (hp x _ (List.mem_of_getElem? hx.out) hb).mono ?_
    rintro e w1 ⟨rfl, hb1⟩
    have hb2 : Below w.heap.size w w1 := hb.trans (hb1.mono hb.size)
    rcases hpx : p x with _ | _
    · have HP := Lib.hid hpx; clear hpx
      go_wp2
      go_roundw
      case rel => exact ⟨k + 1, by omega, by go_num, fun j y hj hy => by
       by_cases hj2 : j < k
       · exact hbef.out j y hj2 hy
       · obtain rfl : j = k := by omega
         rw [hx.out] at hy; obtain rfl := Option.some.inj hy; exact HP.out, hb2⟩
      case measure => simp [intOf]; omega
    · have HP := Lib.hid hpx; clear hpx
      go_wp2
      go_ret
      exact ⟨int_ret (firstAt_some hx.out HP.out hbef.out).symm, hb2⟩
  · go_wp2
    go_ret
    exact ⟨int_ret (firstAt_none (by omega) hbef.out).symm, hb⟩
theorem ContainsFuncInt_c (v : Value) (xs : List Int) (fn : Nat) (cap : Array Value) (p : Int → Bool) (w : World) (hv : Ints w v xs) (hf : CallsIt fn)
 (hp : ∀ (x : Int) (w' : World), x ∈ xs → Below w.heap.size w w' → Calls Tryz.prog fn (#[.int .i64 x] ++ cap) w' fun e w'' => e = .returned (.bool (p x)) ∧ Below w'.heap.size w' w'') :
 Calls Tryz.prog 158 #[v, .func (.func fn) #[] cap] w fun e w' => e = .returned (.bool (decide (0 ≤ firstAt p xs))) ∧ Below w.heap.size w w' := by
 go_enter Tryz.func158, Tryz.ntmps158
 go_wp2_with fail
 refine (IndexFuncInt_c v xs fn cap p w hv hf hp).mono ?_
 rintro e w' ⟨rfl, hb⟩
 go_wp2
 go_ret
 exact ⟨bool_ret (by simp), hb⟩
theorem firstAt_not_all {xs : List Int} {p : Int → Bool} : (decide (0 ≤ firstAt (fun x => !p x) xs)) = !(xs.all p) := by
 unfold firstAt
 cases h : xs.findIdx? (fun x => !p x) with
 | none => rw [List.findIdx?_eq_none_iff] at h; simp; exact fun x hx => by simpa using h x hx
 | some i =>
  rw [List.findIdx?_eq_some_iff_getElem] at h; obtain ⟨hl, h1, _⟩ := h
  simp; exact ⟨xs[i], List.getElem_mem hl, by simpa using h1⟩
theorem areAllInt_c (v : Value) (xs : List Int) (fn : Nat) (p : Int → Bool) (w : World) (hv : Ints w v xs) (hf : CallsIt fn)
 (hp : ∀ (x : Int) (w' : World), Calls Tryz.prog fn #[.int .i64 x] w' fun e w'' => e = .returned (.bool (p x)) ∧ w' = w'') :
 Calls Tryz.prog 109 #[v, .func (.func fn) #[] #[]] w fun e w' => e = .returned (.bool (xs.all p)) ∧ Below w.heap.size w w' := by
 go_enter Tryz.func109, Tryz.ntmps109
 go_wp2_with fail
 refine (ContainsFuncInt_c v xs 159 #[.pointer (some ⟨w.heap.size, 0, none⟩)] (fun x => !p x) _ (hv.below (below_one _)) (fun _ _ => by kernel_rfl) ?_).mono ?_
 · intro x w' _ hb
   have hc : w'.cell? ⟨w.heap.size, 0, none⟩ = some (.func (.func fn) #[] #[]) := by
    rw [(bcell hb).1 _ _ (by simp), World.cell?_alloc_at _ _ _ _ rfl]; rfl
   have hf' : ∀ (bs : Array Value) (w : World), (callFunc fn bs).run Tryz.prog w = .ok (.enter fn bs) w := hf
   go_enter Tryz.func159, Tryz.ntmps159
   go_wp2_with fail
   refine (hp x w').mono ?_
   rintro e w'' ⟨rfl, rfl⟩
   go_wp2
   go_ret
   exact ⟨rfl, Below.refl _ _⟩
 · rintro e w' ⟨rfl, hb⟩
   go_wp2
   go_ret
   exact ⟨bool_ret (by rw [firstAt_not_all]; simp), (below_one _).trans (hb.mono (by simp))⟩
set_option linter.unusedSimpArgs false
def digO (c : Int) : Option Nat := (List.range 10).find? fun (d : Nat) => dg (d : Int) == c
def numSt (o : Option Nat) (c : Int) : Option Nat := match o with
 | none => none
 | some n => (digO c).map fun d => 10 * n + d
def numTo (r : List Int) : Option Nat := r.foldl numSt (some 0)
def numO (r : List Int) : Option Nat := if r = [] then none else numTo r
theorem numTo_snoc (r : List Int) (c : Int) : numTo (r ++ [c]) = numSt (numTo r) c := by unfold numTo; rw [List.foldl_append]; rfl
theorem numSt_none (r : List Int) : r.foldl numSt none = none := by
 induction r with
 | nil => rfl
 | cons x t ih => simp only [List.foldl_cons]; exact ih
theorem numTo_stop {r t : List Int} (h : numTo r = none) : numTo (r ++ t) = none := by
 unfold numTo at *
 rw [List.foldl_append, h]; exact numSt_none t
theorem digO_lt {c : Int} {d : Nat} (h : digO c = some d) : d < 10 := by
 unfold digO at h
 have := List.mem_of_find?_eq_some h
 simpa using this
theorem numTo_lt (r : List Int) (n : Nat) (h : numTo r = some n) : n < 10 ^ r.length := by
 have key : ∀ (k : Nat) (r : List Int), r.length = k → ∀ n, numTo r = some n → n < 10 ^ r.length := by
  intro k
  induction k with
  | zero =>
   intro r hr n hn
   have : r = [] := List.eq_nil_of_length_eq_zero hr
   subst this
   obtain rfl : 0 = n := Option.some.inj hn
   decide
  | succ k ih =>
   intro r hr n hn
   rcases List.eq_nil_or_concat r with rfl | ⟨t, x, rfl⟩
   · simp at hr
   · rw [List.concat_eq_append] at hn hr ⊢
     rw [List.length_append] at hr
     rw [numTo_snoc] at hn
     cases ht : numTo t with
     | none => rw [ht] at hn; cases hn
     | some m =>
      rw [ht] at hn
      have h1 := ih t (by simpa using hr) m ht
      cases hx : digO x with
      | none => simp [numSt, hx] at hn
      | some d =>
       simp only [numSt, hx, Option.map_some, Option.some.injEq] at hn
       have := digO_lt hx
       rw [List.length_append, List.length_cons, List.length_nil, Nat.pow_succ]; omega
 exact key r.length r rfl n h
def dgI (c : Int) : Int := match digO c with
 | some d => (d : Int)
 | none => -1
def yesT (b : Bool) : Bs := if b then [121, 101, 115] else [110, 111]
def partT (a b : Nat) : Bs := Lib.decDigits a ++ 47 :: Lib.decDigits b
def farC (c : Int) (i : Nat) : Nat := (cnt (((dg (i : Int)).toNat ^^^ c.toNat : Nat) : Int)).toNat
def leastC (c : Int) : Nat → Nat
 | 0 => 8
 | k + 1 => min (leastC c k) (farC c k)
def nearTo (c : Int) (k : Nat) : List Int := ((List.range k).filter fun i => farC c i == leastC c 10).map fun (i : Nat) => (i : Int)
def nearL (c : Int) : List Int := nearTo c 10
set_option maxRecDepth 100000
def tenI : List Int := [0, 1, 2, 3, 4, 5, 6, 7, 8, 9]
theorem tenI_fin : ∀ k : Fin 10, tenI[k.1]? = some (k.1 : Int) := by decide
theorem tenI_at {k : Nat} (h : k < 10) : tenI[k]? = some (k : Int) := tenI_fin ⟨k, h⟩
def digTo (d l c : Int) (n : Nat) : List Int := (tenI.take n).filter fun x => shC d l (dg x) == c
def digL (d l c : Int) : List Int := tenI.filter fun x => shC d l (dg x) == c
theorem digTo_all (d l c : Int) : digTo d l c 10 = digL d l c := rfl
theorem digTo_le (d l c : Int) (n : Nat) : (digTo d l c n).length ≤ 10 := Nat.le_trans (List.length_filter_le _ _) (by rw [List.length_take]; simp [tenI]; omega)
theorem digL_le (d l c : Int) : (digL d l c).length ≤ 10 := Nat.le_trans (List.length_filter_le _ _) (by simp [tenI])
theorem digTo_succ (d l c : Int) {n : Nat} (h : n < 10) : digTo d l c (n + 1) = digTo d l c n ++ if shC d l (dg n) == c then [(n : Int)] else [] := by
 unfold digTo
 rw [take_snoc (tenI_at h), List.filter_append]
 cases hq : (shC d l (dg n) == c) <;> simp [hq]
theorem ints_snoc (xs : List Int) (x : Int) : (xs ++ [x]).map (Value.int .i64) = xs.map (Value.int .i64) ++ [.int .i64 x] := by simp
theorem digits_c (d l c : Int) (w : World) (d0 : 0 ≤ d) (d1 : d ≤ 127) (l0 : 0 ≤ l) (l1 : l ≤ 127) :
 Calls Tryz.prog 115 #[.agg #[.int .i64 d, .int .i64 l], .int .i64 c] w fun e w' => ∃ u, e = .returned u ∧ w'.ownsRow w.heap.size 3 1 u (digL d l c).length ((digL d l c).map (Value.int .i64)) ∧ Below w.heap.size w w' := by
 obtain ⟨i, hi, hz0, hz1, hz2⟩ := info_parts info_int
 have q0 : (w.alloc (.cells #[.int .i64 d, .int .i64 l] 46)).cell? ⟨w.heap.size, 0, none⟩ = some (.int .i64 d) := by rw [World.cell?_alloc_at _ _ _ _ rfl]; rfl
 have q1 : (w.alloc (.cells #[.int .i64 d, .int .i64 l] 46)).cell? ⟨w.heap.size, 1, none⟩ = some (.int .i64 l) := by rw [World.cell?_alloc_at _ _ _ _ rfl]; rfl
 have hb0 := below_one (w := w) (.cells #[.int .i64 d, .int .i64 l] 46)
 go_enter Tryz.func115, Tryz.ntmps115
 go_wp2_with fail
 refine (digitCells_c _).mono ?_
 rintro e w1 ⟨rfl, hb1⟩
 have r0 := cell_later hb1 q0
 have r1 := cell_later hb1 q1
 have hb2 := Below.chain hb0 hb1
 clear q0 q1 hb0 hb1
 go_wp2
 go_loopw [5, 6, 7, 9] (fun o _ _ j wr => ∃ k : Nat, k ≤ 10 ∧ j = .int .i64 (k : Int) ∧ wr.ownsRow (w.heap.size + 1) 3 1 o (digTo d l c k).length ((digTo d l c k).map (Value.int .i64)) ∧ Below w.heap.size w wr ∧ w.heap.size + 1 ≤ wr.heap.size ∧ wr.cell? ⟨w.heap.size, 0, none⟩ = some (.int .i64 d) ∧ wr.cell? ⟨w.heap.size, 1, none⟩ = some (.int .i64 l)) (fun _ _ _ j _ => 11 - (intOf j).toNat)
 case atStart => exact ⟨0, by omega, rfl, World.ownsRow_nil _ _ _ _, hb2, World.block_lt_of_cell? _ _ r0, r0, r1⟩
 case round =>
  obtain ⟨k, hk, rfl, ho, hb, hsz, g0, g1⟩ := hrel
  clear r0 r1 hb2
  by_cases hlt : k < 10
  · have hd : decide ((k : Int) < 10) = true := by simp; omega
    have hix := fun w => index_dig (k : Int) (by omega) (by omega) w
    have bdx := dg_bd (k : Int)
    have hsc := digTo_succ d l c hlt
    have hle := digTo_le d l c k
    generalize digTo d l c k = cur at *
    have HS := Lib.hid hsc; clear hsc
    go_wp2_with fail
    refine (shown_c d l (dg k) d0 d1 l0 l1 bdx.1 bdx.2 _).mono ?_
    rintro e w2 ⟨rfl, hb3⟩
    have g02 := cell_later hb3 g0
    have g12 := cell_later hb3 g1
    have hb4 := Below.chain hb hb3
    have ho2 := own_keep ho hb3
    have hsz2 := Nat.le_trans hsz hb3.size
    clear g0 g1 hb hb3 ho hsz hix
    rcases hq : (shC d l (dg (k : Int)) == c) with _ | _
    · have hS2 : digTo d l c (k + 1) = cur := by rw [HS.out]; simp [hq]
      have HS2 := Lib.hid hS2; clear hS2 HS
      go_wp2
      go_roundw
      case rel => exact ⟨k + 1, by omega, by go_num, by rw [HS2.out]; exact ho2, hb4, hsz2, g02, g12⟩
      case measure => simp [intOf]; omega
    · have hS2 : digTo d l c (k + 1) = cur ++ [(k : Int)] := by rw [HS.out]; simp [hq]
      have HS2 := Lib.hid hS2; clear hS2 HS
      go_wp2_with (at_builtin; refine wpList_append_own_at _ rfl _ _ 37 rfl (w.heap.size + 1) 3 i (.int .i64 0) 1 8 Tryz.underlying37 hi hz0 hz1 hz2 rfl (by decide) _ cur.length (cur.map (Value.int .i64)) rfl (ho2.alloc _) ⟨w2.heap.size, 0, none⟩ 1 1 [.int .i64 k] rfl rfl (news_new _ [.int .i64 k] _) (by simp [Value.oneCell']) (by unfold maxLen; omega) (by omega) (by simp; omega) ?_)
      intro v' w3 ho5 hg5 _ _
      have hlt2 := World.block_lt_of_cell? _ _ g02
      have hb7 : Below w.heap.size w w3 := (Below.alc hb4 _).grown hg5 (by have := hb4.size; simp; omega) (fun g hg => by have := (ho2.lt g hg).1; omega)
      have hkeep : ∀ o v, w2.cell? ⟨w.heap.size, o, none⟩ = some v → w3.cell? ⟨w.heap.size, o, none⟩ = some v := fun o v h =>
       hg5.cell (cell_later (below_one _) h) (fun e => by have := (ho2.lt _ e.symm).1; simp at this; omega)
      have g03 := hkeep _ _ g02
      have g13 := hkeep _ _ g12
      have hsz3 : w.heap.size + 1 ≤ w3.heap.size := Nat.le_trans (by simp; omega) hg5.size
      clear ho2 hb4 hg5 g02 g12 hkeep hlt2 hsz2
      go_wp2
      go_roundw
      case rel => exact ⟨k + 1, by omega, by go_num, by rw [HS2.out]; exact ownsRow_cast ho5 (by simp) (ints_snoc _ _).symm, hb7, hsz3, g03, g13⟩
      case measure => simp [intOf]; omega
  · obtain rfl : k = 10 := by omega
    go_wp2
    go_ret
    exact ⟨_, rfl, by rw [← digTo_all]; exact own_lo ho (by omega), hb⟩
abbrev ints (xs : List Int) : List Value := xs.map (Value.int .i64)
def Inn (w : World) (lo : Nat) (vs : List Value) (xss : List (List Int)) : Prop :=
 vs.length = xss.length ∧ (∀ (k : Nat) (v : Value) (xs : List Int), vs[k]? = some v → xss[k]? = some xs → w.ownsRow lo 3 1 v xs.length (ints xs)) ∧
 (∀ (i j : Nat) (a b : Value), i < j → vs[i]? = some a → vs[j]? = some b → b.ownBlock = none ∨ b.ownBlock ≠ a.ownBlock)
def OwnSS (w : World) (lo : Nat) (u : Value) (xss : List (List Int)) : Prop :=
 ∃ vs, w.ownsRow lo 37 1 u xss.length vs ∧ Inn w lo vs xss
theorem own_ne_type {w : World} {lo lo' size size' n n' : Nat} {e e' : TypeId} {v v' : Value} {xs xs' : List Value} (h : w.ownsRow lo e size v n xs) (h' : w.ownsRow lo' e' size' v' n' xs') (hne : e ≠ e') : v.ownBlock = none ∨ v.ownBlock ≠ v'.ownBlock := by
 rcases h.2 with ⟨rfl, _⟩ | ⟨g, c, cur, rfl, _, hg, _⟩
 · exact .inl rfl
 · rcases h'.2 with ⟨rfl, _⟩ | ⟨g', c', cur', rfl, _, hg', _⟩
   · right; simp [Value.ownBlock]
   · right
     intro e0
     simp [Value.ownBlock] at e0
     subst e0
     rw [hg] at hg'
     injection hg' with h1; injection h1 with _ h2; exact hne h2
theorem Inn.nil_ (w : World) (lo : Nat) : Inn w lo [] [] := ⟨rfl, fun k v xs h => by simp at h, fun i j a b _ h => by simp at h⟩
theorem Inn.keep {w w' : World} {lo : Nat} {vs : List Value} {xss : List (List Int)} (h : Inn w lo vs xss) (hb : Below w.heap.size w w') : Inn w' lo vs xss :=
 ⟨h.1, fun k v xs h1 h2 => own_keep (h.2.1 k v xs h1 h2) hb, h.2.2⟩
theorem Inn.grown {w w' : World} {lo lo' size n : Nat} {e : TypeId} {u : Value} {us : List Value} {vs : List Value} {xss : List (List Int)} (h : Inn w lo vs xss) (ho : w.ownsRow lo' e size u n us) (hne : (3 : Nat) ≠ e) (hg : w.grownBy w' u.ownBlock) : Inn w' lo vs xss :=
 ⟨h.1, fun k v xs h1 h2 => (h.2.1 k v xs h1 h2).kept hg (own_ne_type (h.2.1 k v xs h1 h2) ho hne), h.2.2⟩
theorem Inn.snoc {w : World} {lo lo2 : Nat} {vs : List Value} {xss : List (List Int)} {v : Value} {xs : List Int} (h : Inn w lo vs xss) (hv : w.ownsRow lo2 3 1 v xs.length (ints xs)) (hl : lo ≤ lo2)
 (hnew : ∀ (k : Nat) (a : Value), vs[k]? = some a → ∀ g, a.ownBlock = some g → g < lo2) : Inn w lo (vs ++ [v]) (xss ++ [xs]) := by
 refine ⟨by simp [h.1], fun k a ys h1 h2 => ?_, fun i j a b hij h1 h2 => ?_⟩
 · by_cases hk : k < vs.length
   · rw [List.getElem?_append_left hk] at h1
     rw [List.getElem?_append_left (by rw [← h.1]; exact hk)] at h2
     exact h.2.1 k a ys h1 h2
   · rw [List.getElem?_append_right (by omega)] at h1
     rw [List.getElem?_append_right (by rw [← h.1]; omega)] at h2
     have hk0 : k - vs.length = 0 := by
      by_cases hz : k - vs.length = 0
      · exact hz
      · rw [List.getElem?_eq_none (by simp; omega)] at h1; cases h1
     have hk1 : k - xss.length = 0 := by rw [← h.1]; exact hk0
     rw [hk0] at h1; rw [hk1] at h2
     simp at h1 h2
     subst h1 h2
     exact own_lo hv hl
 · by_cases hj : j < vs.length
   · rw [List.getElem?_append_left (by omega)] at h1
     rw [List.getElem?_append_left hj] at h2
     exact h.2.2 i j a b hij h1 h2
   · rw [List.getElem?_append_right (by omega)] at h2
     have hj0 : j - vs.length = 0 := by
      by_cases hz : j - vs.length = 0
      · exact hz
      · rw [List.getElem?_eq_none (by simp; omega)] at h2; cases h2
     rw [hj0] at h2; simp at h2; subst h2
     rw [List.getElem?_append_left (by omega)] at h1
     cases hb : v.ownBlock with
     | none => exact .inl rfl
     | some g =>
      right; intro e
      have h3 := (hv.lt g hb).1
      have h4 := hnew i a h1 g e.symm
      omega
theorem Inn.lt {w : World} {lo : Nat} {vs : List Value} {xss : List (List Int)} (h : Inn w lo vs xss) : ∀ (k : Nat) (a : Value), vs[k]? = some a → ∀ g, a.ownBlock = some g → g < w.heap.size := by
 intro k a ha g hg
 have hk : k < xss.length := by rw [← h.1]; exact (List.getElem?_eq_some_iff.1 ha).1
 exact ((h.2.1 k a _ ha (List.getElem?_eq_getElem hk)).lt g hg).2
/-! the groups -/
def grpOf (d l x : Int) : List Int := digL d l (shC d l (dg x))
def isHead (d l x : Int) : Bool := (grpOf d l x).headD (-1) == x
def grpTo (d l : Int) (n : Nat) : List (List Int) := ((tenI.take n).filter (isHead d l)).map (grpOf d l)
def grpL (d l : Int) : List (List Int) := grpTo d l 10
theorem grpTo_le (d l : Int) (n : Nat) : (grpTo d l n).length ≤ 10 := by
 unfold grpTo
 rw [List.length_map]
 exact Nat.le_trans (List.length_filter_le _ _) (by rw [List.length_take]; simp [tenI]; omega)
theorem grpTo_succ (d l : Int) {n : Nat} (h : n < 10) : grpTo d l (n + 1) = grpTo d l n ++ if isHead d l n then [grpOf d l n] else [] := by
 unfold grpTo
 rw [take_snoc (tenI_at h), List.filter_append, List.map_append]
 cases hq : isHead d l n <;> simp [hq]
theorem grpOf_head {d l : Int} {n : Nat} (h : n < 10) : (grpOf d l n)[0]? = some ((grpOf d l n).headD (-1)) := by
 have hm : (n : Int) ∈ grpOf d l n := by
  unfold grpOf digL
  rw [List.mem_filter]
  exact ⟨List.mem_of_getElem? (tenI_at h), by simp⟩
 cases hg : grpOf d l n with
 | nil => rw [hg] at hm; simp at hm
 | cons a t => simp
theorem info_ints : (Tryz.prog.info? 37).map (fun i => (i.zero, i.size, i.bytes)) = some (some (.slice none 0 0), 1, 24) := by kernel_rfl
theorem groups_c (d l : Int) (w : World) (d0 : 0 ≤ d) (d1 : d ≤ 127) (l0 : 0 ≤ l) (l1 : l ≤ 127) :
 Calls Tryz.prog 63 #[.agg #[.int .i64 d, .int .i64 l]] w fun e w' => ∃ u, e = .returned u ∧ OwnSS w' w.heap.size u (grpL d l) ∧ Below w.heap.size w w' := by
 obtain ⟨i, hi, hz0, hz1, hz2⟩ := info_parts info_ints
 have q0 : (w.alloc (.cells #[.int .i64 d, .int .i64 l] 46)).cell? ⟨w.heap.size, 0, none⟩ = some (.int .i64 d) := by rw [World.cell?_alloc_at _ _ _ _ rfl]; rfl
 have q1 : (w.alloc (.cells #[.int .i64 d, .int .i64 l] 46)).cell? ⟨w.heap.size, 1, none⟩ = some (.int .i64 l) := by rw [World.cell?_alloc_at _ _ _ _ rfl]; rfl
 have hb0 := below_one (w := w) (.cells #[.int .i64 d, .int .i64 l] 46)
 go_enter Tryz.func63, Tryz.ntmps63
 go_wp2_with fail
 refine (digitCells_c _).mono ?_
 rintro e w1 ⟨rfl, hb1⟩
 have r0 := cell_later hb1 q0
 have r1 := cell_later hb1 q1
 have hb2 := Below.chain hb0 hb1
 clear q0 q1 hb0 hb1
 go_wp2
 go_loopw [3, 4, 5, 6, 8] (fun o _ _ _ j wr => ∃ (k : Nat) (vs : List Value), k ≤ 10 ∧ j = .int .i64 (k : Int) ∧ wr.ownsRow (w.heap.size + 1) 37 1 o (grpTo d l k).length vs ∧ Inn wr (w.heap.size + 1) vs (grpTo d l k) ∧ Below w.heap.size w wr ∧ w.heap.size + 1 ≤ wr.heap.size ∧ wr.cell? ⟨w.heap.size, 0, none⟩ = some (.int .i64 d) ∧ wr.cell? ⟨w.heap.size, 1, none⟩ = some (.int .i64 l)) (fun _ _ _ _ j _ => 11 - (intOf j).toNat)
 case atStart => exact ⟨0, [], by omega, rfl, World.ownsRow_nil _ _ _ _, Inn.nil_ _ _, hb2, World.block_lt_of_cell? _ _ r0, r0, r1⟩
 case round =>
  obtain ⟨k, vs, hk, rfl, ho, hin, hb, hsz, g0, g1⟩ := hrel
  clear r0 r1 hb2
  by_cases hlt : k < 10
  · have hd : decide ((k : Int) < 10) = true := by simp; omega
    have hix := fun w => index_dig (k : Int) (by omega) (by omega) w
    have bdx := dg_bd (k : Int)
    have hsc := grpTo_succ d l hlt
    have hle := grpTo_le d l k
    have hh := grpOf_head (d := d) (l := l) hlt
    generalize grpTo d l k = cur at *
    have HS := Lib.hid hsc; have HH := Lib.hid hh; clear hsc hh
    go_wp2_with fail
    go_region_held3 (fun w' => w'.cell? ⟨w.heap.size, 0, none⟩ = some (.int .i64 d) ∧ w'.cell? ⟨w.heap.size, 1, none⟩ = some (.int .i64 l))
     (first | go_keep | (go_split_ands; exact ⟨cell_later hb3 (by assumption), cell_later hb3 (by assumption)⟩) | (go_split_ands; exact ⟨cell_later hb4 (by assumption), cell_later hb4 (by assumption)⟩))
     (first | (go_at_call 108; refine (shown_c d l (dg k) d0 d1 l0 l1 bdx.1 bdx.2 _).mono ?_; rintro e w' ⟨rfl, hb3⟩) | (go_at_call 115; refine (digits_c d l (shC d l (dg k)) _ d0 d1 l0 l1).mono ?_; rintro e w'' ⟨ug, rfl, hog, hb4⟩))
    have g02 : w''.cell? ⟨w.heap.size, 0, none⟩ = some (.int .i64 d) := by go_split_ands; assumption
    have g12 : w''.cell? ⟨w.heap.size, 1, none⟩ = some (.int .i64 l) := by go_split_ands; assumption
    have hb34 : Below wr.heap.size wr w'' := Below.chain (Below.chain (Below.refl _ _).drew hb3) hb4
    have hsz3 : wr.heap.size ≤ w'.heap.size := hb3.size
    have hb5 := Below.chain hb hb34
    have ho2 := own_keep ho hb34
    have hin2 := hin.keep hb34
    have hsz2 := Nat.le_trans hsz hb34.size
    have hlt0 := hin.lt
    have hog2 : w''.ownsRow w'.heap.size 3 1 ug (grpOf d l k).length (ints (grpOf d l k)) := hog
    obtain ⟨a3, c3, hu3, hc3, hcm3, H3⟩ := (Ints.of_own hog2).parts
    obtain ⟨b3, o3, e3, g3⟩ := H3.out 0 _ HH.out
    subst hu3 e3
    simp only [Nat.add_zero] at g3
    have hpos : 0 < (grpOf d l (k : Int)).length := (List.getElem?_eq_some_iff.1 HH.out).1
    have hposI : (0 : Int) < ((grpOf d l (k : Int)).length : Int) := by omega
    clear hog ho hin hb hb3 hb4 hb34 g0 g1 H3 HH hix
    rcases hq : isHead d l (k : Int) with _ | _
    · have hqb : (((grpOf d l (k : Int)).headD (-1)) == (k : Int)) = false := hq
      have hS2 : grpTo d l (k + 1) = cur := by rw [HS.out]; simp [hq]
      have HS2 := Lib.hid hS2; clear hS2 HS hq
      generalize (grpOf d l (k : Int)).headD (-1) = hx at *
      go_wp2
      go_roundw
      case rel => exact ⟨k + 1, vs, by omega, by go_num, by rw [HS2.out]; exact ho2, by rw [HS2.out]; exact hin2, hb5, hsz2, g02, g12⟩
      case measure => simp [intOf]; omega
    · have hqb : (((grpOf d l (k : Int)).headD (-1)) == (k : Int)) = true := hq
      have hS2 : grpTo d l (k + 1) = cur ++ [grpOf d l k] := by rw [HS.out]; simp [hq]
      have HS2 := Lib.hid hS2; clear hS2 HS hq
      have hin3 := hin2.snoc hog2 (by omega) (fun k a ha g hg => Nat.lt_of_lt_of_le (hlt0 k a ha g hg) hsz3)
      generalize hG : (grpOf d l (k : Int)).headD (-1) = hx at *
      clear hG
      generalize grpOf d l (k : Int) = G at *
      go_wp2_with (at_builtin; refine wpList_append_own_at _ rfl _ _ 96 rfl (w.heap.size + 1) 37 i (.slice none 0 0) 1 24 Tryz.underlying96 hi hz0 hz1 hz2 rfl (by decide) _ cur.length vs rfl (ho2.alloc _) ⟨w''.heap.size, 0, none⟩ 1 1 [.slice (some ⟨b3, o3, none⟩) G.length c3] rfl rfl (news_new _ [.slice (some ⟨b3, o3, none⟩) G.length c3] _) (by simp [Value.oneCell']) (by unfold maxLen; omega) (by omega) (by simp; omega) ?_)
      intro v' w3 ho5 hg5 _ _
      have hlt2 := World.block_lt_of_cell? _ _ g02
      have hb7 : Below w.heap.size w w3 := (Below.alc hb5 _).grown hg5 (by have := hb5.size; simp; omega) (fun g hg => by have := (ho2.lt g hg).1; omega)
      have hkeep : ∀ o v, w''.cell? ⟨w.heap.size, o, none⟩ = some v → w3.cell? ⟨w.heap.size, o, none⟩ = some v := fun o v h =>
       hg5.cell (cell_later (below_one _) h) (fun e => by have := (ho2.lt _ e.symm).1; simp at this; omega)
      have g03 := hkeep _ _ g02
      have g13 := hkeep _ _ g12
      have hin5 : Inn w3 (w.heap.size + 1) (vs ++ [.slice (some ⟨b3, o3, none⟩) G.length c3]) (cur ++ [G]) := (hin3.keep (below_one _)).grown (ho2.alloc _) (by decide) hg5
      have hsz3' : w.heap.size + 1 ≤ w3.heap.size := Nat.le_trans (by simp; omega) hg5.size
      clear ho2 hb5 hg5 g02 g12 hkeep hlt2 hsz2 hin2 hin3 hog2 hlt0 g3
      go_wp2
      go_roundw
      case rel => exact ⟨k + 1, _, by omega, by go_num, by rw [HS2.out]; exact ownsRow_cast ho5 (by simp) rfl, by rw [HS2.out]; exact hin5, hb7, hsz3', g03, g13⟩
      case measure => simp [intOf]; omega
  · obtain rfl : k = 10 := by omega
    go_wp2
    go_ret
    exact ⟨_, rfl, ⟨vs, own_lo ho (by omega), ⟨hin.1, fun k v xs h1 h2 => own_lo (hin.2.1 k v xs h1 h2) (by omega), hin.2.2⟩⟩, hb⟩
theorem isHarmless_c (d l : Int) (w : World) (d0 : 0 ≤ d) (d1 : d ≤ 127) (l0 : 0 ≤ l) (l1 : l ≤ 127) :
 Calls Tryz.prog 200 #[.agg #[.int .i64 d, .int .i64 l]] w fun e w' => e = .returned (.bool (decide ((grpL d l).length = 10))) ∧ Below w.heap.size w w' := by
 go_enter Tryz.func200, Tryz.ntmps200
 go_wp2_with fail
 refine (groups_c d l _ d0 d1 l0 l1).mono ?_
 rintro e w1 ⟨u, rfl, ho, hb⟩
 obtain ⟨vs, hov, hin⟩ := ho
 obtain ⟨a, c, rfl, _⟩ := (Sl.of_own hov).slice
 go_wp2
 go_ret
 refine ⟨bool_ret ?_, by (repeat (first | exact Below.refl _ _ | exact (Below.refl _ _).drew | assumption | exact below_one _ | refine Below.chain ?_ (by assumption) | refine Below.drew ?_ | refine Below.alc ?_ _ | refine below_drewN ?_ | (refine Below.setCell ?_ ?_ _) | exact Nat.le_refl _ | (simp; done) | (simp; omega)))⟩
 rw [Bool.eq_iff_iff]; simp; omega
end Go.Proofs.YtohgjfdbnkjefaaGreatDoor
