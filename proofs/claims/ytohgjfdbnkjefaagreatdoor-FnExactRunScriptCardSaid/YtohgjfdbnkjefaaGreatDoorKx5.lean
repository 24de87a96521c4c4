/- Texts of this claim, gathered: Cwp, Cwn, Ones, Cwt, Cwr, LaidC, Cwq, State. -/
import Derived.Test.YtohgjfdbnkjefaaGreatDoorKx4
import Derived.Lib.AtoiAllCases
import Derived.Lib.SplitLaws
import Derived.Lib.IndexBytes
import Derived.Lib.Join
import Derived.Test.YtohgjfdbnkjefaaGreatDoorSf
import Derived.Test.YtohgjfdbnkjefaaGreatDoorRows
import Derived.ProofKit
import Derived.LaidMore
import Derived.OpenShut
import Derived.Stop.Joined
import Derived.MakeChecks
import Derived.Stop.LaidErr
import Derived.Shelf.Vars
import Derived.Lay
import Derived.Deep.RegionHeld3
namespace Go.Proofs.YtohgjfdbnkjefaaGreatDoor
set_option linter.unusedVariables false
set_option linter.unusedSimpArgs false
def stepD (n : Nat) (c : UInt8) : Nat := 10 * n + (c.toNat - 48)
def valD (l : Bs) : Nat := l.foldl stepD 0
theorem valD_snoc (l : Bs) (c : UInt8) : valD (l ++ [c]) = stepD (valD l) c := by unfold valD; rw [List.foldl_append]; rfl
theorem valD_dec : ∀ u : Nat, valD (Lib.decDigits u) = u := by
 intro u
 induction u using Nat.strongRecOn with
 | ind u ih =>
  rw [Lib.decDigits]
  split
  · rename_i h
    have : (UInt8.ofNat (48 + u)).toNat = 48 + u := by simp; omega
    show stepD 0 (UInt8.ofNat (48 + u)) = u
    unfold stepD; omega
  · rename_i h
    have : (UInt8.ofNat (48 + u % 10)).toNat = 48 + u % 10 := by simp; omega
    rw [valD_snoc, ih (u / 10) (by omega)]
    unfold stepD; omega
theorem valD_lt (l : Bs) (h : ∀ c ∈ l, 48 ≤ c.toNat ∧ c.toNat ≤ 57) : valD l < 10 ^ l.length := by
 refine snocB (M := fun l => (∀ c ∈ l, 48 ≤ c.toNat ∧ c.toNat ≤ 57) → valD l < 10 ^ l.length) (fun _ => by decide) (fun l x ih h => ?_) l h
 have h1 := ih (fun c hc => h c (by simp [hc]))
 have h2 := h x (by simp)
 rw [valD_snoc, List.length_append, List.length_cons, List.length_nil, Nat.pow_succ]
 unfold stepD; omega
theorem dec_len : ∀ (k u : Nat), u < 10 ^ (k + 1) → (Lib.decDigits u).length ≤ k + 1 := by
 intro k
 induction k with
 | zero => intro u h; rw [Lib.decDigits, dif_pos (by omega)]; simp
 | succ k ih =>
  intro u h
  rw [Lib.decDigits]
  split
  · simp
  · have := ih (u / 10) (by rw [Nat.pow_succ] at h; omega)
    rw [List.length_append]; simp; omega
theorem dec_ne (u : Nat) : Lib.decDigits u ≠ [] := by
 rw [Lib.decDigits]; split <;> simp
theorem parse_digits (l : Bs) (acc : Nat) (h : ∀ c ∈ l, 48 ≤ c.toNat ∧ c.toNat ≤ 57) (hb : acc * 10 ^ l.length + 10 ^ l.length ≤ 1000000000000) : Lib.parseUint10 acc l = .ok (l.foldl stepD acc) := by
 induction l generalizing acc with
 | nil => rfl
 | cons c t ih =>
  have hc := h c (by simp)
  simp only [List.length_cons, Nat.pow_succ] at hb
  have hp : 1 ≤ 10 ^ t.length := Nat.one_le_pow _ _ (by decide)
  have ha : acc * (10 ^ t.length * 10) = acc * 10 * 10 ^ t.length := by rw [Nat.mul_comm (10 ^ t.length) 10, Nat.mul_assoc]
  have hd : (acc * 10 + (c.toNat - 48)) * 10 ^ t.length ≤ acc * 10 * 10 ^ t.length + 9 * 10 ^ t.length := by
   rw [Nat.add_mul]
   exact Nat.add_le_add_left (Nat.mul_le_mul_right _ (by omega)) _
  have hacc : acc * 10 ≤ acc * 10 * 10 ^ t.length := Nat.le_mul_of_pos_right _ (by omega)
  rw [Lib.parseUint10, if_pos hc, if_neg (by omega), if_neg (by omega), ih _ (fun x hx => h x (by simp [hx])) (by omega)]
  simp only [List.foldl_cons]
  rw [show acc * 10 + (c.toNat - 48) = stepD acc c by unfold stepD; omega]
theorem mag_dec {u : Nat} (h : u ≤ 999999) : Lib.parseMag (Lib.decDigits u) = .ok u := by
 unfold Lib.parseMag
 rw [if_neg (dec_ne u)]
 have hl := dec_len 5 u (by omega)
 have hp : 10 ^ (Lib.decDigits u).length ≤ 10 ^ 6 := Nat.pow_le_pow_right (by decide) hl
 rw [parse_digits _ 0 (decDigits_digit u) (by omega)]
 exact congrArg Lib.NumEnd.ok (valD_dec u)
theorem atoi_itoa {v : Int} (h0 : -999999 ≤ v) (h1 : v ≤ 999999) : Lib.atoiAll (Lib.itoa v) = .ok v := by
 by_cases hn : v < 0
 · unfold Lib.itoa
   rw [if_pos hn, Lib.atoiAll_minus, mag_dec (by omega)]
   unfold Lib.signed
   simp only
   rw [if_neg (by omega)]
   congr 1; omega
 · unfold Lib.itoa
   rw [if_neg hn]
   have hm := mag_dec (u := v.toNat) (by omega)
   have hd := decDigits_digit v.toNat
   cases hl : Lib.decDigits v.toNat with
   | nil => exact absurd hl (dec_ne _)
   | cons c r =>
    rw [hl] at hm hd
    have hc := hd c (by simp)
    rw [Lib.atoiAll_plain c r (by omega) (by omega), hm]
    unfold Lib.signless
    simp only
    rw [if_neg (by omega)]
    congr 1; omega
def rdO (s : Bs) : Option Int := match Lib.atoiAll s with
 | .ok v => if -999999 ≤ v ∧ v ≤ 999999 ∧ Lib.itoa v = s then some v else none
 | _ => none
theorem rdO_iff (s : Bs) (v : Int) : rdO s = some v ↔ (-999999 ≤ v ∧ v ≤ 999999 ∧ Lib.itoa v = s) := by
 constructor
 · intro h
   unfold rdO at h
   split at h
   · split at h
     · rename_i h2
       obtain rfl := Option.some.inj h
       exact h2
     · cases h
   · cases h
 · rintro ⟨h0, h1, rfl⟩
   unfold rdO
   rw [atoi_itoa h0 h1]
   simp only
   rw [if_pos ⟨h0, h1, trivial⟩]
def rdT (s : Bs) : Bs := if 1 < s.length ∧ s.head? = some 45 then s.tail else s
def rdN (s : Bs) : Int := if (rdT s).length < s.length then -(valD (rdT s) : Int) else (valD (rdT s) : Int)
theorem rd_shape {s : Bs} {v : Int} (h : rdO s = some v) : 1 ≤ (rdT s).length ∧ (rdT s).length ≤ 6 ∧ (∀ c ∈ rdT s, 48 ≤ c.toNat ∧ c.toNat ≤ 57) ∧ rdN s = v := by
 obtain ⟨h0, h1, rfl⟩ := (rdO_iff s v).1 h
 by_cases hn : v < 0
 · have hs : Lib.itoa v = 45 :: Lib.decDigits v.natAbs := by unfold Lib.itoa; rw [if_pos hn]
   have hne := dec_ne v.natAbs
   have hl := dec_len 5 v.natAbs (by omega)
   have h1l : 1 ≤ (Lib.decDigits v.natAbs).length := List.length_pos_iff.2 hne
   have hT : rdT (Lib.itoa v) = Lib.decDigits v.natAbs := by
    unfold rdT
    rw [hs, if_pos ⟨by simp; omega, rfl⟩]; rfl
   refine ⟨by rw [hT]; exact h1l, by rw [hT]; exact hl, by rw [hT]; exact decDigits_digit _, ?_⟩
   unfold rdN
   rw [hT, hs, if_pos (by simp), valD_dec]; omega
 · have hs : Lib.itoa v = Lib.decDigits v.toNat := by unfold Lib.itoa; rw [if_neg hn]
   have hne := dec_ne v.toNat
   have hl := dec_len 5 v.toNat (by omega)
   have h1l : 1 ≤ (Lib.decDigits v.toNat).length := List.length_pos_iff.2 hne
   have hd := decDigits_digit v.toNat
   have hT : rdT (Lib.itoa v) = Lib.decDigits v.toNat := by
    unfold rdT
    rw [hs, if_neg]
    rintro ⟨_, h45⟩
    have := hd 45 (List.mem_of_mem_head? h45)
    exact absurd this.1 (by decide)
   refine ⟨by rw [hT]; exact h1l, by rw [hT]; exact hl, by rw [hT]; exact hd, ?_⟩
   unfold rdN
   rw [hT, hs, if_neg (by omega), valD_dec]; omega
theorem rd_bd {s : Bs} (h : (rdT s).length ≤ 6) (hd : ∀ c ∈ rdT s, 48 ≤ c.toNat ∧ c.toNat ≤ 57) : -999999 ≤ rdN s ∧ rdN s ≤ 999999 := by
 have h1 := valD_lt _ hd
 have h2 : 10 ^ (rdT s).length ≤ 10 ^ 6 := Nat.pow_le_pow_right (by decide) h
 unfold rdN; split <;> omega
theorem rd_yes {s : Bs} (h : (rdT s).length ≤ 6) (hd : ∀ c ∈ rdT s, 48 ≤ c.toNat ∧ c.toNat ≤ 57) (hi : Lib.itoa (rdN s) = s) : rdO s = some (rdN s) := by
 have := rd_bd h hd
 exact (rdO_iff s _).2 ⟨this.1, this.2, hi⟩
theorem rd_no {s : Bs} (h : ¬ (1 ≤ (rdT s).length ∧ (rdT s).length ≤ 6 ∧ (∀ c ∈ rdT s, 48 ≤ c.toNat ∧ c.toNat ≤ 57) ∧ Lib.itoa (rdN s) = s)) : rdO s = none := by
 cases hr : rdO s with
 | none => rfl
 | some v =>
  obtain ⟨h1, h2, h3, h4⟩ := rd_shape hr
  exact absurd ⟨h1, h2, h3, by rw [h4]; exact ((rdO_iff s v).1 hr).2.2⟩ h
theorem splSt_shift (c : UInt8) (s : Bs) (l : List Bs) (cur : Bs) : s.foldl (splStep c) (l, cur) = (l ++ (s.foldl (splStep c) ([], cur)).1, (s.foldl (splStep c) ([], cur)).2) := by
 induction s generalizing l cur with
 | nil => simp
 | cons x t ih =>
  simp only [List.foldl_cons]
  by_cases hx : x = c
  · have e : ∀ l : List Bs, splStep c (l, cur) x = (l ++ [cur], []) := fun l => by unfold splStep; rw [if_pos hx]
    rw [e, e, ih (l ++ [cur]) [], ih ([] ++ [cur]) []]; simp
  · have e : ∀ l : List Bs, splStep c (l, cur) x = (l, cur ++ [x]) := fun l => by unfold splStep; rw [if_neg hx]
    rw [e, e, ih l (cur ++ [x])]
theorem split_cons {c : UInt8} {a b : Bs} (h : c ∉ a) : splitS c (a ++ c :: b) = a :: splitS c b := by
 have h1 : splSt c (a ++ c :: b) = b.foldl (splStep c) ([a], []) := by
  have : splSt c (a ++ c :: b) = (c :: b).foldl (splStep c) (splSt c a) := by unfold splSt; rw [List.foldl_append]
  rw [this, splSt_none h]
  simp [splStep]
 unfold splitS
 rw [h1, splSt_shift]
 rfl
theorem lib_split (c : UInt8) : ∀ (n : Nat) (s : Bs), s.length ≤ n → Lib.splitK [c] 0 (Lib.count s [c]) s = splitS c s := by
 intro n
 induction n with
 | zero =>
  intro s h
  have : s = [] := List.eq_nil_of_length_eq_zero (by omega)
  subst this
  rfl
 | succ n ih =>
  intro s h
  rcases first_at s c with ⟨a, b, rfl, ha⟩ | hno
  · have hc : Lib.count (a ++ c :: b) [c] = Lib.count b [c] + 1 := by
     rw [Lib.count_one, Lib.count_one, List.count_append, List.count_eq_zero.2 ha, List.count_cons_self]; omega
    have hi : Lib.index (a ++ c :: b) [c] = a.length := by rw [Lib.index_one, indexByte_hit ha]
    rw [hc, Lib.splitK, if_neg (by rw [hi]; first | (simp; done) | (simp; omega)), hi]
    rw [List.length_append, List.length_cons] at h
    rw [Int.toNat_natCast, Nat.add_zero, List.take_left' rfl, split_cons ha]
    congr 1
    rw [show a ++ c :: b = (a ++ [c]) ++ b by simp, List.drop_left' (by simp)]
    exact ih b (by omega)
  · rw [Lib.count_one, List.count_eq_zero.2 hno, split_miss hno]; rfl
theorem join_cons2 (y z : Bs) (t : List Bs) (sep : Bs) : Lib.join (y :: z :: t) sep = y ++ sep ++ Lib.join (z :: t) sep := by simp [Lib.join, List.intercalate]
theorem join_nil (sep : Bs) : Lib.join [] sep = [] := rfl
theorem join_one' (x sep : Bs) : Lib.join [x] sep = x := by simp [Lib.join, List.intercalate]
theorem join_snoc (xs : List Bs) (x sep : Bs) (h : xs ≠ []) : Lib.join (xs ++ [x]) sep = Lib.join xs sep ++ sep ++ x := by
 induction xs with
 | nil => exact absurd rfl h
 | cons y t ih =>
  cases t with
  | nil => rw [List.cons_append, List.nil_append, join_cons2, join_one', join_one']
  | cons z u =>
   rw [List.cons_append, List.cons_append, join_cons2, join_cons2, ← List.cons_append, ih (by simp)]
   simp
def joinS (xs : List Bs) : Bs := Lib.join xs [32]
def listT (l : List Int) : Bs := if l = [] then [110, 111, 110, 101] else joinS (l.map Lib.itoa)
def barsTo (c : Int) (k : Nat) : Bs := (List.range k).filterMap fun i => if c.toNat / 2 ^ i % 2 = 1 then some (UInt8.ofNat (97 + i)) else none
theorem barsTo_succ (c : Int) (k : Nat) : barsTo c (k + 1) = barsTo c k ++ (if c.toNat / 2 ^ k % 2 = 1 then [UInt8.ofNat (97 + k)] else []) := by
 unfold barsTo
 rw [List.range_succ, List.filterMap_append]
 congr 1
 by_cases h : c.toNat / 2 ^ k % 2 = 1 <;> simp [h]
theorem barsTo_len (c : Int) (k : Nat) : (barsTo c k).length ≤ k := by
 unfold barsTo
 exact Nat.le_trans (List.length_filterMap_le _ _) (by simp)
def rowW (c : Int) : Bs := if c = 0 then [45] else barsTo c 7
def rowTx (r : List Int) : Bs := joinS (r.map rowW)
theorem rowW_len (c : Int) : (rowW c).length ≤ 7 := by
 unfold rowW; split
 · simp
 · exact barsTo_len c 7
open Go.RowKit
set_option maxRecDepth 100000
theorem dec_size {u : Nat} (h : u ≤ 999999) : (bs (Lib.decDigits u)).size ≤ 6 := by rw [bs_size]; exact dec_len 5 u (by omega)
theorem itoa_neg {u : Nat} (h : 0 < u) : Lib.itoa (-(u : Int)) = 45 :: Lib.decDigits u := by
 unfold Lib.itoa
 rw [if_pos (by omega), Int.natAbs_neg, Int.natAbs_natCast]
theorem cons_bs (c : UInt8) (l : Bs) : (⟨#[c]⟩ : ByteArray) ++ bs l = bs (c :: l) := ByteArray.ext (by simp [bs])
set_option maxHeartbeats 1000000 in
theorem l1NumN_c : ∀ (u : Nat) (v : Int) (w : World), v = -(u : Int) → 0 < u → u ≤ 999999 → Calls Tryz.prog 134 #[.int .i64 v] w fun e w' => e = .returned (.string (bs (45 :: Lib.decDigits u))) ∧ Below w.heap.size w w' := by
 intro u
 induction u using Nat.strongRecOn with
 | ind u ih =>
  intro v w hv h0 h1
  have t0 : v < 0 := by omega
  by_cases h10 : u < 10
  · have t1 : -10 < v := by omega
    have hw : IntKind.i64.wrap (-v) = (u : Int) := by rw [IntWalk.i64_in _ (by omega)]; omega
    have hs := dec_size h1
    have HN := Lib.hid (fun W => l1Num_c u W (by omega))
    have HC := Lib.hid (cons_bs 45 (Lib.decDigits u))
    clear ih hv
    generalize bs (Lib.decDigits u) = X at *
    have hs1 : ¬ 9223372036854775807 < 1 + X.size := by omega
    go_enter Tryz.func134, Tryz.ntmps134
    go_wp2_with fail
    refine (HN.out _).mono ?_
    rintro e w1 ⟨rfl, hb⟩
    go_wp2
    go_ret
    exact ⟨by rw [← HC.out]; rfl, hb⟩
  · have t1 : ¬ -10 < v := by omega
    have hq : v.tdiv 10 = -((u / 10 : Nat) : Int) := by rw [hv, Int.neg_tdiv, Int.tdiv_eq_ediv_of_nonneg (by omega)]; simp
    have hr : v.tmod 10 = -((u % 10 : Nat) : Int) := by rw [hv, Int.neg_tmod, Int.tmod_eq_emod_of_nonneg (by omega)]; simp
    have IH := Lib.hid (fun W => ih (u / 10) (by omega) (v.tdiv 10) W hq (by omega) (by omega))
    have hm : u % 10 < 10 := Nat.mod_lt _ (by decide)
    have HM := Lib.hid (fun W => l1Num_c (u % 10) W (by omega))
    have HD := Lib.hid (show bs (45 :: Lib.decDigits (u / 10)) ++ bs (Lib.decDigits (u % 10)) = bs (45 :: Lib.decDigits u) by
     rw [bs_append, decDigits_big h10, Lib.decDigits_one hm]; rfl)
    have hw1 : IntKind.i64.wrap (v.tdiv 10) = v.tdiv 10 := IntWalk.i64_in _ (by omega)
    have hw2 : IntKind.i64.wrap (-(v.tmod 10)) = ((u % 10 : Nat) : Int) := by rw [IntWalk.i64_in _ (by omega)]; omega
    have hs1 : (bs (45 :: Lib.decDigits (u / 10))).size ≤ 7 := by
     rw [bs_size]; have := dec_len 5 (u / 10) (by omega); simp; omega
    have hs2 := dec_size (u := u % 10) (by omega)
    clear ih hq hr hv
    generalize bs (45 :: Lib.decDigits (u / 10)) = X at *
    generalize u % 10 = m at *
    generalize bs (Lib.decDigits m) = Y at *
    have hs3 : ¬ 9223372036854775807 < X.size + Y.size := by omega
    go_enter Tryz.func134, Tryz.ntmps134
    go_wp2_with fail
    refine (IH.out _).mono ?_
    rintro e w1 ⟨rfl, hb⟩
    have HB := Lib.hid hb
    clear hb
    go_wp2_with fail
    refine (HM.out _).mono ?_
    rintro e w2 ⟨rfl, hb⟩
    have HB2 := Lib.hid (Below.chain HB.out hb)
    clear hb
    go_wp2
    go_ret
    exact ⟨by rw [HD.out]; rfl, HB2.out⟩
theorem l1NumI_c (v : Int) (w : World) (h0 : -999999 ≤ v) (h1 : v ≤ 999999) : Calls Tryz.prog 134 #[.int .i64 v] w fun e w' => e = .returned (.string (bs (Lib.itoa v))) ∧ Below w.heap.size w w' := by
 by_cases hn : v < 0
 · obtain ⟨u, hu⟩ : ∃ u : Nat, v = -(u : Int) := ⟨v.natAbs, by omega⟩
   refine (l1NumN_c u v w hu (by omega) (by omega)).mono fun e w' h => ?_
   rw [hu, itoa_neg (by omega)]; exact h
 · obtain ⟨u, rfl⟩ := Int.eq_ofNat_of_zero_le (by omega : 0 ≤ v)
   refine (l1Num_c u w (by omega)).mono fun e w' h => ?_
   show e = .returned (.string (bs (Lib.itoa (u : Int)))) ∧ _
   rw [itoa_nat]; exact h
theorem ItoaI_c (n : Int) (h0 : -999999 ≤ n) (h1 : n ≤ 999999) (w : World) (ht : Tab w) : Calls Tryz.prog 116 #[.int .i64 n] w fun e w' => e = .returned (.string (bs (Lib.itoa n))) ∧ Below w.heap.size w w' :=
 (Tryz.strconv_Itoa n (by omega) (by omega) w ht).mono fun e w' ⟨he, k, os, hw⟩ => ⟨he, hw ▸ below_growN w k os⟩
def cnt (c : Int) : Int := ((List.range 7).map fun (i : Nat) => ((c.toNat / 2 ^ i % 2 : Nat) : Int)).sum
def on1 (x : Int) : Int := IntKind.u64.wrap (bits .and .u64 (x / 2) 6148914691236517205 + bits .and .u64 x 6148914691236517205)
def on2 (x : Int) : Int := IntKind.u64.wrap (bits .and .u64 (x / 4) 3689348814741910323 + bits .and .u64 x 3689348814741910323)
def on3 (x : Int) : Int := bits .and .u64 (IntKind.u64.wrap (x / 16 + x)) 1085102592571150095
def on4 (x : Int) : Int := IntKind.u64.wrap (x + x / 256)
def on5 (x : Int) : Int := IntKind.u64.wrap (x + x / 65536)
def on6 (x : Int) : Int := IntKind.u64.wrap (x + x / 4294967296)
def onesF (x : Int) : Int := on6 (on5 (on4 (on3 (on2 (on1 x)))))
theorem onesF_all : ∀ c : Fin 128, onesF (c.1 : Int) = cnt (c.1 : Int) ∧ 0 ≤ cnt (c.1 : Int) ∧ cnt (c.1 : Int) ≤ 7 ∧ bits .and .i64 (wrap64 (cnt (c.1 : Int))) 127 = cnt (c.1 : Int) := by decide +kernel
theorem Ones64_c (c : Nat) (hc : c < 128) (w : World) : Calls Tryz.prog 161 #[.int .u64 c] w fun e w' => e = .returned (.int .i64 (cnt c)) ∧ w = w' := by
 have h0 : (0 : Int) ≤ c := by omega
 have h1 : (c : Int) ≤ 127 := by omega
 have H := Lib.hid (onesF_all ⟨c, hc⟩)
 go_enter Tryz.func161, Tryz.ntmps161
 go_wp2
 go_ret
 refine ⟨?_, rfl⟩
 refine int_ret ?_
 show bits .and .i64 (wrap64 (onesF (c : Int))) 127 = cnt (c : Int)
 rw [H.out.1]; exact H.out.2.2.2
theorem Ones_c (c : Nat) (hc : c < 128) (w : World) : Calls Tryz.prog 114 #[.int .u64 c] w fun e w' => e = .returned (.int .i64 (cnt c)) ∧ w = w' := by
 have h0 : (0 : Int) ≤ c := by omega
 have h1 : (c : Int) ≤ 127 := by omega
 go_enter Tryz.func114, Tryz.ntmps114
 go_wp2_with fail
 refine (Ones64_c c hc _).mono ?_
 rintro e w' ⟨rfl, rfl⟩
 go_wp2
 go_ret
 exact ⟨rfl, rfl⟩
theorem count_c (c : Int) (h0 : 0 ≤ c) (h1 : c ≤ 127) (w : World) : Calls Tryz.prog 61 #[.int .i64 c] w fun e w' => e = .returned (.int .i64 (cnt c)) ∧ w = w' := by
 obtain ⟨n, rfl⟩ := Int.eq_ofNat_of_zero_le h0
 go_enter Tryz.func61, Tryz.ntmps61
 go_wp2_with fail
 refine (Ones_c n (by omega) _).mono ?_
 rintro e w' ⟨rfl, rfl⟩
 go_wp2
 go_ret
 exact ⟨rfl, rfl⟩
def cntTo (c : Int) (k : Nat) : Int := ((List.range k).map fun (i : Nat) => ((c.toNat / 2 ^ i % 2 : Nat) : Int)).sum
theorem cntTo_fin : ∀ (c : Fin 128) (k : Fin 7), cntTo (c.1 : Int) (k.1 + 1) = cntTo (c.1 : Int) k.1 + ((c.1 / 2 ^ k.1 % 2 : Nat) : Int) ∧ 0 ≤ cntTo (c.1 : Int) k.1 ∧ cntTo (c.1 : Int) k.1 ≤ 7 := by decide +kernel
theorem bit_at (n k : Nat) (hn : n < 128) : bits .and .i64 ((n : Int) / 2 ^ k) 1 = ((n / 2 ^ k % 2 : Nat) : Int) := by
 have e : ((n : Int) / 2 ^ k) = ((n / 2 ^ k : Nat) : Int) := by simp
 have hle : n / 2 ^ k ≤ n := Nat.div_le_self _ _
 rw [e, show (1 : Int) = ((1 : Nat) : Int) from rfl, i64_and_nat _ 1 (by omega) (by omega), Nat.and_one_is_mod]
theorem l2Count_c (c : Int) (h0 : 0 ≤ c) (h1 : c ≤ 127) (w : World) : Calls Tryz.prog 221 #[.int .i64 c] w fun e w' => e = .returned (.int .i64 (cnt c)) ∧ w = w' := by
 obtain ⟨n, rfl⟩ := Int.eq_ofNat_of_zero_le h0
 go_enter Tryz.func221, Tryz.ntmps221
 go_wp2
 go_loopw [3, 4] (fun m j wr => ∃ k : Nat, k ≤ 7 ∧ j = .int .i64 (k : Int) ∧ m = .int .i64 (cntTo (n : Int) k) ∧ w = wr) (fun _ j _ => 8 - (intOf j).toNat)
 case atStart => exact ⟨0, by omega, rfl, rfl, by trivial⟩
 case round =>
  obtain ⟨k, hk, rfl, rfl, rfl⟩ := hrel
  by_cases hlt : k < 7
  · have hd : decide ((k : Int) < 7) = true := by simp; omega
    have hf := cntTo_fin ⟨n, by omega⟩ ⟨k, hlt⟩
    simp only at hf
    obtain ⟨hS, hb0, hb1⟩ := hf
    have HS := Lib.hid hS; clear hS
    generalize cntTo (n : Int) k = m at *
    go_wp2
    exact ⟨⟨k + 1, by omega, by go_num, by
     rw [HS.out, bit_at n k (by omega)]
     exact int_val (by have : n / 2 ^ k % 2 < 2 := Nat.mod_lt _ (by omega); simp only [wrap64]; omega), trivial⟩, by simp [intOf]; omega⟩
  · obtain rfl : k = 7 := by omega
    go_wp2
    go_ret
    exact ⟨rfl, rfl⟩
theorem info_strx : (Tryz.prog.info? 9).map (fun i => (i.zero, i.size, i.bytes)) = some (some (.string ⟨#[]⟩), 1, 16) := by kernel_rfl
def strsV (l : List Bs) : List Value := l.map strV
theorem strsV_snoc (l : List Bs) (x : Bs) : strsV (l ++ [x]) = strsV l ++ [.string (bs x)] := by unfold strsV; rw [List.map_append]; rfl
theorem join_len (l : List Bs) (h : ∀ x ∈ l, x.length ≤ 1000) : (joinS l).length ≤ 1001 * l.length := by
 unfold joinS
 induction l with
 | nil => simp [join_nil]
 | cons x t ih =>
  have hx := h x (by simp)
  have ht := ih (fun y hy => h y (by simp [hy]))
  cases t with
  | nil => rw [join_one']; simp; omega
  | cons y u =>
   rw [join_cons2, List.length_append, List.length_append]
   simp only [List.length_cons, List.length_nil] at ht ⊢
   omega
theorem strsV_at {l : List Bs} {j : Nat} {x : ByteArray} (h : (l.map bs)[j]? = some x) : (strsV l)[j]? = some (.string x) := by
 unfold strsV
 rw [List.getElem?_map] at h ⊢
 obtain ⟨y, hy, rfl⟩ := Option.map_eq_some_iff.1 h
 rw [hy]; rfl
theorem Join_c (v : Value) (l : List Bs) (w : World) (hv : Sl w 1 v l.length (strsV l)) (hl : l.length ≤ 100000) (hx : ∀ x ∈ l, x.length ≤ 1000) :
 Calls Tryz.prog 66 #[v, .string ⟨#[32]⟩] w fun e w' => e = .returned (.string (bs (joinS l))) ∧ Below w.heap.size w w' := by
 obtain ⟨a, c, rfl, h1, h2, h3, h4⟩ := hv
 have hmap : ((l.map bs).map fun (b : ByteArray) => b.data.toList) = l := by
  rw [List.map_map]
  conv => rhs; rw [← List.map_id l]
  exact List.map_congr_left fun x _ => bs_list x
 have hjl := join_len l hx
 cases l with
 | nil =>
  refine (Tryz.strings_Join_none a c ⟨#[32]⟩ w).mono fun e w' ⟨he, hw⟩ => ⟨?_, hw ▸ Below.refl _ _⟩
  rw [he]; rfl
 | cons x t =>
  obtain ⟨b, off, rfl, hc⟩ := h4 (by simp)
  have hcell : ∀ (j : Nat) y, ((x :: t).map bs)[j]? = some y → w.cell? ⟨b, off + j, none⟩ = some (.string y) := fun j y hy => by
   have hj : j < (x :: t).length := by have := (List.getElem?_eq_some_iff.1 hy).1; simpa using this
   rw [hc j (by omega)]; exact strsV_at hy
  have hbk : b < w.heap.size := World.block_lt_of_cell? w _ (hcell 0 (bs x) rfl)
  have h := Tryz.strings_Join b off c ((x :: t).map bs) ⟨#[32]⟩ w hcell hbk (by rw [List.length_map]; omega) (by rw [List.length_map]; exact h1) (by
   rw [hmap]
   exact Nat.le_trans hjl (by omega))
  rw [List.length_map, hmap] at h
  exact h
theorem bars_piece : ∀ i : Fin 7, ((⟨#[97, 98, 99, 100, 101, 102, 103]⟩ : ByteArray).extract i.1 (i.1 + 1)) = bs [UInt8.ofNat (97 + i.1)] := by decide +kernel
theorem barsOf_c (c : Int) (h0 : 0 ≤ c) (h1 : c ≤ 127) (w : World) : Calls Tryz.prog 111 #[.int .i64 c] w fun e w' => e = .returned (.string (bs (barsTo c 7))) ∧ w = w' := by
 obtain ⟨n, rfl⟩ := Int.eq_ofNat_of_zero_le h0
 go_enter Tryz.func111, Tryz.ntmps111
 go_wp2
 go_loopw [3, 4, 5] (fun s _ j wr => ∃ k : Nat, k ≤ 7 ∧ j = .int .i64 (k : Int) ∧ s = .string (bs (barsTo (n : Int) k)) ∧ w = wr) (fun _ _ j _ => 8 - (intOf j).toNat)
 case atStart => exact ⟨0, by omega, rfl, rfl, by trivial⟩
 case round =>
  obtain ⟨k, hk, rfl, rfl, rfl⟩ := hrel
  by_cases hlt : k < 7
  · have hd : decide ((k : Int) < 7) = true := by simp; omega
    have hbit := bit_at n k (by omega)
    have hS := barsTo_succ (n : Int) k
    have hsz : (bs (barsTo (n : Int) k)).size ≤ 7 := by rw [bs_size]; exact Nat.le_trans (barsTo_len _ _) hk
    have HP := Lib.hid (bars_piece ⟨k, hlt⟩)
    have hp1 : ((⟨#[97, 98, 99, 100, 101, 102, 103]⟩ : ByteArray).extract k (k + 1)).size = 1 := by rw [HP.out]; rfl
    by_cases hb : n / 2 ^ k % 2 = 1
    · have hS2 : bs (barsTo (n : Int) k) ++ bs [UInt8.ofNat (97 + k)] = bs (barsTo (n : Int) (k + 1)) := by
       rw [bs_append, hS, Int.toNat_natCast, if_pos hb]
      have HS := Lib.hid hS2
      rw [hb] at hbit
      clear hS hS2 hb
      generalize bs (barsTo (n : Int) k) = X at *
      have hs1 : ¬ 9223372036854775807 < X.size + (min (k + 1) 7 - k) := by omega
      go_wp2
      go_roundw
      case rel => exact ⟨k + 1, by omega, by go_num, by rw [← HS.out, ← HP.out], by trivial⟩
      case measure => simp [intOf]; omega
    · have hb0 : n / 2 ^ k % 2 = 0 := by omega
      have HS := Lib.hid (show barsTo (n : Int) (k + 1) = barsTo (n : Int) k by rw [hS, Int.toNat_natCast, if_neg hb, List.append_nil])
      rw [hb0] at hbit
      clear hS hb hb0 hp1 HP
      go_wp2
      go_roundw
      case rel => exact ⟨k + 1, by omega, by go_num, by rw [HS.out], by trivial⟩
      case measure => simp [intOf]; omega
  · obtain rfl : k = 7 := by omega
    go_wp2
    go_ret
    exact ⟨rfl, rfl⟩
structure TabC (w : World) : Prop where
 pow : Tab w
 len : ∃ m, w.cell? ⟨0, 0, none⟩ = some (.int .i64 m)
 syn : ∃ ev, w.cell? ⟨1, 0, none⟩ = some ev ∧ (ev = .nilIface ∨ ∃ te pe, ev = .iface te pe)
 rng : ∃ ev, w.cell? ⟨2, 0, none⟩ = some ev ∧ (ev = .nilIface ∨ ∃ te pe, ev = .iface te pe)
theorem TabC.on {w w' : World} (h : TabC w) (hb : Below w.heap.size w w') : TabC w' := by
 obtain ⟨m, hm⟩ := h.len
 obtain ⟨s, hs, hs2⟩ := h.syn
 obtain ⟨r, hr, hr2⟩ := h.rng
 exact ⟨h.pow.on hb, ⟨m, cell_later hb hm⟩, ⟨s, cell_later hb hs, hs2⟩, ⟨r, cell_later hb hr, hr2⟩⟩
def rdV (s : Bs) : Value := .tuple #[.int .i64 ((rdO s).getD 0), .bool (rdO s).isSome]
theorem rdV_no {s : Bs} (h : rdO s = none) : rdV s = .tuple #[.int .i64 0, .bool false] := by unfold rdV; rw [h]; rfl
theorem rdV_yes {s : Bs} {v : Int} (h : rdO s = some v) : rdV s = .tuple #[.int .i64 v, .bool true] := by unfold rdV; rw [h]; rfl
theorem Split_c (s : ByteArray) (c : UInt8) (w : World) (hs : s.size ≤ 1048576) (ht : TabC w) : Calls Tryz.prog 77 #[.string s, .string ⟨#[c]⟩] w (SplOut c s.data.toList w) := by
 obtain ⟨m, hm⟩ := ht.len
 refine (Tryz.strings_Split s ⟨#[c]⟩ m w (by omega) hm (Nat.le_refl 1)).mono fun e w' ⟨he, hw⟩ => ?_
 have hd := Lib.splitB_data ⟨#[c]⟩ 0 (Lib.countB s ⟨#[c]⟩) s
 have hk := lib_split c _ s.data.toList (Nat.le_refl _)
 have hl := Lib.splitB_all ⟨#[c]⟩ (Nat.le_refl 1) 0 (Lib.countB s ⟨#[c]⟩) s rfl
 have hcount : Lib.countB s ⟨#[c]⟩ = Lib.count s.data.toList [c] := rfl
 rw [hcount] at hd hl he hw
 have hd2 : (Lib.splitB ⟨#[c]⟩ 0 (Lib.count s.data.toList [c]) s).map (·.data.toList) = splitS c s.data.toList := hd.trans hk
 generalize hp : Lib.splitB ⟨#[c]⟩ 0 (Lib.count s.data.toList [c]) s = ps at *
 have hval : (splitS c s.data.toList).map strV = ps.map Value.string := by
  rw [← hd2, List.map_map]
  exact List.map_congr_left fun x _ => by show Value.string (bs x.data.toList) = _; rw [bs_of]
 have hlen : (splitS c s.data.toList).length = ps.length := by rw [← hd2, List.length_map]
 subst hw
 refine ⟨_, he, ?_, below_one _⟩
 rw [hlen, hval, ← hl]
 exact ownsRow_cast (World.ownsRow_lit w (ps.map Value.string).toArray ps.length (Nat.le_refl _) (by
  have h1 := Lib.countB_le ⟨#[c]⟩ (Nat.le_refl 1) s.size s (Nat.le_refl _)
  rw [hcount] at h1
  unfold maxLen; omega) (by simp)) rfl (by simp)
set_option maxHeartbeats 1000000 in
theorem ParseInt_c (s : ByteArray) (w : World) (hs : s.size ≤ 1048576) (ht : TabC w) : Calls Tryz.prog 100 #[.string s] w fun e w' => e = .returned (rdV s.data.toList) ∧ Below w.heap.size w w' := by
 have HT := Lib.hid ht
 cases h : Lib.atoiAll s.data.toList with
 | ok v =>
  have HA : Hid (Calls Tryz.prog 145 #[.string s] w fun e w' => e = .returned (.tuple #[.int .i64 v, .nilIface]) ∧ Below w.heap.size w w') := (Tryz.strconv_Atoi_ok s (by omega) v h w).mono fun e w' ⟨he, hw⟩ => ⟨he, by
   rcases hw with rfl | ⟨t, rfl⟩
   · exact Below.refl _ _
   · exact Go.Joins.below_bytesWorld w.heap.size w 5 t (Nat.le_refl _)⟩
  obtain ⟨b0, b1⟩ := Lib.atoiAll_bounds h
  have hR : rdO s.data.toList = if -999999 ≤ v ∧ v ≤ 999999 ∧ Lib.itoa v = s.data.toList then some v else none := by unfold rdO; rw [h]
  have HR := Lib.hid hR
  clear h hR ht
  by_cases hin : -999999 ≤ v ∧ v ≤ 999999
  · have hb : inB v (-999999) 999999 = true := inB_mk hin.1 hin.2
    have HI := Lib.hid (fun W h => ItoaI_c v hin.1 hin.2 W h)
    by_cases he : Lib.itoa v = s.data.toList
    · have HV := Lib.hid (rdV_yes (s := s.data.toList) (v := v) (by rw [HR.out, if_pos ⟨hin.1, hin.2, he⟩]))
      have hst := str_eq (show bs (Lib.itoa v) = s by rw [he, bs_of])
      generalize bs (Lib.itoa v) = X at *
      go_enter Tryz.func100, Tryz.ntmps100
      go_wp2_with fail
      refine HA.out.mono ?_
      rintro e w1 ⟨rfl, hb1⟩
      have HB := Lib.hid hb1
      clear hb1
      go_wp2_with fail
      refine (within_c _ _ _ _).mono ?_
      rintro e w2 ⟨rfl, rfl⟩
      rw [hb]
      go_wp2_with fail
      refine (HI.out _ (HT.out.on HB.out).pow).mono ?_
      rintro e w3 ⟨rfl, hb3⟩
      have HB3 := Lib.hid (Below.chain HB.out hb3)
      clear hb3
      go_wp2
      exact bodyPost_ret (v := .tuple #[.int .i64 v, .bool true]) (by simp [results, Tryz.results100, go_sem]) rfl ⟨by rw [HV.out], HB3.out⟩
    · have HV := Lib.hid (rdV_no (s := s.data.toList) (by rw [HR.out, if_neg (fun h => he h.2.2)]))
      have hst := str_ne (show bs (Lib.itoa v) ≠ s from fun e => he ((bs_list _).symm.trans (congrArg (fun x : ByteArray => x.data.toList) e)))
      clear he
      generalize bs (Lib.itoa v) = X at *
      go_enter Tryz.func100, Tryz.ntmps100
      go_wp2_with fail
      refine HA.out.mono ?_
      rintro e w1 ⟨rfl, hb1⟩
      have HB := Lib.hid hb1
      clear hb1
      go_wp2_with fail
      refine (within_c _ _ _ _).mono ?_
      rintro e w2 ⟨rfl, rfl⟩
      rw [hb]
      go_wp2_with fail
      refine (HI.out _ (HT.out.on HB.out).pow).mono ?_
      rintro e w3 ⟨rfl, hb3⟩
      have HB3 := Lib.hid (Below.chain HB.out hb3)
      clear hb3
      go_wp2
      exact bodyPost_ret (v := .tuple #[.int .i64 0, .bool false]) (by simp [results, Tryz.results100, go_sem]) rfl ⟨by rw [HV.out], HB3.out⟩
  · have hb : inB v (-999999) 999999 = false := by
     cases hq : inB v (-999999) 999999 with
     | false => rfl
     | true => exact absurd (inB_true hq) hin
    have HV := Lib.hid (rdV_no (s := s.data.toList) (by rw [HR.out, if_neg (fun h => hin ⟨h.1, h.2.1⟩)]))
    clear hin
    go_enter Tryz.func100, Tryz.ntmps100
    go_wp2_with fail
    refine HA.out.mono ?_
    rintro e w1 ⟨rfl, hb1⟩
    have HB := Lib.hid hb1
    clear hb1
    go_wp2_with fail
    refine (within_c _ _ _ _).mono ?_
    rintro e w2 ⟨rfl, rfl⟩
    rw [hb]
    go_wp2
    exact bodyPost_ret (v := .tuple #[.int .i64 0, .bool false]) (by simp [results, Tryz.results100, go_sem]) rfl ⟨by rw [HV.out], HB.out⟩
 | range =>
  obtain ⟨ev, hev, hev2⟩ := ht.rng
  have HA : Hid (Calls Tryz.prog 145 #[.string s] w fun e w' => ∃ (k : Int) (t : TypeId) (p : Value), e = .returned (.tuple #[.int .i64 k, .iface t p]) ∧ Below w.heap.size w w') := (Tryz.strconv_Atoi_range s (by omega) h ev w hev hev2).mono fun e w' ⟨N, he, _, _, hb⟩ => ⟨_, _, _, he, hb⟩
  have HV := Lib.hid (rdV_no (s := s.data.toList) (by unfold rdO; rw [h]))
  clear h ht hev hev2
  go_enter Tryz.func100, Tryz.ntmps100
  go_wp2_with fail
  refine HA.out.mono ?_
  rintro e w1 ⟨k, t, p, rfl, hb1⟩
  have HB := Lib.hid hb1
  clear hb1
  go_wp2
  exact bodyPost_ret (v := .tuple #[.int .i64 0, .bool false]) (by simp [results, Tryz.results100, go_sem]) rfl ⟨by rw [HV.out], HB.out⟩
 | _ =>
  obtain ⟨ev, hev, hev2⟩ := ht.syn
  have HA : Hid (Calls Tryz.prog 145 #[.string s] w fun e w' => ∃ (k : Int) (t : TypeId) (p : Value), e = .returned (.tuple #[.int .i64 k, .iface t p]) ∧ Below w.heap.size w w') := (Any.strconv_Atoi_syntax Tryz.laysC172 s (by omega) h ev w hev hev2).mono fun e w' ⟨N, he, _, _, hb⟩ => ⟨_, _, _, he, hb⟩
  have HV := Lib.hid (rdV_no (s := s.data.toList) (by unfold rdO; rw [h]))
  clear h ht hev hev2
  go_enter Tryz.func100, Tryz.ntmps100
  go_wp2_with fail
  refine HA.out.mono ?_
  rintro e w1 ⟨k, t, p, rfl, hb1⟩
  have HB := Lib.hid hb1
  clear hb1
  go_wp2
  exact bodyPost_ret (v := .tuple #[.int .i64 0, .bool false]) (by simp [results, Tryz.results100, go_sem]) rfl ⟨by rw [HV.out], HB.out⟩
end Go.Proofs.YtohgjfdbnkjefaaGreatDoor
namespace Go.Proofs.YtohgjfdbnkjefaaGreatDoor
open Go.ChangeShapes Go.WideShapes Go.ChangeAt Go.RowKit
set_option maxRecDepth 100000
set_option linter.unusedVariables false
abbrev laidL : List (String × DataW Unit) := [("math/bits.deBruijn32tab", Rows.laid_math_bits_deBruijn32tab), ("math/bits.deBruijn64tab", Rows.laid_math_bits_deBruijn64tab), ("internal/strconv.uint64pow10", Rows.laid_internal_strconv_uint64pow10), ("unicode/utf8.acceptRanges", Rows.laid_unicode_utf8_acceptRanges), ("strconv.ErrRange", Rows.laid_strconv_ErrRange), ("strconv.ErrSyntax", Rows.laid_strconv_ErrSyntax), ("unicode/utf8.first", Rows.laid_unicode_utf8_first)]
theorem start_met (os : Os) (args : Array Value) : laidMetH Tryz.prog laidL ((World.laidAll Tryz.prog os laidL).forCall (fun _ _ => 0) ⟨#[], args, []⟩).memory := by
 rw [MakeChecks.laidMetH_plain _ _ _ (by kernel_rfl)]; exact laidMet_laidAll _ (by kernel_rfl) (by kernel_rfl)
theorem start_shaped (os : Os) : (World.laidAll Tryz.prog os laidL).Shaped Tryz.prog := World.shaped_of_ZipB (by kernel_rfl) (by kernel_rfl)
theorem pow_data : (Rows.laid_internal_strconv_uint64pow10 : DataW Unit) = Lib.tabData .u64 Lib.pow10Tab := by kernel_rfl
theorem star_err : "*" ++ "errors.errorString" = "*errors.errorString" := by decide
theorem row_err (u : TypeId) (h : Tryz.prog.typeName? 3 u = some "*errors.errorString") : u = 273 :=
 typeName_ptr_named (nm := "errors.errorString") (by rw [star_err]; kernel_rfl) (by kernel_rfl) (by decide) u (by rw [star_err]; exact h)
theorem tabC_of {W : World} (h : laidMetH Tryz.prog laidL W) (hsh : W.ShapedOpen Tryz.prog) : TabC W := by
 rw [MakeChecks.laidMetH_plain _ _ _ (by kernel_rfl)] at h
 have h2 := laidMet.tail (laidMet.tail h)
 have h4 := laidMet.tail (laidMet.tail h2)
 have h5 := laidMet.tail h4
 rw [pow_data] at h2
 have hp : Tab W := Lib.tabIs_of_head (g := 3) (t := 264) (e := 81) (n := 20) (by kernel_rfl) (by kernel_rfl) (by kernel_rfl) (by kernel_rfl) (by kernel_rfl) (by kernel_rfl) h2
 obtain ⟨m, hm⟩ := cell_of_shapedOpen_int (P := Tryz.prog) (g := 0) (t := 3) (zero := #[.int .i64 0]) hsh (of_decide_eq_true (by kernel_rfl)) (by kernel_rfl) rfl (by kernel_rfl) (by kernel_rfl) Tryz.underlying3
 obtain ⟨a1, s1, hv1, _, _, _⟩ := laid_sentinel (g := 2) h4 (by kernel_rfl) (by kernel_rfl) Tryz.underlying152 row_err Tryz.underlying273 Tryz.underlying275 rfl rfl Tryz.underlying9 (by kernel_rfl) (by kernel_rfl)
 obtain ⟨a2, s2, hv2, _, _, _⟩ := laid_sentinel (g := 1) h5 (by kernel_rfl) (by kernel_rfl) Tryz.underlying152 row_err Tryz.underlying273 Tryz.underlying275 rfl rfl Tryz.underlying9 (by kernel_rfl) (by kernel_rfl)
 exact ⟨hp, ⟨m, hm⟩, ⟨_, World.var?_cell (g := 1) (by kernel_rfl) hv2 0, .inr ⟨_, _, rfl⟩⟩, ⟨_, World.var?_cell (g := 2) (by kernel_rfl) hv1 0, .inr ⟨_, _, rfl⟩⟩⟩
section
variable {H : Type} {enc : TypeId × Value → H}
theorem handed_both {a : Assume} {C : Checked} {os : Os} {f : FuncId} {fn : Func} {s : ChangeSpec} {conds : List PathCond} {apart fresh handsOn again : Bool} {X : World → Array Value → Prop}
 (hX : ∀ (w w' : World) (args : Array Value), w.heap = w'.heap → X w args → X w' args)
 (own : ownKnob C.prog.godebug = none) (started : os.Started) (noInit : C.prog.inits.idxOf? f = none) (hfn : C.prog.funcs[f]? = some fn)
 (witness : ∃ (w : World) (tape : Tape) (i : Input), w.os = os ∧ (w.forCall tape i).Shaped C.prog ∧ i.vars = [] ∧ Input.okWide C.prog (w.forCall tape i) .any w.heap.size f i ∧
  ((s.pre enc C.prog fn conds apart (w.forCall tape i).memory i.args ∧ X (w.forCall tape i).memory i.args) ∧ sizedMet enc C.prog fn (OpenSpec.ofChange s) apart (w.forCall tape i).memory i.args) ∧ a.holds C.prog (lone (Frame.enter C.prog f i.args .normal) [] (w.forCall tape i)))
 (contract : ∀ (W : World) (base : Nat) (args : Array Value) (ds gs : List (DataW H)) (before : List MemPlace),
  (∀ (j : Nat) t v, fn.params[j]? = some t → args[j]? = some v → Value.okWide C.prog W .any base t v) →
  DataW.Whole enc C.prog fn.params.toList s.vars apart W args.toList ds gs before →
  conds.all (PathCond.test C.prog ⟨fn.params.toList, ds, s.plain.varTypes C.prog, gs⟩) = true →
  X W args → W.ShapedOpen C.prog →
  Calls C.prog f args W fun e W' => ∃ v, e = .returned v ∧ s.post enc C.prog fn apart fresh handsOn again W args v W') :
 ReturnsInHanded a C os f .any (fun w args => (s.pre enc C.prog fn conds apart w args ∧ X w args) ∧ sizedMet enc C.prog fn (OpenSpec.ofChange s) apart w args) (s.post enc C.prog fn apart fresh handsOn again) := by
 refine returnsInHanded_of_calls own started noInit witness ?_
 rintro w tape i _ hshape _ ⟨_, _, _, fn', hfn', _, _, _, _, hval⟩ ⟨⟨⟨ds, gs, before, hw, hc⟩, hx⟩, _⟩ _
 obtain rfl : fn' = fn := Option.some.inj (hfn'.symm.trans hfn)
 refine (contract (w.forCall tape i) w.heap.size i.args ds gs before hval (DataW.Whole.of_heap (w' := w.forCall tape i) (by rfl) hw) hc (hX _ _ _ (by rfl) hx) hshape).mono ?_
 rintro e W' ⟨v, rfl, hp⟩
 exact ChangeSpec.post_blind hp
end
end Go.Proofs.YtohgjfdbnkjefaaGreatDoor
namespace Go.Proofs.YtohgjfdbnkjefaaGreatDoor
set_option linter.unusedVariables false
set_option linter.unusedSimpArgs false
def digO (c : Int) : Option Nat := (List.range 10).find? fun (d : Nat) => dg (d : Int) == c
def numSt (o : Option Nat) (c : Int) : Option Nat := match o with
 | none => none
 | some n => (digO c).map fun d => 10 * n + d
def numTo (r : List Int) : Option Nat := r.foldl numSt (some 0)
def numO (r : List Int) : Option Nat := if r = [] then none else numTo r
theorem numTo_snoc (r : List Int) (c : Int) : numTo (r ++ [c]) = numSt (numTo r) c := by unfold numTo; rw [List.foldl_append]; rfl
theorem numSt_none (r : List Int) : r.foldl numSt none = none := by
 induction r with
 | nil => rfl
 | cons x t ih => simp only [List.foldl_cons]; exact ih
theorem numTo_stop {r t : List Int} (h : numTo r = none) : numTo (r ++ t) = none := by
 unfold numTo at *
 rw [List.foldl_append, h]; exact numSt_none t
theorem digO_lt {c : Int} {d : Nat} (h : digO c = some d) : d < 10 := by
 unfold digO at h
 have := List.mem_of_find?_eq_some h
 simpa using this
theorem numTo_lt (r : List Int) (n : Nat) (h : numTo r = some n) : n < 10 ^ r.length := by
 have key : ∀ (k : Nat) (r : List Int), r.length = k → ∀ n, numTo r = some n → n < 10 ^ r.length := by
  intro k
  induction k with
  | zero =>
   intro r hr n hn
   have : r = [] := List.eq_nil_of_length_eq_zero hr
   subst this
   obtain rfl : 0 = n := Option.some.inj hn
   decide
  | succ k ih =>
   intro r hr n hn
   rcases List.eq_nil_or_concat r with rfl | ⟨t, x, rfl⟩
   · simp at hr
   · rw [List.concat_eq_append] at hn hr ⊢
     rw [List.length_append] at hr
     rw [numTo_snoc] at hn
     cases ht : numTo t with
     | none => rw [ht] at hn; cases hn
     | some m =>
      rw [ht] at hn
      have h1 := ih t (by simpa using hr) m ht
      cases hx : digO x with
      | none => simp [numSt, hx] at hn
      | some d =>
       simp only [numSt, hx, Option.map_some, Option.some.injEq] at hn
       have := digO_lt hx
       rw [List.length_append, List.length_cons, List.length_nil, Nat.pow_succ]; omega
 exact key r.length r rfl n h
def dgI (c : Int) : Int := match digO c with
 | some d => (d : Int)
 | none => -1
theorem dgI_some {c : Int} {k : Nat} (hk : k < 10) (h : dg (k : Int) = c) (hb : ∀ j : Nat, j < k → dg (j : Int) ≠ c) : digO c = some k := by
 unfold digO
 rw [List.find?_eq_some_iff_getElem]
 refine ⟨by simp [h], k, by simpa using hk, by simp, fun j hj => ?_⟩
 simpa using hb j hj
theorem dgI_none {c : Int} (h : ∀ j : Nat, j < 10 → dg (j : Int) ≠ c) : digO c = none := by
 unfold digO
 rw [List.find?_eq_none]
 intro x hx
 simpa using h x (by simpa using hx)
def yesT (b : Bool) : Bs := if b then [121, 101, 115] else [110, 111]
def partT (a b : Nat) : Bs := Lib.decDigits a ++ 47 :: Lib.decDigits b
def farC (c : Int) (i : Nat) : Nat := (cnt (((dg (i : Int)).toNat ^^^ c.toNat : Nat) : Int)).toNat
def leastC (c : Int) : Nat → Nat
 | 0 => 8
 | k + 1 => min (leastC c k) (farC c k)
def nearTo (c : Int) (k : Nat) : List Int := ((List.range k).filter fun i => farC c i == leastC c 10).map fun (i : Nat) => (i : Int)
def nearL (c : Int) : List Int := nearTo c 10
open Go.RowKit
theorem IsState_c (bar kind : Int) (w : World) : Calls Tryz.prog 300 #[.agg #[.int .i64 bar, .int .i64 kind]] w fun e w' => e = .returned (.bool (stateB bar kind)) ∧ Below w.heap.size w w' := by
 by_cases h0 : kind = 0
 · subst h0
   go_enter Tryz.func300, Tryz.ntmps300
   go_wp2_with (go_at_call 94; refine (within_c _ _ _ _).mono ?_; rintro e w' ⟨rfl, rfl⟩)
   all_goals (go_ret; exact ⟨bool_ret (by simp_all [stateB, inB]; try omega), below_one _⟩)
 · have h1 : (kind != 0) = true := by simpa using h0
   go_enter Tryz.func300, Tryz.ntmps300
   go_wp2_with (go_at_call 94; refine (within_c _ _ _ _).mono ?_; rintro e w' ⟨rfl, rfl⟩)
   all_goals (go_ret; exact ⟨bool_ret (by simp_all [stateB, inB]; try omega), below_one _⟩)
def faultV (bar kind : Int) : Value := .agg #[.int .i64 (stD bar kind), .int .i64 (stL bar kind)]
theorem Sfault_c (bar kind : Int) (h : stateB bar kind = true) (w : World) : Calls Tryz.prog 301 #[.agg #[.int .i64 bar, .int .i64 kind]] w fun e w' => e = .returned (faultV bar kind) ∧ Below w.heap.size w w' := by
 rcases stateB_cases h with ⟨rfl, rfl⟩ | ⟨rfl, h0, h1⟩ | ⟨rfl, h0, h1⟩
 · go_enter Tryz.func301, Tryz.ntmps301
   go_wp2
   exact bodyPost_ret (v := faultV 0 0) (by simp [results, Tryz.results301, go_sem, faultV, stD, stL]) rfl ⟨rfl, (below_one _).alloc (by simp) _⟩
 · rcases bar_cases h0 h1 with rfl | rfl | rfl | rfl | rfl | rfl | rfl
   all_goals
    clear h0 h1 h
    go_enter Tryz.func301, Tryz.ntmps301
    go_wp2
    refine bodyPost_ret (v := faultV _ 1) (by simp [results, Tryz.results301, go_sem, faultV, stD, stL]) rfl ⟨rfl, ?_⟩
    repeat (first | exact below_one _ | apply Below.setCell | apply Below.alloc | simp)
 · rcases bar_cases h0 h1 with rfl | rfl | rfl | rfl | rfl | rfl | rfl
   all_goals
    clear h0 h1 h
    go_enter Tryz.func301, Tryz.ntmps301
    go_wp2
    refine bodyPost_ret (v := faultV _ 2) (by simp [results, Tryz.results301, go_sem, faultV, stD, stL]) rfl ⟨rfl, ?_⟩
    repeat (first | exact below_one _ | apply Below.setCell | apply Below.alloc | simp)
theorem isTest_c (v : Value) (xs : List Int) (w : World) (hv : Ints w v xs) : Calls Tryz.prog 196 #[v] w fun e w' => e = .returned (.bool (testB xs)) ∧ Below w.heap.size w w' := by
 obtain ⟨a, c, hvv, hc1, hc2, HC⟩ := hv.parts
 by_cases h : xs.length ≤ 10
 · subst hvv
   go_enter Tryz.func196, Tryz.ntmps196
   go_wp2_with (go_at_call 109; refine (areAllInt_c _ xs 153 digitB _ hv (fun _ _ => by kernel_rfl) (fun x w' => isDigit_c x w')).mono ?_; rintro e w' ⟨rfl, hb⟩)
   go_ret
   exact ⟨bool_ret (by simp [testB, h]), by assumption⟩
 · subst hvv
   go_enter Tryz.func196, Tryz.ntmps196
   go_wp2_with fail
   go_ret
   exact ⟨bool_ret (by simp [testB]; omega), Below.refl _ _⟩
theorem l7Test_c (v : Value) (xs : List Int) (w : World) (hv : Ints w v xs) : Calls Tryz.prog 230 #[v] w fun e w' => e = .returned (.bool (testB xs)) ∧ Below w.heap.size w w' := by
 have hm := hv.le
 obtain ⟨a, c, rfl, hc1, hc2, HC⟩ := hv.parts
 go_enter Tryz.func230, Tryz.ntmps230
 go_wp2
 go_loopw [3] (fun i wr => ∃ k : Nat, k ≤ xs.length ∧ k ≤ 11 ∧ i = .int .i64 k ∧ Hid (∀ j x, j < k → xs[j]? = some x → digitB x = true) ∧ w = wr) (fun i _ => xs.length - (intOf i).toNat)
 case atStart => exact ⟨0, by omega, by omega, rfl, fun j x hj => by omega, by trivial⟩
 case round =>
  obtain ⟨k, hk, hk2, rfl, hbef, rfl⟩ := hrel
  clear hv
  by_cases hlt : k < xs.length ∧ k ≤ 10
  · obtain ⟨hlt, hle⟩ := hlt
    obtain ⟨x, hx⟩ := elem_at hlt
    obtain ⟨b, off, rfl, g0⟩ := HC.out k x hx.out
    go_wp2_with fail
    refine (l1In_c _ _ _ _).mono ?_
    rintro e w' ⟨rfl, rfl⟩
    rcases hpx : inB x 0 9 with _ | _
    · have HP := Lib.hid hpx; clear hpx
      go_wp2
      go_ret
      exact ⟨bool_ret (by
       symm; simp only [testB, Bool.and_eq_false_iff]; right
       rw [List.all_eq_false]; exact ⟨x, List.mem_of_getElem? hx.out, by simp [digitB, HP.out]⟩), Below.refl _ _⟩
    · have HP := Lib.hid hpx; clear hpx
      go_wp2
      go_roundw
      case rel => exact ⟨k + 1, by omega, by omega, by go_num, fun j y hj hy => by
       by_cases hj2 : j < k
       · exact hbef.out j y hj2 hy
       · obtain rfl : j = k := by omega
         rw [hx.out] at hy; obtain rfl := Option.some.inj hy; exact HP.out, by trivial⟩
      case measure => simp [intOf]; omega
  · have hor : k = xs.length ∨ (k = 11 ∧ k < xs.length) := by omega
    clear hlt
    rcases hor with hor | ⟨hor, hor2⟩
    · have HK := Lib.hid hor
      have h1 : ¬ k < xs.length := by omega
      clear hor
      go_wp2
      go_ret
      refine ⟨bool_ret ?_, Below.refl _ _⟩
      have hall : xs.all digitB = true := by
       rw [List.all_eq_true]; intro x hx
       obtain ⟨j, hj⟩ := List.mem_iff_getElem?.1 hx
       have := (List.getElem?_eq_some_iff.1 hj).1
       exact hbef.out j x (by have := HK.out; omega) hj
      simp [testB, hall]; omega
    · have HK := Lib.hid hor
      have h1 : ¬ k ≤ 10 := by omega
      clear hor
      go_wp2
      go_ret
      refine ⟨bool_ret ?_, Below.refl _ _⟩
      have := HK.out
      rw [decide_eq_false (by omega)]
      simp [testB]; omega
def placeOf (bar kind : Int) (xs : List Int) : Int := firstAt (finds bar kind) xs
theorem finding_c (v : Value) (xs : List Int) (bar kind : Int) (w : World) (hv : Ints w v xs) (hs : stateB bar kind = true) (ht : testB xs = true) :
 Calls Tryz.prog 284 #[.agg #[.int .i64 bar, .int .i64 kind], v] w fun e w' => e = .returned (.int .i64 (placeOf bar kind xs)) ∧ Below w.heap.size w w' := by
 have bd := stDL_bd hs
 go_enter Tryz.func284, Tryz.ntmps284
 go_wp2_with fail
 refine (Sfault_c bar kind hs _).mono ?_
 rintro e w1 ⟨rfl, hb1⟩
 unfold faultV
 go_wp2_with fail
 refine (IndexFuncInt_c v xs 302 #[.pointer (some ⟨w1.heap.size, 0, none⟩)] (finds bar kind) _ ?_ (fun _ _ => by kernel_rfl) ?_).mono ?_
 · exact Ints.below (Ints.below (Ints.below hv (below_one _)) hb1) (below_one _)
 · intro x w2 hx hb2
   have hd : 0 ≤ x ∧ x ≤ 9 := by
    simp only [testB, Bool.and_eq_true, List.all_eq_true] at ht
    exact digitB_true (ht.2 x hx)
   have hx0 := hd.1; have hx1 := hd.2
   have bdx := dg_bd x
   have c0 : w2.cell? ⟨w1.heap.size, 0, none⟩ = some (.int .i64 (stD bar kind)) := by
    rw [(bcell hb2).1 _ _ (by simp), World.cell?_alloc_at _ _ _ _ rfl]; rfl
   have c1 : w2.cell? ⟨w1.heap.size, 1, none⟩ = some (.int .i64 (stL bar kind)) := by
    rw [(bcell hb2).1 _ _ (by simp), World.cell?_alloc_at _ _ _ _ rfl]; rfl
   have hix := fun w => index_dig x hx0 hx1 w
   clear hv hb1 hb2 hs ht hx hd
   go_enter Tryz.func302, Tryz.ntmps302
   go_wp2_with fail
   go_region_held3 (fun w' => w'.cell? ⟨w1.heap.size, 0, none⟩ = some (.int .i64 (stD bar kind)) ∧ w'.cell? ⟨w1.heap.size, 1, none⟩ = some (.int .i64 (stL bar kind)))
    (first | go_keep | (go_split_ands; exact ⟨cell_later (by assumption) (by assumption), cell_later (by assumption) (by assumption)⟩))
    (first | (go_at_call 112; refine (digitCells_c _).mono ?_; rintro e w' ⟨rfl, hb⟩) | (go_at_call 108; refine (shown_c _ _ _ (by omega) (by omega) (by omega) (by omega) (by omega) (by omega) _).mono ?_; rintro e w' ⟨rfl, hb⟩))
   go_wp2
   go_ret
   exact ⟨rfl, by (repeat (first | exact Below.refl _ _ | exact (Below.refl _ _).drew | assumption | exact below_one _ | refine Below.chain ?_ (by assumption) | refine Below.drew ?_ | refine Below.alc ?_ _ | refine below_drewN ?_ | (refine Below.setCell ?_ ?_ _) | exact Nat.le_refl _ | (simp; done) | (simp; omega)))⟩
 · rintro e w3 ⟨rfl, hb3⟩
   go_wp2
   go_ret
   exact ⟨rfl, ((((below_one _).trans (hb1.mono (by simp))).alloc (by have := hb1.size; simp at this; omega) _).trans (hb3.mono (by have := hb1.size; simp at this ⊢; omega)))⟩
theorem l7Fault_c (bar kind : Int) (h : stateB bar kind = true) (w : World) : Calls Tryz.prog 306 #[.agg #[.int .i64 bar, .int .i64 kind]] w fun e w' => e = .returned (faultV bar kind) ∧ Below w.heap.size w w' := by
 rcases stateB_cases h with ⟨rfl, rfl⟩ | ⟨rfl, h0, h1⟩ | ⟨rfl, h0, h1⟩
 · go_enter Tryz.func306, Tryz.ntmps306
   go_wp2
   exact bodyPost_ret (v := faultV 0 0) (by simp [results, Tryz.results306, go_sem, faultV, stD, stL]) rfl ⟨rfl, (below_one _).alloc (by simp) _⟩
 · rcases bar_cases h0 h1 with rfl | rfl | rfl | rfl | rfl | rfl | rfl
   all_goals
    clear h0 h1 h
    go_enter Tryz.func306, Tryz.ntmps306
    go_wp2
    refine bodyPost_ret (v := faultV _ 1) (by simp [results, Tryz.results306, go_sem, faultV, stD, stL]) rfl ⟨rfl, ?_⟩
    repeat (first | exact below_one _ | apply Below.setCell | apply Below.alloc | simp)
 · rcases bar_cases h0 h1 with rfl | rfl | rfl | rfl | rfl | rfl | rfl
   all_goals
    clear h0 h1 h
    go_enter Tryz.func306, Tryz.ntmps306
    go_wp2
    refine bodyPost_ret (v := faultV _ 2) (by simp [results, Tryz.results306, go_sem, faultV, stD, stL]) rfl ⟨rfl, ?_⟩
    repeat (first | exact below_one _ | apply Below.setCell | apply Below.alloc | simp)
theorem testB_digit {xs : List Int} (ht : testB xs = true) {k : Nat} {x : Int} (hx : xs[k]? = some x) : 0 ≤ x ∧ x ≤ 9 := by
 simp only [testB, Bool.and_eq_true, List.all_eq_true] at ht
 exact digitB_true (ht.2 x (List.mem_of_getElem? hx))
theorem l7Place_c (v : Value) (xs : List Int) (bar kind : Int) (w : World) (hv : Ints w v xs) (hs : stateB bar kind = true) (ht : testB xs = true) :
 Calls Tryz.prog 294 #[v, .agg #[.int .i64 bar, .int .i64 kind]] w fun e w' => e = .returned (.int .i64 (placeOf bar kind xs)) ∧ Below w.heap.size w w' := by
 have bd := stDL_bd hs
 have hm := hv.le
 obtain ⟨a, c, rfl, hc1, hc2, HC⟩ := hv.parts
 clear hv
 go_enter Tryz.func294, Tryz.ntmps294
 go_wp2_with fail
 refine (l7Fault_c bar kind hs _).mono ?_
 rintro e w1 ⟨rfl, hb1⟩
 unfold faultV
 have hz1 : w.heap.size < w1.heap.size := by have := hb1.size; simp at this; omega
 go_wp2_with fail
 go_loopw [6, 7] (fun i q wr => ∃ k : Nat, k ≤ xs.length ∧ i = .int .i64 k ∧ Hid (∀ j x, j < k → xs[j]? = some x → finds bar kind x = false) ∧ Below w.heap.size w wr ∧
  wr.cell? ⟨w1.heap.size, 0, none⟩ = some (.int .i64 (stD bar kind)) ∧ wr.cell? ⟨w1.heap.size, 1, none⟩ = some (.int .i64 (stL bar kind))) (fun i _ _ => xs.length - (intOf i).toNat)
 case atStart => exact ⟨0, by omega, rfl, fun j x hj => by omega, by (repeat (first | exact Below.refl _ _ | exact (Below.refl _ _).drew | assumption | exact below_one _ | refine Below.chain ?_ (by assumption) | refine Below.drew ?_ | refine Below.alc ?_ _ | refine below_drewN ?_ | (refine Below.setCell ?_ ?_ _) | exact Nat.le_refl _ | (simp; done) | (simp; omega))), by rw [World.cell?_alloc_at _ _ _ _ rfl]; rfl, by rw [World.cell?_alloc_at _ _ _ _ rfl]; rfl⟩
 case round =>
  obtain ⟨k, hk, rfl, hbef, hb, g0, g1⟩ := hrel
  by_cases hlt : k < xs.length
  · obtain ⟨x, hx⟩ := elem_at hlt
    obtain ⟨b, off, rfl, h0⟩ := HC.out k x hx.out
    have hblt : b < w.heap.size := World.block_lt_of_cell? w _ h0
    have h1 : wr.cell? ⟨b, off + k, none⟩ = some (.int .i64 x) := ((bcell hb).1 _ _ hblt).trans h0
    have hxd := testB_digit ht hx.out
    have bdx := dg_bd x
    clear h0 hb1
    go_wp2_with fail
    refine (l2Digit_c x hxd.1 hxd.2 _).mono ?_
    rintro e w2 ⟨rfl, hb2⟩
    have g02 := cell_later hb2 g0
    have g12 := cell_later hb2 g1
    go_wp2_with fail
    refine (l3Shown_c _ _ _ bd.1 bd.2.1 bd.2.2.1 bd.2.2.2 bdx.1 bdx.2 _).mono ?_
    rintro e w3 ⟨rfl, hb3⟩
    have g03 := cell_later hb3 g02
    have g13 := cell_later hb3 g12
    clear g0 g1 g02 g12
    have hb4 : Below w.heap.size w w3 := by (repeat (first | exact Below.refl _ _ | exact (Below.refl _ _).drew | assumption | exact below_one _ | refine Below.chain ?_ (by assumption) | refine Below.drew ?_ | refine Below.alc ?_ _ | refine below_drewN ?_ | (refine Below.setCell ?_ ?_ _) | exact Nat.le_refl _ | (simp; done) | (simp; omega)))
    rcases hf : finds bar kind x with _ | _
    · have ht2 : (shC (stD bar kind) (stL bar kind) (dg x) != dg x) = false := hf
      have HP := Lib.hid hf; clear hf
      go_wp2
      go_roundw
      case rel => exact ⟨k + 1, by omega, by go_num, fun j y hj hy => by
       by_cases hj2 : j < k
       · exact hbef.out j y hj2 hy
       · obtain rfl : j = k := by omega
         rw [hx.out] at hy; obtain rfl := Option.some.inj hy; exact HP.out, hb4, g03, g13⟩
      case measure => simp [intOf]; omega
    · have ht2 : (shC (stD bar kind) (stL bar kind) (dg x) != dg x) = true := hf
      have HP := Lib.hid hf; clear hf
      go_wp2
      go_ret
      exact ⟨int_ret (firstAt_some hx.out HP.out hbef.out).symm, hb4⟩
  · go_wp2
    go_ret
    exact ⟨int_ret (firstAt_none (by omega) hbef.out).symm, hb⟩
theorem l1Most_c (a b : Int) (w : World) : Calls Tryz.prog 269 #[.int .i64 a, .int .i64 b] w fun e w' => e = .returned (.int .i64 (max a b)) ∧ w = w' := by
 by_cases h : b < a
 · go_enter Tryz.func269, Tryz.ntmps269
   go_wp2
   go_ret
   exact ⟨int_ret (by omega), rfl⟩
 · go_enter Tryz.func269, Tryz.ntmps269
   go_wp2
   go_ret
   exact ⟨int_ret (by omega), rfl⟩
end Go.Proofs.YtohgjfdbnkjefaaGreatDoor
