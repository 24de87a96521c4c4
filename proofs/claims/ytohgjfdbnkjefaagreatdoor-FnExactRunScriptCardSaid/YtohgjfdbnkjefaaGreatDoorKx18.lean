/- Texts of this claim, gathered: Cwu, Cwv, Cww. -/
import Derived.Test.YtohgjfdbnkjefaaGreatDoorKx17
import Derived.Deep.RegionHeld3
namespace Go.Proofs.YtohgjfdbnkjefaaGreatDoor
open Go.RowKit
set_option linter.unusedVariables false
set_option linter.unusedSimpArgs false
set_option maxRecDepth 100000
theorem l2Bars_c (c : Int) (h0 : 0 ≤ c) (h1 : c ≤ 127) (w : World) : Calls Tryz.prog 218 #[.int .i64 c] w fun e w' => e = .returned (.string (bs (barsTo c 7))) ∧ w = w' := by
 obtain ⟨n, rfl⟩ := Int.eq_ofNat_of_zero_le h0
 go_enter Tryz.func218, Tryz.ntmps218
 go_wp2
 go_loopw [3, 4] (fun s j wr => ∃ k : Nat, k ≤ 7 ∧ j = .int .i64 (k : Int) ∧ s = .string (bs (barsTo (n : Int) k)) ∧ w = wr) (fun _ j _ => 8 - (intOf j).toNat)
 case atStart => exact ⟨0, by omega, rfl, rfl, by trivial⟩
 case round =>
  obtain ⟨k, hk, rfl, rfl, rfl⟩ := hrel
  by_cases hlt : k < 7
  · have hd : decide ((k : Int) < 7) = true := by simp; omega
    have hbit := bit_at n k (by omega)
    have hS := barsTo_succ (n : Int) k
    have hsz : (bs (barsTo (n : Int) k)).size ≤ 7 := by rw [bs_size]; exact Nat.le_trans (barsTo_len _ _) hk
    have HP := Lib.hid (bars_piece ⟨k, hlt⟩)
    by_cases hb : n / 2 ^ k % 2 = 1
    · have hS2 : bs (barsTo (n : Int) k) ++ bs [UInt8.ofNat (97 + k)] = bs (barsTo (n : Int) (k + 1)) := by
       rw [bs_append, hS, Int.toNat_natCast, if_pos hb]
      have HS := Lib.hid hS2
      rw [hb] at hbit
      clear hS hS2 hb
      generalize bs (barsTo (n : Int) k) = X at *
      have hs1 : ¬ 9223372036854775807 < X.size + (min (k + 1) 7 - k) := by omega
      go_wp2
      go_roundw
      case rel => exact ⟨k + 1, by omega, by go_num, by rw [← HS.out, ← HP.out], by trivial⟩
      case measure => first | (simp [intOf]; done) | (simp [intOf]; omega)
    · have hb0 : n / 2 ^ k % 2 = 0 := by omega
      have HS := Lib.hid (show barsTo (n : Int) (k + 1) = barsTo (n : Int) k by rw [hS, Int.toNat_natCast, if_neg hb, List.append_nil])
      rw [hb0] at hbit
      clear hS hb hb0 HP
      go_wp2
      go_roundw
      case rel => exact ⟨k + 1, by omega, by go_num, by rw [HS.out], by trivial⟩
      case measure => first | (simp [intOf]; done) | (simp [intOf]; omega)
  · obtain rfl : k = 7 := by omega
    go_wp2
    go_ret
    exact ⟨rfl, rfl⟩
theorem take_map {α β : Type} (f : α → β) {xs : List α} {k : Nat} {x : α} (h : xs[k]? = some x) : (xs.take (k + 1)).map f = (xs.take k).map f ++ [f x] := by
 rw [take_snoc h, List.map_append]; rfl
theorem joinS_snoc {l : List Bs} {x : Bs} (h : l ≠ []) : joinS (l ++ [x]) = joinS l ++ 32 :: x := by
 unfold joinS; rw [join_snoc l x [32] h]; simp
theorem joinS_one (x : Bs) : joinS [x] = x := join_one' x [32]
set_option maxHeartbeats 1000000 in
theorem rowText_c (v : Value) (xs : List Int) (w : World) (hv : Ints w v xs) (hl : xs.length ≤ 1000) (hx : ∀ x ∈ xs, 0 ≤ x ∧ x ≤ 127) :
 Calls Tryz.prog 59 #[v] w fun e w' => e = .returned (.string (bs (rowTx xs))) ∧ Below w.heap.size w w' := by
 obtain ⟨i, hi, hz0, hz1, hz2⟩ := info_parts info_strx
 obtain ⟨a, c, rfl, _, _, HC⟩ := hv.parts
 have HX := Lib.hid hx
 clear hx hv
 go_enter Tryz.func59, Tryz.ntmps59
 go_wp2
 go_loopw [3, 5, 8] (fun o _ j wr => ∃ k : Nat, k ≤ xs.length ∧ j = .int .i64 (k : Int) ∧ wr.ownsRow w.heap.size 9 1 o k (strsV ((xs.take k).map rowW)) ∧ Below w.heap.size w wr) (fun _ _ j _ => xs.length + 1 - (intOf j).toNat)
 case atStart => exact ⟨0, by omega, rfl, World.ownsRow_nil _ _ _ _, Below.refl _ _⟩
 case round =>
  obtain ⟨k, hk, rfl, ho, hb⟩ := hrel
  have HO := Lib.hid ho
  have HB := Lib.hid hb
  clear ho hb
  by_cases hlt : k < xs.length
  · have hd : decide ((k : Int) < (xs.length : Int)) = true := by simp; omega
    obtain ⟨x, hxx⟩ := elem_at hlt
    obtain ⟨b, off, rfl, hc0⟩ := HC.out k x hxx.out
    have hc := cell_later HB.out hc0
    obtain ⟨x0, x1⟩ := HX.out x (List.mem_of_getElem? hxx.out)
    have HS := Lib.hid (take_map rowW hxx.out)
    clear hc0
    generalize hcur : (xs.take k).map rowW = cur at *
    clear hcur
    by_cases hz : x = 0
    · subst hz
      have HW : Hid (rowW 0 = [45]) := rfl
      rw [HW.out] at HS
      go_wp2_with (at_builtin; refine wpList_append_own_at _ rfl _ _ 48 rfl w.heap.size 9 i (.string ⟨#[]⟩) 1 16 Tryz.underlying48 hi hz0 hz1 hz2 rfl (by decide) _ k (strsV cur) rfl (HO.out.alloc _) ⟨wr.heap.size, 0, none⟩ 1 1 [.string ⟨#[45]⟩] rfl rfl (news_new _ [.string ⟨#[45]⟩] _) (by simp [Value.oneCell']) (by unfold maxLen; omega) (by omega) (by have := HB.out.size; simp; omega) ?_)
      intro v' w3 ho5 hg5 _ _
      have hb7 : Below w.heap.size w w3 := (Below.alc HB.out _).grown hg5 (by have := HB.out.size; simp; omega) (fun g hg => (HO.out.lt g hg).1)
      have HO5 := Lib.hid ho5
      have HB7 := Lib.hid hb7
      clear ho5 hg5 hb7
      go_wp2
      go_roundw
      case rel => exact ⟨k + 1, by omega, by go_num, ownsRow_cast HO5.out rfl (by rw [HS.out, strsV_snoc] <;> rfl), HB7.out⟩
      case measure => first | (simp [intOf]; done) | (simp [intOf]; omega)
    · have HW : Hid (rowW x = barsTo x 7) := by show _ = _; unfold rowW; rw [if_neg hz]
      rw [HW.out] at HS
      have hzz : (x == 0) = false := by simp; exact hz
      go_wp2_with fail
      refine (barsOf_c x x0 x1 _).mono ?_
      rintro e w2 ⟨rfl, rfl⟩
      go_wp2_with (at_builtin; refine wpList_append_own_at _ rfl _ _ 48 rfl w.heap.size 9 i (.string ⟨#[]⟩) 1 16 Tryz.underlying48 hi hz0 hz1 hz2 rfl (by decide) _ k (strsV cur) rfl (HO.out.alloc _) ⟨wr.heap.size, 0, none⟩ 1 1 [.string (bs (barsTo x 7))] rfl rfl (news_new _ [.string (bs (barsTo x 7))] _) (by simp [Value.oneCell']) (by unfold maxLen; omega) (by omega) (by have := HB.out.size; simp; omega) ?_)
      intro v' w3 ho5 hg5 _ _
      have hb7 : Below w.heap.size w w3 := (Below.alc HB.out _).grown hg5 (by have := HB.out.size; simp; omega) (fun g hg => (HO.out.lt g hg).1)
      have HO5 := Lib.hid ho5
      have HB7 := Lib.hid hb7
      clear ho5 hg5 hb7
      go_wp2
      go_roundw
      case rel => exact ⟨k + 1, by omega, by go_num, ownsRow_cast HO5.out rfl (by rw [HS.out, strsV_snoc] <;> rfl), HB7.out⟩
      case measure => first | (simp [intOf]; done) | (simp [intOf]; omega)
  · obtain rfl : k = xs.length := by omega
    have hd : decide ((xs.length : Int) < (xs.length : Int)) = false := by simp
    have hsl := Sl.of_own HO.out
    obtain ⟨a2, c2, rfl, _⟩ := hsl.slice
    have HJ := Lib.hid (Join_c _ ((xs.take xs.length).map rowW) wr (by rw [List.length_map, List.take_length]; rw [List.take_length] at hsl; exact hsl) (by rw [List.length_map, List.take_length]; omega) (fun y hy => by obtain ⟨z, _, rfl⟩ := List.mem_map.1 hy; have := rowW_len z; omega))
    rw [List.take_length] at HJ
    clear hsl
    go_wp2_with fail
    refine HJ.out.mono ?_
    rintro e w4 ⟨rfl, hb⟩
    have HB4 := Lib.hid (Below.chain HB.out hb)
    clear hb
    go_wp2
    go_ret
    exact ⟨rfl, HB4.out⟩
set_option maxHeartbeats 1000000 in
theorem listText_c (v : Value) (xs : List Int) (w : World) (hv : Ints w v xs) (hl : xs.length ≤ 1000) (hx : ∀ x ∈ xs, 0 ≤ x ∧ x ≤ 999999) (ht : Tab w) :
 Calls Tryz.prog 194 #[v] w fun e w' => e = .returned (.string (bs (listT xs))) ∧ Below w.heap.size w w' := by
 obtain ⟨i, hi, hz0, hz1, hz2⟩ := info_parts info_strx
 obtain ⟨a, c, rfl, _, _, HC⟩ := hv.parts
 have HX := Lib.hid hx
 clear hx hv
 have HT := Lib.hid ht
 clear ht
 by_cases hnil : xs = []
 · subst hnil
   go_enter Tryz.func194, Tryz.ntmps194
   go_wp2
   go_ret
   exact ⟨rfl, Below.refl _ _⟩
 have hpos : 0 < xs.length := List.length_pos_iff.2 hnil
 have hne : ((xs.length : Int) == 0) = false := by simp; omega
 have HN := Lib.hid hnil
 clear hnil
 go_enter Tryz.func194, Tryz.ntmps194
 go_wp2
 go_loopw [3, 5, 11] (fun o _ j wr => ∃ k : Nat, k ≤ xs.length ∧ j = .int .i64 (k : Int) ∧ wr.ownsRow w.heap.size 9 1 o k (strsV ((xs.take k).map Lib.itoa)) ∧ Below w.heap.size w wr) (fun _ _ j _ => xs.length + 1 - (intOf j).toNat)
 case atStart => exact ⟨0, by omega, rfl, World.ownsRow_nil _ _ _ _, Below.refl _ _⟩
 case round =>
  obtain ⟨k, hk, rfl, ho, hb⟩ := hrel
  have HO := Lib.hid ho
  have HB := Lib.hid hb
  clear ho hb
  by_cases hlt : k < xs.length
  · have hd : decide ((k : Int) < (xs.length : Int)) = true := by simp; omega
    obtain ⟨x, hxx⟩ := elem_at hlt
    obtain ⟨b, off, rfl, hc0⟩ := HC.out k x hxx.out
    have hc := cell_later HB.out hc0
    obtain ⟨x0, x1⟩ := HX.out x (List.mem_of_getElem? hxx.out)
    have HS := Lib.hid (take_map Lib.itoa hxx.out)
    clear hc0
    generalize hcur : (xs.take k).map Lib.itoa = cur at *
    clear hcur
    go_wp2_with fail
    refine (Itoa_c x x0 (by omega) _ (HT.out.on HB.out)).mono ?_
    rintro e w2 ⟨rfl, hb2⟩
    have HO2 := Lib.hid (own_keep HO.out hb2)
    have HB2 := Lib.hid (Below.chain HB.out hb2)
    clear hb2 HO HB
    have HO := HO2
    have HB := HB2
    clear HO2 HB2
    go_wp2_with (at_builtin; refine wpList_append_own_at _ rfl _ _ 48 rfl w.heap.size 9 i (.string ⟨#[]⟩) 1 16 Tryz.underlying48 hi hz0 hz1 hz2 rfl (by decide) _ k (strsV cur) rfl (HO.out.alloc _) ⟨w2.heap.size, 0, none⟩ 1 1 [.string (bs (Lib.itoa x))] rfl rfl (news_new _ [.string (bs (Lib.itoa x))] _) (by simp [Value.oneCell']) (by unfold maxLen; omega) (by omega) (by have := HB.out.size; simp; omega) ?_)
    intro v' w3 ho5 hg5 _ _
    have hb7 : Below w.heap.size w w3 := (Below.alc HB.out _).grown hg5 (by have := HB.out.size; simp; omega) (fun g hg => (HO.out.lt g hg).1)
    have HO5 := Lib.hid ho5
    have HB7 := Lib.hid hb7
    clear ho5 hg5 hb7
    go_wp2
    go_roundw
    case rel => exact ⟨k + 1, by omega, by go_num, ownsRow_cast HO5.out rfl (by rw [HS.out, strsV_snoc] <;> rfl), HB7.out⟩
    case measure => first | (simp [intOf]; done) | (simp [intOf]; omega)
  · obtain rfl : k = xs.length := by omega
    have hd : decide ((xs.length : Int) < (xs.length : Int)) = false := by simp
    have hsl := Sl.of_own HO.out
    obtain ⟨a2, c2, rfl, _⟩ := hsl.slice
    have HJ := Lib.hid (Join_c _ ((xs.take xs.length).map Lib.itoa) wr (by rw [List.length_map, List.take_length]; rw [List.take_length] at hsl; exact hsl) (by rw [List.length_map, List.take_length]; omega) (fun y hy => by obtain ⟨z, hz, rfl⟩ := List.mem_map.1 hy; have hz2 := HX.out z (List.mem_of_mem_take hz); have := itoa_len hz2.1 (by omega); omega))
    rw [List.take_length] at HJ
    clear hsl
    go_wp2_with fail
    refine HJ.out.mono ?_
    rintro e w4 ⟨rfl, hb⟩
    have HB4 := Lib.hid (Below.chain HB.out hb)
    clear hb
    go_wp2
    go_ret
    exact ⟨by unfold listT; rw [if_neg HN.out]; rfl, HB4.out⟩
set_option maxHeartbeats 1000000 in
theorem l2Text_c (v : Value) (xs : List Int) (w : World) (hv : Ints w v xs) (hl : xs.length ≤ 1000) (hx : ∀ x ∈ xs, 0 ≤ x ∧ x ≤ 127) :
 Calls Tryz.prog 171 #[v] w fun e w' => e = .returned (.string (bs (rowTx xs))) ∧ w = w' := by
 obtain ⟨a, c, rfl, _, _, HC⟩ := hv.parts
 have HX := Lib.hid hx
 clear hx hv
 go_enter Tryz.func171, Tryz.ntmps171
 go_wp2
 go_loopw [3, 4] (fun s j wr => ∃ k : Nat, k ≤ xs.length ∧ j = .int .i64 (k : Int) ∧ s = .string (bs (joinS ((xs.take k).map rowW))) ∧ w = wr) (fun _ j _ => xs.length + 1 - (intOf j).toNat)
 case atStart => exact ⟨0, by omega, rfl, rfl, by trivial⟩
 case round =>
  obtain ⟨k, hk, rfl, rfl, rfl⟩ := hrel
  by_cases hlt : k < xs.length
  · have hd : decide ((k : Int) < (xs.length : Int)) = true := by simp; omega
    obtain ⟨x, hxx⟩ := elem_at hlt
    obtain ⟨b, off, rfl, hc⟩ := HC.out k x hxx.out
    obtain ⟨x0, x1⟩ := HX.out x (List.mem_of_getElem? hxx.out)
    have hS := take_map rowW hxx.out
    have hlen : (bs (joinS ((xs.take k).map rowW))).size ≤ 1001000 := by
     rw [bs_size]
     refine Nat.le_trans (join_len _ (fun y hy => ?_)) (by rw [List.length_map, List.length_take]; omega)
     obtain ⟨z, _, rfl⟩ := List.mem_map.1 hy
     have := rowW_len z; omega
    have hW : bs (rowW x) = (if x = 0 then ⟨#[45]⟩ else ⟨#[]⟩) ++ bs (barsTo x 7) := by
     unfold rowW
     split
     · rename_i hz; subst hz; rfl
     · exact ByteArray.ext (by simp [bs])
    have hJ : bs (joinS ((xs.take (k + 1)).map rowW)) = (if k = 0 then ⟨#[]⟩ else bs (joinS ((xs.take k).map rowW)) ++ ⟨#[32]⟩) ++ bs (rowW x) := by
     rw [hS]
     split
     · rename_i hz; subst hz
       simp only [List.take_zero, List.map_nil, List.nil_append, joinS_one]
       exact ByteArray.ext (by simp [bs])
     · rename_i hz
       rw [joinS_snoc (by intro h; have := congrArg List.length h; rw [List.length_map, List.length_take, List.length_nil] at this; omega)]
       exact ByteArray.ext (by simp [bs])
    rw [hW] at hJ
    have h0 : k = 0 → bs (joinS ((xs.take k).map rowW)) = ⟨#[]⟩ := fun h => by subst h; rfl
    have H0 := Lib.hid h0
    have HJ := Lib.hid hJ
    have hbl : (bs (barsTo x 7)).size ≤ 7 := by rw [bs_size]; exact barsTo_len x 7
    have HL := Lib.hid (l2Bars_c x x0 x1)
    clear hS hW hJ h0
    generalize bs (joinS ((xs.take k).map rowW)) = X at *
    generalize bs (barsTo x 7) = Y at *
    have s1 : ¬ 9223372036854775807 < X.size + 1 := by omega
    have s2 : ¬ 9223372036854775807 < X.size + 1 + 1 := by omega
    have s3 : ¬ 9223372036854775807 < X.size + 1 + 1 + Y.size := by omega
    have s4 : ¬ 9223372036854775807 < X.size + 1 + Y.size := by omega
    have s5 : ¬ 9223372036854775807 < X.size + Y.size := by omega
    by_cases hk0 : k = 0
    · subst hk0
      have hX := H0.out rfl
      have hc0 : w.cell? ⟨b, off, none⟩ = some (.int .i64 x) := hc
      rw [if_pos rfl] at HJ
      by_cases hz : x = 0
      · subst hz
        rw [if_pos rfl] at HJ
        go_wp2_with fail
        refine (HL.out _).mono ?_
        rintro e w2 ⟨rfl, rfl⟩
        go_wp2
        go_roundw
        case rel => exact ⟨1, by omega, by go_num, by rw [HJ.out]; exact congrArg Value.string (ByteArray.ext (by simp)), by trivial⟩
        case measure => first | (simp [intOf]; done) | (simp [intOf]; omega)
      · rw [if_neg hz] at HJ
        have hzz : (x == 0) = false := by simp; exact hz
        go_wp2_with fail
        refine (HL.out _).mono ?_
        rintro e w2 ⟨rfl, rfl⟩
        go_wp2
        go_roundw
        case rel => exact ⟨1, by omega, by go_num, by rw [HJ.out]; exact congrArg Value.string (ByteArray.ext (by simp)), by trivial⟩
        case measure => first | (simp [intOf]; done) | (simp [intOf]; omega)
    · rw [if_neg hk0] at HJ
      have hk1 : decide ((0 : Int) < (k : Int)) = true := by simp; omega
      by_cases hz : x = 0
      · subst hz
        rw [if_pos rfl] at HJ
        go_wp2_with fail
        refine (HL.out _).mono ?_
        rintro e w2 ⟨rfl, rfl⟩
        go_wp2
        go_roundw
        case rel => exact ⟨k + 1, by omega, by go_num, by rw [HJ.out]; exact congrArg Value.string (ByteArray.ext (by simp)), by trivial⟩
        case measure => first | (simp [intOf]; done) | (simp [intOf]; omega)
      · rw [if_neg hz] at HJ
        have hzz : (x == 0) = false := by simp; exact hz
        go_wp2_with fail
        refine (HL.out _).mono ?_
        rintro e w2 ⟨rfl, rfl⟩
        go_wp2
        go_roundw
        case rel => exact ⟨k + 1, by omega, by go_num, by rw [HJ.out]; exact congrArg Value.string (ByteArray.ext (by simp)), by trivial⟩
        case measure => first | (simp [intOf]; done) | (simp [intOf]; omega)
  · obtain rfl : k = xs.length := by omega
    have hd : decide ((xs.length : Int) < (xs.length : Int)) = false := by simp
    have HE : Hid (rowTx xs = joinS ((xs.take xs.length).map rowW)) := by show _ = _; rw [List.take_length]; rfl
    go_wp2
    go_ret
    exact ⟨by rw [HE.out]; rfl, rfl⟩
set_option maxHeartbeats 1000000 in
theorem l12List_c (v : Value) (xs : List Int) (ok : Bool) (w : World) (hv : Ints w v xs) (hl : xs.length ≤ 1000) (hx : ok = true → ∀ x ∈ xs, 0 ≤ x ∧ x ≤ 999999) :
 Calls Tryz.prog 176 #[v, .bool ok] w fun e w' => e = .returned (.string (bs (if ok then listT xs else [63]))) ∧ Below w.heap.size w w' := by
 obtain ⟨a, c, rfl, _, _, HC⟩ := hv.parts
 have HX := Lib.hid hx
 clear hx hv
 cases ok with
 | false =>
  go_enter Tryz.func176, Tryz.ntmps176
  go_wp2
  go_ret
  exact ⟨rfl, Below.refl _ _⟩
 | true =>
  by_cases hnil : xs = []
  · subst hnil
    go_enter Tryz.func176, Tryz.ntmps176
    go_wp2
    go_ret
    exact ⟨rfl, Below.refl _ _⟩
  have hpos : 0 < xs.length := List.length_pos_iff.2 hnil
  have hne : ((xs.length : Int) == 0) = false := by simp; omega
  have HN := Lib.hid (show listT xs = joinS (xs.map Lib.itoa) by unfold listT; rw [if_neg hnil])
  clear hnil
  obtain ⟨y, hyy⟩ := elem_at hpos
  obtain ⟨b, off, rfl, hc⟩ := HC.out 0 y hyy.out
  obtain ⟨y0, y1⟩ := HX.out rfl y (List.mem_of_getElem? hyy.out)
  obtain ⟨u, rfl⟩ := Int.eq_ofNat_of_zero_le y0
  have hc0 : w.cell? ⟨b, off, none⟩ = some (.int .i64 (u : Int)) := hc
  have HL1 := Lib.hid (l1Num_c u w (by omega))
  have h1S : (xs.take 1).map Lib.itoa = [Lib.itoa (u : Int)] := by
   have := take_map Lib.itoa hyy.out
   simpa using this
  have H1S := Lib.hid h1S
  clear h1S
  go_enter Tryz.func176, Tryz.ntmps176
  go_wp2_with fail
  refine HL1.out.mono ?_
  rintro e w1 ⟨rfl, hb1⟩
  have HB1 := Lib.hid hb1
  clear hb1
  go_wp2
  go_loopw [5, 6] (fun s j wr => ∃ k : Nat, 1 ≤ k ∧ k ≤ xs.length ∧ j = .int .i64 (k : Int) ∧ s = .string (bs (joinS ((xs.take k).map Lib.itoa))) ∧ Below w.heap.size w wr) (fun _ j _ => xs.length + 1 - (intOf j).toNat)
  case atStart => exact ⟨1, by omega, by omega, rfl, by rw [H1S.out, joinS_one]; rw [itoa_nat], HB1.out⟩
  case round =>
   obtain ⟨k, hk1, hk, rfl, rfl, hb⟩ := hrel
   have HB := Lib.hid hb
   clear hb
   by_cases hlt : k < xs.length
   · have hd : decide ((k : Int) < (xs.length : Int)) = true := by simp; omega
     obtain ⟨x, hxx⟩ := elem_at hlt
     obtain ⟨b2, off2, he2, hcx⟩ := HC.out k x hxx.out
     simp only [Option.some.injEq, Addr.mk.injEq, and_true] at he2
     obtain ⟨rfl, rfl⟩ := he2
     have hc2 := cell_later HB.out hcx
     obtain ⟨x0, x1⟩ := HX.out (by first | rfl | trivial) x (List.mem_of_getElem? hxx.out)
     obtain ⟨z, rfl⟩ := Int.eq_ofNat_of_zero_le x0
     have hS := take_map Lib.itoa hxx.out
     have hlen : (bs (joinS ((xs.take k).map Lib.itoa))).size ≤ 1001000 := by
      rw [bs_size]
      refine Nat.le_trans (join_len _ (fun y hy => ?_)) (by rw [List.length_map, List.length_take]; omega)
      obtain ⟨q, hq, rfl⟩ := List.mem_map.1 hy
      have hq2 := HX.out (by first | rfl | trivial) q (List.mem_of_mem_take hq)
      have := itoa_len hq2.1 (by omega); omega
     have hJ : bs (joinS ((xs.take (k + 1)).map Lib.itoa)) = bs (joinS ((xs.take k).map Lib.itoa)) ++ ⟨#[32]⟩ ++ bs (Lib.decDigits z) := by
      rw [hS, joinS_snoc (by intro h; have := congrArg List.length h; rw [List.length_map, List.length_take, List.length_nil] at this; omega)]
      rw [itoa_nat]
      exact ByteArray.ext (by simp [bs])
     have HJ := Lib.hid hJ
     have HL := Lib.hid (fun W => l1Num_c z W (by omega))
     have hzs := dec_size (u := z) (by omega)
     clear hS hJ hc hcx
     generalize bs (joinS ((xs.take k).map Lib.itoa)) = X at *
     generalize bs (Lib.decDigits z) = Y at *
     have s1 : ¬ 9223372036854775807 < X.size + 1 := by omega
     have s3 : ¬ 9223372036854775807 < X.size + 1 + Y.size := by omega
     go_wp2_with fail
     refine (HL.out _).mono ?_
     rintro e w2 ⟨rfl, hb2⟩
     have HB2 := Lib.hid (Below.chain HB.out hb2)
     clear hb2
     go_wp2
     go_roundw
     case rel => exact ⟨k + 1, by omega, by omega, by go_num, by rw [HJ.out], HB2.out⟩
     case measure => first | (simp [intOf]; done) | (simp [intOf]; omega)
   · obtain rfl : k = xs.length := by omega
     have hd : decide ((xs.length : Int) < (xs.length : Int)) = false := by simp
     have HE : Hid (joinS ((xs.take xs.length).map Lib.itoa) = listT xs) := by show _ = _; rw [List.take_length, HN.out]
     go_wp2
     go_ret
     exact ⟨by rw [HN.out]; rfl, HB.out⟩
theorem back_chain {w a b : World} (k : Below a.heap.size a b) (h : Below w.heap.size w a) : Below w.heap.size w b := Below.chain h k
theorem reportText_c (b : Bool) (w : World) : Calls Tryz.prog 149 #[.bool b] w fun e w' => e = .returned (.string (bs (yesT b))) ∧ w = w' := by
 cases b
 · go_enter Tryz.func149, Tryz.ntmps149
   go_wp2
   go_ret
   exact ⟨rfl, rfl⟩
 · go_enter Tryz.func149, Tryz.ntmps149
   go_wp2
   go_ret
   exact ⟨rfl, rfl⟩
theorem l12Yes_c (b ok : Bool) (w : World) : Calls Tryz.prog 181 #[.bool b, .bool ok] w fun e w' => e = .returned (.string (bs (if ok then yesT b else [63]))) ∧ w = w' := by
 cases ok <;> cases b
 · go_enter Tryz.func181, Tryz.ntmps181
   go_wp2
   go_ret
   exact ⟨rfl, rfl⟩
 · go_enter Tryz.func181, Tryz.ntmps181
   go_wp2
   go_ret
   exact ⟨rfl, rfl⟩
 · go_enter Tryz.func181, Tryz.ntmps181
   go_wp2
   go_ret
   exact ⟨rfl, rfl⟩
 · go_enter Tryz.func181, Tryz.ntmps181
   go_wp2
   go_ret
   exact ⟨rfl, rfl⟩
theorem l12Say_c (n : Nat) (ok : Bool) (w : World) (hn : n < 4611686018427387904) : Calls Tryz.prog 173 #[.int .i64 (n : Int), .bool ok] w fun e w' => e = .returned (.string (bs (if ok then Lib.decDigits n else [63]))) ∧ Below w.heap.size w w' := by
 cases ok
 · go_enter Tryz.func173, Tryz.ntmps173
   go_wp2
   go_ret
   exact ⟨rfl, Below.refl _ _⟩
 · have HL := Lib.hid (fun W => l1Num_c n W hn)
   go_enter Tryz.func173, Tryz.ntmps173
   go_wp2_with fail
   refine (HL.out _).mono ?_
   rintro e w1 ⟨rfl, hb⟩
   have HB := Lib.hid hb
   clear hb
   go_wp2
   go_ret
   exact ⟨rfl, HB.out⟩
theorem ItoaN_c (n : Nat) (h1 : n ≤ 999999) (w : World) (ht : Tab w) : Calls Tryz.prog 116 #[.int .i64 (n : Int)] w fun e w' => e = .returned (.string (bs (Lib.decDigits n))) ∧ Below w.heap.size w w' := by
 have h := ItoaI_c (n : Int) (by omega) (by omega) w ht
 rw [itoa_nat] at h; exact h
set_option maxHeartbeats 1000000 in
theorem fractionText_c (a b : Nat) (ha : a ≤ 999999) (hb : b ≤ 999999) (w : World) (ht : Tab w) :
 Calls Tryz.prog 151 #[.agg #[.int .i64 (a : Int), .int .i64 (b : Int)]] w fun e w' => e = .returned (.string (bs (partT a b))) ∧ Below w.heap.size w w' := by
 have q0 : (w.alloc (.cells #[.int .i64 (a : Int), .int .i64 (b : Int)] 174)).cell? ⟨w.heap.size, 0, none⟩ = some (.int .i64 (a : Int)) := (Bk.new w 174 #[.int .i64 (a : Int), .int .i64 (b : Int)]).cell 0
 have q1 : (w.alloc (.cells #[.int .i64 (a : Int), .int .i64 (b : Int)] 174)).cell? ⟨w.heap.size, 1, none⟩ = some (.int .i64 (b : Int)) := (Bk.new w 174 #[.int .i64 (a : Int), .int .i64 (b : Int)]).cell 1
 have HB0 := Lib.hid (below_one (w := w) (.cells #[.int .i64 (a : Int), .int .i64 (b : Int)] 174))
 have hsa := dec_size ha
 have hsb := dec_size hb
 have HE := Lib.hid (show bs (Lib.decDigits a) ++ ⟨#[47]⟩ ++ bs (Lib.decDigits b) = bs (partT a b) from ByteArray.ext (by simp [bs, partT]))
 have HT := Lib.hid (ht.on HB0.out)
 have HA := Lib.hid (fun W h => ItoaN_c a ha W h)
 have HB := Lib.hid (fun W h => ItoaN_c b hb W h)
 clear ht
 generalize bs (Lib.decDigits a) = X at *
 generalize bs (Lib.decDigits b) = Y at *
 have s1 : ¬ 9223372036854775807 < X.size + 1 := by omega
 have s2 : ¬ 9223372036854775807 < X.size + 1 + Y.size := by omega
 go_enter Tryz.func151, Tryz.ntmps151
 go_wp2_with fail
 generalize World.alloc w (.cells #[.int .i64 (a : Int), .int .i64 (b : Int)] 174) = wz at *
 refine wp_region_noPanic ?_
 refine wp_region_held_drew (S := fun w' : World => Below wz.heap.size wz w') (by kernel_rfl) (Below.refl _ _).drew (fun hHeld => ?_)
 refine' tkY 0 hHeld ?r_1
 try simp only [Act.put, xqA, xqB, xqC]
 refine' tkX 1 hHeld ?y_2 ?r_2
 case y_2 => exact Or.inl ⟨by rfl, by (intro w hSw; have h0 := cell_later hSw q0; have h1 := cell_later hSw q1; go_simp; first | done | with_reducible rfl)⟩
 try simp only [Act.put, xqA, xqB, xqC]
 refine' tkY 4 hHeld ?r_3
 try simp only [Act.put, xqA, xqB, xqC]
 refine' tkX 5 hHeld ?y_4 ?r_4
 case y_4 => exact Or.inl ⟨by rfl, by (intro w hSw; have h0 := cell_later hSw q0; have h1 := cell_later hSw q1; go_simp; first | done | with_reducible rfl)⟩
 try simp only [Act.put, xqA, xqB, xqC]
 refine wpAnyH_ready (rs := [2]) (by kernel_rfl) (by simp) ?_
 refine' AllReadyH.cons (o := _) ?e_5 ?st_5 AllReadyH.nil
 case e_5 => (simp only [xeA, xeB, xeC]; exact rfl)
 intro K hK
 go_simp
 have lB := hHeld
 refine (HA.out _ (HT.out.on lB)).mono ?_
 rintro e c1 ⟨rfl, hb1⟩
 go_wp2_with fail
 refine hK.out _ _ (back_chain hb1 lB) (fun hHeld => ?_)
 clear lB hb1
 clear hK K
 try simp only [Act.put, xqA, xqB, xqC]
 refine' tkY 3 hHeld ?r_6
 try simp only [Act.put, xqA, xqB, xqC]
 refine wpAnyH_ready (rs := [6]) (by kernel_rfl) (by simp) ?_
 refine' AllReadyH.cons (o := _) ?e_7 ?st_7 AllReadyH.nil
 case e_7 => (simp only [xeA, xeB, xeC]; exact rfl)
 intro K hK
 go_simp
 have lB := hHeld
 refine (HB.out _ (HT.out.on lB)).mono ?_
 rintro e c2 ⟨rfl, hb2⟩
 go_wp2_with fail
 refine hK.out _ _ (back_chain hb2 lB) (fun hHeld => ?_)
 clear lB hb2
 clear hK K
 try simp only [Act.put, xqA, xqB, xqC]
 refine' tkY 7 hHeld ?r_8
 try simp only [Act.put, xqA, xqB, xqC]
 refine' tkY 8 hHeld ?r_9
 try simp only [Act.put, xqA, xqB, xqC]
 refine wpAnyH_done (by kernel_rfl) ?_ _
 refine NoPanic.normal ?_
 have HBZ := Lib.hid (Below.chain HB0.out hHeld)
 clear hHeld
 go_wp2
 go_ret
 exact ⟨by rw [HE.out]; rfl, HBZ.out⟩
set_option maxHeartbeats 1000000 in
theorem l12Part_c (a b : Nat) (ok : Bool) (ha : a ≤ 999999) (hb : b ≤ 999999) (w : World) :
 Calls Tryz.prog 179 #[.agg #[.int .i64 (a : Int), .int .i64 (b : Int)], .bool ok] w fun e w' => e = .returned (.string (bs (if ok then partT a b else [63]))) ∧ Below w.heap.size w w' := by
 cases ok with
 | false =>
  go_enter Tryz.func179, Tryz.ntmps179
  go_wp2
  go_ret
  exact ⟨rfl, below_one _⟩
 | true =>
  have q0 : (w.alloc (.cells #[.int .i64 (a : Int), .int .i64 (b : Int)] 174)).cell? ⟨w.heap.size, 0, none⟩ = some (.int .i64 (a : Int)) := (Bk.new w 174 #[.int .i64 (a : Int), .int .i64 (b : Int)]).cell 0
  have q1 : (w.alloc (.cells #[.int .i64 (a : Int), .int .i64 (b : Int)] 174)).cell? ⟨w.heap.size, 1, none⟩ = some (.int .i64 (b : Int)) := (Bk.new w 174 #[.int .i64 (a : Int), .int .i64 (b : Int)]).cell 1
  have HB0 := Lib.hid (below_one (w := w) (.cells #[.int .i64 (a : Int), .int .i64 (b : Int)] 174))
  have hsa := dec_size ha
  have hsb := dec_size hb
  have HE := Lib.hid (show bs (Lib.decDigits a) ++ ⟨#[47]⟩ ++ bs (Lib.decDigits b) = bs (partT a b) from ByteArray.ext (by simp [bs, partT]))
  have HA := Lib.hid (fun W => l1Num_c a W (by omega))
  have HB := Lib.hid (fun W => l1Num_c b W (by omega))
  generalize bs (Lib.decDigits a) = X at *
  generalize bs (Lib.decDigits b) = Y at *
  have s1 : ¬ 9223372036854775807 < X.size + 1 := by omega
  have s2 : ¬ 9223372036854775807 < X.size + 1 + Y.size := by omega
  go_enter Tryz.func179, Tryz.ntmps179
  go_wp2_with fail
  generalize World.alloc w (.cells #[.int .i64 (a : Int), .int .i64 (b : Int)] 174) = wz at *
  refine wp_region_noPanic ?_
  refine wp_region_held_drew (S := fun w' : World => Below wz.heap.size wz w') (by kernel_rfl) (Below.refl _ _).drew (fun hHeld => ?_)
  refine' tkY 0 hHeld ?r_10
  try simp only [Act.put, xqA, xqB, xqC]
  refine' tkX 1 hHeld ?y_11 ?r_11
  case y_11 => exact Or.inl ⟨by rfl, by (intro w hSw; have h0 := cell_later hSw q0; have h1 := cell_later hSw q1; go_simp; first | done | with_reducible rfl)⟩
  try simp only [Act.put, xqA, xqB, xqC]
  refine' tkY 4 hHeld ?r_12
  try simp only [Act.put, xqA, xqB, xqC]
  refine' tkX 5 hHeld ?y_13 ?r_13
  case y_13 => exact Or.inl ⟨by rfl, by (intro w hSw; have h0 := cell_later hSw q0; have h1 := cell_later hSw q1; go_simp; first | done | with_reducible rfl)⟩
  try simp only [Act.put, xqA, xqB, xqC]
  refine wpAnyH_ready (rs := [2]) (by kernel_rfl) (by simp) ?_
  refine' AllReadyH.cons (o := _) ?e_14 ?st_14 AllReadyH.nil
  case e_14 => (simp only [xeA, xeB, xeC]; exact rfl)
  intro K hK
  go_simp
  have lB := hHeld
  refine (HA.out _ ).mono ?_
  rintro e c1 ⟨rfl, hb1⟩
  go_wp2_with fail
  refine hK.out _ _ (back_chain hb1 lB) (fun hHeld => ?_)
  clear lB hb1
  clear hK K
  try simp only [Act.put, xqA, xqB, xqC]
  refine' tkY 3 hHeld ?r_15
  try simp only [Act.put, xqA, xqB, xqC]
  refine wpAnyH_ready (rs := [6]) (by kernel_rfl) (by simp) ?_
  refine' AllReadyH.cons (o := _) ?e_16 ?st_16 AllReadyH.nil
  case e_16 => (simp only [xeA, xeB, xeC]; exact rfl)
  intro K hK
  go_simp
  have lB := hHeld
  refine (HB.out _ ).mono ?_
  rintro e c2 ⟨rfl, hb2⟩
  go_wp2_with fail
  refine hK.out _ _ (back_chain hb2 lB) (fun hHeld => ?_)
  clear lB hb2
  clear hK K
  try simp only [Act.put, xqA, xqB, xqC]
  refine' tkY 7 hHeld ?r_17
  try simp only [Act.put, xqA, xqB, xqC]
  refine' tkY 8 hHeld ?r_18
  try simp only [Act.put, xqA, xqB, xqC]
  refine wpAnyH_done (by kernel_rfl) ?_ _
  refine NoPanic.normal ?_
  have HBZ := Lib.hid (Below.chain HB0.out hHeld)
  clear hHeld
  go_wp2
  go_ret
  exact ⟨by rw [HE.out]; rfl, HBZ.out⟩
theorem Index_c (v : Value) (xs : List Int) (x : Int) (w : World) (hv : Ints w v xs) :
 Calls Tryz.prog 113 #[v, .int .i64 x] w fun e w' => e = .returned (.int .i64 (firstAt (fun y => decide (x = y)) xs)) ∧ w = w' := by
 obtain ⟨a, c, rfl, hc1, hc2, HC⟩ := hv.parts
 have hlen := hv.le
 clear hv
 go_enter Tryz.func113, Tryz.ntmps113
 go_wp2
 go_loopw [5, 8] (fun _ i wr => ∃ k : Nat, k ≤ xs.length ∧ i = .int .i64 k ∧ Hid (∀ j y, j < k → xs[j]? = some y → decide (x = y) = false) ∧ w = wr) (fun _ i _ => xs.length + 1 - (intOf i).toNat)
 case atStart => exact ⟨0, by omega, rfl, (fun j y hj => by omega), by trivial⟩
 case round =>
  obtain ⟨k, hk, rfl, hbef, rfl⟩ := hrel
  by_cases hlt : k < xs.length
  · have hd : decide ((k : Int) < (xs.length : Int)) = true := by simp; omega
    obtain ⟨y, hy⟩ := elem_at hlt
    obtain ⟨b, off, rfl, g0⟩ := HC.out k y hy.out
    by_cases hxy : x = y
    · subst hxy
      have HV := Lib.hid (firstAt_some (p := fun y => decide (x = y)) hy.out (by simp) hbef.out)
      have hee : (x == x) = true := by simp
      go_wp2
      go_ret
      exact ⟨by rw [HV.out]; rfl, rfl⟩
    · have hee : (x == y) = false := by simp; exact hxy
      have HX := Lib.hid hxy
      clear hxy
      go_wp2
      go_roundw
      case rel => exact ⟨k + 1, by omega, by go_num, (fun j z hj hz => by
       by_cases hj2 : j < k
       · exact hbef.out j z hj2 hz
       · obtain rfl : j = k := by omega
         rw [hy.out] at hz; obtain rfl := Option.some.inj hz; exact decide_eq_false HX.out), by trivial⟩
      case measure => first | (simp [intOf]; done) | (simp [intOf]; omega)
  · have hd : decide ((k : Int) < (xs.length : Int)) = false := by simp; omega
    have HV := Lib.hid (firstAt_none (p := fun y => decide (x = y)) (by omega) hbef.out)
    go_wp2
    go_ret
    exact ⟨by rw [HV.out]; rfl, rfl⟩
theorem digs_at {j : Nat} {y : Int} (h : dig[j]? = some y) : j < 10 ∧ y = dg (j : Int) := by
 have hl := (List.getElem?_eq_some_iff.1 h).1
 refine ⟨hl, ?_⟩
 unfold dg
 rw [Int.toNat_natCast, List.getD_eq_getElem?_getD, h]; rfl
theorem digs_get {j : Nat} (h : j < 10) : dig[j]? = some (dg (j : Int)) := by
 have hl : j < dig.length := h
 unfold dg
 rw [Int.toNat_natCast, List.getD_eq_getElem?_getD, List.getElem?_eq_getElem hl]; rfl
theorem first_dig (c : Int) : firstAt (fun y => decide (c = y)) dig = dgI c := by
 unfold dgI
 cases h : digO c with
 | none =>
  have hn : ∀ (j : Nat) y, j < 10 → dig[j]? = some y → decide (c = y) = false := fun j y hj hy => by
   obtain ⟨_, rfl⟩ := digs_at hy
   unfold digO at h
   rw [List.find?_eq_none] at h
   have := h j (by simpa using hj)
   exact decide_eq_false fun e => this (by simp [e])
  exact firstAt_none (by decide) hn
 | some d =>
  unfold digO at h
  rw [List.find?_eq_some_iff_getElem] at h
  obtain ⟨h1, i, hi, he, hb⟩ := h
  simp only [List.getElem_range] at he
  subst he
  have hi10 : i < 10 := by simpa using hi
  exact firstAt_some (digs_get hi10) (by simp at h1; simp [h1]) (fun j y hj hy => by
   obtain ⟨hj10, rfl⟩ := digs_at hy
   have := hb j hj
   simp at this
   exact decide_eq_false fun e => this e.symm)
theorem ints_bk {w : World} {g t : Nat} {xs : List Int} (h : Bk w g t (xs.map (Value.int .i64)).toArray) (hl : xs.length ≤ 1000) : Ints w (.slice (some ⟨g, 0, none⟩) xs.length xs.length) xs :=
 ⟨_, _, rfl, Nat.le_refl _, by unfold maxLen; omega, by simp, fun _ => ⟨g, 0, rfl, fun j hj => by rw [Nat.zero_add, h.cell j]; simp⟩⟩
theorem digitOf_c (c : Int) (w : World) : Calls Tryz.prog 60 #[.int .i64 c] w fun e w' => e = .returned (.int .i64 (dgI c)) ∧ Below w.heap.size w w' := by
 have HD := Lib.hid (first_dig c)
 go_enter Tryz.func60, Tryz.ntmps60
 go_wp2_with fail
 refine (digitCells_c _).mono ?_
 rintro e w1 ⟨rfl, hb1⟩
 have HB := Lib.hid (Below.alc hb1 (.cells #[.int .i64 63, .int .i64 6, .int .i64 91, .int .i64 79, .int .i64 102, .int .i64 109, .int .i64 125, .int .i64 7, .int .i64 127, .int .i64 111] 140))
 have HI := Lib.hid (ints_bk (xs := dig) (Bk.new w1 140 #[.int .i64 63, .int .i64 6, .int .i64 91, .int .i64 79, .int .i64 102, .int .i64 109, .int .i64 125, .int .i64 7, .int .i64 127, .int .i64 111]) (by decide))
 clear hb1
 unfold digA
 go_wp2_with fail
 refine (Index_c _ dig c _ HI.out).mono ?_
 rintro e w2 ⟨rfl, rfl⟩
 rw [HD.out]
 go_wp2
 go_ret
 exact ⟨rfl, HB.out⟩
theorem l2DigitOf_c (c : Int) (w : World) : Calls Tryz.prog 266 #[.int .i64 c] w fun e w' => e = .returned (.int .i64 (dgI c)) ∧ Below w.heap.size w w' := by
 go_enter Tryz.func266, Tryz.ntmps266
 go_wp2
 go_loopw [3] (fun i wr => ∃ k : Nat, k ≤ 10 ∧ i = .int .i64 (k : Int) ∧ Hid (∀ j : Nat, j < k → dg (j : Int) ≠ c) ∧ Below w.heap.size w wr) (fun i _ => 11 - (intOf i).toNat)
 case atStart => exact ⟨0, by omega, rfl, (fun j hj => by omega), Below.refl _ _⟩
 case round =>
  obtain ⟨k, hk, rfl, hbef, hb⟩ := hrel
  have HB := Lib.hid hb
  clear hb
  by_cases hlt : k < 10
  · have hd : decide ((k : Int) < 10) = true := by simp; omega
    have HL := Lib.hid (fun W => l2Digit_c (k : Int) (by omega) (by omega) W)
    by_cases hx : dg (k : Int) = c
    · have HV := Lib.hid (show dgI c = (k : Int) by unfold dgI; rw [dgI_some hlt hx hbef.out])
      have hee : (dg (k : Int) == c) = true := by simp; exact hx
      clear hx
      go_wp2_with fail
      refine (HL.out _).mono ?_
      rintro e w2 ⟨rfl, hb2⟩
      have HB2 := Lib.hid (Below.chain HB.out hb2)
      clear hb2
      go_wp2
      go_ret
      exact ⟨by rw [HV.out]; rfl, HB2.out⟩
    · have hee : (dg (k : Int) == c) = false := by simp; exact hx
      have HX := Lib.hid hx
      clear hx
      go_wp2_with fail
      refine (HL.out _).mono ?_
      rintro e w2 ⟨rfl, hb2⟩
      have HB2 := Lib.hid (Below.chain HB.out hb2)
      clear hb2
      go_wp2
      go_roundw
      case rel => exact ⟨k + 1, by omega, by go_num, (fun j hj => by
       by_cases hj2 : j < k
       · exact hbef.out j hj2
       · obtain rfl : j = k := by omega
         exact HX.out), HB2.out⟩
      case measure => first | (simp [intOf]; done) | (simp [intOf]; omega)
  · obtain rfl : k = 10 := by omega
    have HV := Lib.hid (show dgI c = -1 by unfold dgI; rw [dgI_none (fun j hj => hbef.out j hj)])
    go_wp2
    go_ret
    exact ⟨by rw [HV.out]; rfl, HB.out⟩
def numV (xs : List Int) : Value := .tuple #[.int .i64 (((numO xs).getD 0 : Nat) : Int), .bool (numO xs).isSome]
theorem numV_no {xs : List Int} (h : numO xs = none) : numV xs = .tuple #[.int .i64 0, .bool false] := by unfold numV; rw [h]; rfl
theorem numV_yes {xs : List Int} {n : Nat} (h : numO xs = some n) : numV xs = .tuple #[.int .i64 (n : Int), .bool true] := by unfold numV; rw [h]; rfl
theorem num_step {xs : List Int} {k m : Nat} {x : Int} (hx : xs[k]? = some x) (hm : numTo (xs.take k) = some m) : numTo (xs.take (k + 1)) = (digO x).map fun d => 10 * m + d := by
 rw [take_snoc hx, numTo_snoc, hm]; rfl
theorem num_fail {xs : List Int} {k m : Nat} {x : Int} (hx : xs[k]? = some x) (hm : numTo (xs.take k) = some m) (hd : digO x = none) : numO xs = none := by
 have h := num_step hx hm
 rw [hd] at h
 have h2 := numTo_stop (t := xs.drop (k + 1)) h
 rw [List.take_append_drop] at h2
 unfold numO
 split
 · rfl
 · exact h2
-- NUMBERS
set_option maxHeartbeats 1000000 in
theorem NumberOf_c (v : Value) (xs : List Int) (w : World) (hv : Ints w v xs) (hr : rowB xs = true) :
 Calls Tryz.prog 17 #[v] w fun e w' => e = .returned (numV xs) ∧ Below w.heap.size w w' := by
 have hn6 : xs.length ≤ 6 := rowB_le hr
 have HR := Lib.hid (IsRow_c v xs w hv)
 rw [hr] at HR
 obtain ⟨a, c, rfl, _, _, HC⟩ := hv.parts
 clear hv hr
 by_cases hnil : xs = []
 · subst hnil
   go_enter Tryz.func17, Tryz.ntmps17
   go_wp2_with fail
   refine HR.out.mono ?_
   rintro e w1 ⟨rfl, hb1⟩
   have HB1 := Lib.hid hb1
   clear hb1
   go_wp2
   exact bodyPost_ret (v := .tuple #[.int .i64 0, .bool false]) (by simp [results, Tryz.results17, go_sem]) rfl ⟨rfl, HB1.out⟩
 have hpos : 0 < xs.length := List.length_pos_iff.2 hnil
 have hne : ((xs.length : Int) == 0) = false := by simp; omega
 have HNE := Lib.hid hnil
 clear hnil
 go_enter Tryz.func17, Tryz.ntmps17
 go_wp2_with fail
 refine HR.out.mono ?_
 rintro e w1 ⟨rfl, hb1⟩
 have HB1 := Lib.hid hb1
 clear hb1
 go_wp2
 go_loopw [4, 6, 7, 18] (fun n _ _ i wr => ∃ k m : Nat, k ≤ xs.length ∧ i = .int .i64 (k : Int) ∧ n = .int .i64 (m : Int) ∧ Hid (numTo (xs.take k) = some m) ∧ m ≤ 1000000 ∧ Below w.heap.size w wr) (fun _ _ _ i _ => xs.length + 1 - (intOf i).toNat)
 case atStart => exact ⟨0, 0, by omega, rfl, rfl, rfl, by omega, HB1.out⟩
 case round =>
  obtain ⟨k, m, hk, rfl, rfl, hnum, hm6, hb⟩ := hrel
  have HB := Lib.hid hb
  clear hb
  by_cases hlt : k < xs.length
  · have hd : decide ((k : Int) < (xs.length : Int)) = true := by simp; omega
    obtain ⟨x, hxx⟩ := elem_at hlt
    obtain ⟨b, off, rfl, hc0⟩ := HC.out k x hxx.out
    have hc := cell_later HB.out hc0
    have HL := Lib.hid (fun W => digitOf_c x W)
    have HS := Lib.hid (num_step hxx.out hnum.out)
    have hml : (xs.take k).length ≤ 5 := by rw [List.length_take]; omega
    have hmb : m < 1000000 := by
     have h1 := numTo_lt _ m hnum.out
     have h2 : 10 ^ (xs.take k).length ≤ 10 ^ 5 := Nat.pow_le_pow_right (by decide) hml
     omega
    clear hc0 hml
    cases hdx : digO x with
    | none =>
     have HV := Lib.hid (numV_no (num_fail hxx.out hnum.out hdx))
     have HI := Lib.hid (show dgI x = -1 by unfold dgI; rw [hdx])
     clear hdx
     go_wp2_with fail
     refine (HL.out _).mono ?_
     rintro e w2 ⟨rfl, hb2⟩
     rw [HI.out]
     have HB2 := Lib.hid (Below.chain HB.out hb2)
     clear hb2
     go_wp2
     exact bodyPost_ret (v := .tuple #[.int .i64 0, .bool false]) (by simp [results, Tryz.results17, go_sem]) rfl ⟨by rw [HV.out], HB2.out⟩
    | some d =>
     have hd10 := digO_lt hdx
     have HI := Lib.hid (show dgI x = (d : Int) by unfold dgI; rw [hdx])
     have HS2 : Hid (numTo (xs.take (k + 1)) = some (10 * m + d)) := by show _ = _; rw [HS.out, hdx]; rfl
     have hmb2 : 10 * m + d ≤ 1000000 := by
      have h1 := numTo_lt _ _ HS2.out
      have h2 : 10 ^ (xs.take (k + 1)).length ≤ 10 ^ 6 := Nat.pow_le_pow_right (by decide) (by rw [List.length_take]; omega)
      omega
     have hw1 : IntKind.i64.wrap (10 * (m : Int)) = 10 * (m : Int) := IntWalk.i64_in _ (by omega)
     have hw2 : IntKind.i64.wrap (10 * (m : Int) + (d : Int)) = 10 * (m : Int) + (d : Int) := IntWalk.i64_in _ (by omega)
     clear hdx
     go_wp2_with fail
     refine (HL.out _).mono ?_
     rintro e w2 ⟨rfl, hb2⟩
     rw [HI.out]
     have HB2 := Lib.hid (Below.chain HB.out hb2)
     clear hb2
     go_wp2
     go_roundw
     case rel => exact ⟨k + 1, 10 * m + d, by omega, by go_num, by congr 1, HS2, hmb2, HB2.out⟩
     case measure => first | (simp [intOf]; done) | (simp [intOf]; omega)
  · obtain rfl : k = xs.length := by omega
    have hd : decide ((xs.length : Int) < (xs.length : Int)) = false := by simp
    have HN : Hid (numTo xs = some m) := by show _ = _; have := hnum.out; rw [List.take_length] at this; exact this
    have HV := Lib.hid (numV_yes (xs := xs) (n := m) (by unfold numO; rw [if_neg HNE.out]; exact HN.out))
    go_wp2
    exact bodyPost_ret (v := .tuple #[.int .i64 (m : Int), .bool true]) (by simp [results, Tryz.results17, go_sem]) rfl ⟨by rw [HV.out], HB.out⟩
set_option maxHeartbeats 1000000 in
theorem l2NumberOf_c (v : Value) (xs : List Int) (w : World) (hv : Ints w v xs) (hn6 : xs.length ≤ 6) :
 Calls Tryz.prog 220 #[v] w fun e w' => e = .returned (numV xs) ∧ Below w.heap.size w w' := by
 obtain ⟨a, c, rfl, _, _, HC⟩ := hv.parts
 clear hv
 have HB1 : Hid (Below w.heap.size w w) := Below.refl _ _
 go_enter Tryz.func220, Tryz.ntmps220
 go_wp2
 go_loopw [4, 5, 6] (fun n i _ wr => ∃ k m : Nat, k ≤ xs.length ∧ i = .int .i64 (k : Int) ∧ n = .int .i64 (m : Int) ∧ Hid (numTo (xs.take k) = some m) ∧ m ≤ 1000000 ∧ Below w.heap.size w wr) (fun _ i _ _ => xs.length + 1 - (intOf i).toNat)
 case atStart => exact ⟨0, 0, by omega, rfl, rfl, rfl, by omega, HB1.out⟩
 case round =>
  obtain ⟨k, m, hk, rfl, rfl, hnum, hm6, hb⟩ := hrel
  have HB := Lib.hid hb
  clear hb
  by_cases hlt : k < xs.length
  · have hd : decide ((k : Int) < (xs.length : Int)) = true := by simp; omega
    obtain ⟨x, hxx⟩ := elem_at hlt
    obtain ⟨b, off, rfl, hc0⟩ := HC.out k x hxx.out
    have hc := cell_later HB.out hc0
    have HL := Lib.hid (fun W => l2DigitOf_c x W)
    have HS := Lib.hid (num_step hxx.out hnum.out)
    have hml : (xs.take k).length ≤ 5 := by rw [List.length_take]; omega
    have hmb : m < 1000000 := by
     have h1 := numTo_lt _ m hnum.out
     have h2 : 10 ^ (xs.take k).length ≤ 10 ^ 5 := Nat.pow_le_pow_right (by decide) hml
     omega
    clear hc0 hml
    cases hdx : digO x with
    | none =>
     have HV := Lib.hid (numV_no (num_fail hxx.out hnum.out hdx))
     have HI := Lib.hid (show dgI x = -1 by unfold dgI; rw [hdx])
     clear hdx
     go_wp2_with fail
     refine (HL.out _).mono ?_
     rintro e w2 ⟨rfl, hb2⟩
     rw [HI.out]
     have HB2 := Lib.hid (Below.chain HB.out hb2)
     clear hb2
     go_wp2
     exact bodyPost_ret (v := .tuple #[.int .i64 0, .bool false]) (by simp [results, Tryz.results220, go_sem]) rfl ⟨by rw [HV.out], HB2.out⟩
    | some d =>
     have hd10 := digO_lt hdx
     have HI := Lib.hid (show dgI x = (d : Int) by unfold dgI; rw [hdx])
     have HS2 : Hid (numTo (xs.take (k + 1)) = some (10 * m + d)) := by show _ = _; rw [HS.out, hdx]; rfl
     have hmb2 : 10 * m + d ≤ 1000000 := by
      have h1 := numTo_lt _ _ HS2.out
      have h2 : 10 ^ (xs.take (k + 1)).length ≤ 10 ^ 6 := Nat.pow_le_pow_right (by decide) (by rw [List.length_take]; omega)
      omega
     have hw1 : IntKind.i64.wrap (10 * (m : Int)) = 10 * (m : Int) := IntWalk.i64_in _ (by omega)
     have hw2 : IntKind.i64.wrap (10 * (m : Int) + (d : Int)) = 10 * (m : Int) + (d : Int) := IntWalk.i64_in _ (by omega)
     clear hdx
     go_wp2_with fail
     refine (HL.out _).mono ?_
     rintro e w2 ⟨rfl, hb2⟩
     rw [HI.out]
     have HB2 := Lib.hid (Below.chain HB.out hb2)
     clear hb2
     go_wp2
     go_roundw
     case rel => exact ⟨k + 1, 10 * m + d, by omega, by go_num, by congr 1, HS2, hmb2, HB2.out⟩
     case measure => first | (simp [intOf]; done) | (simp [intOf]; omega)
  · obtain rfl : k = xs.length := by omega
    have hd : decide ((xs.length : Int) < (xs.length : Int)) = false := by simp
    have HN : Hid (numTo xs = some m) := by show _ = _; have := hnum.out; rw [List.take_length] at this; exact this
    by_cases hnil : xs = []
    · subst hnil
      obtain rfl : 0 = m := Option.some.inj HN.out
      go_wp2
      exact bodyPost_ret (v := .tuple #[.int .i64 0, .bool false]) (by simp [results, Tryz.results220, go_sem]) rfl ⟨rfl, HB.out⟩
    · have HV := Lib.hid (numV_yes (xs := xs) (n := m) (by unfold numO; rw [if_neg hnil]; exact HN.out))
      have hpos : 0 < xs.length := List.length_pos_iff.2 hnil
      have hp2 : decide ((0 : Int) < (xs.length : Int)) = true := by simp; exact hpos
      clear hnil
      go_wp2
      exact bodyPost_ret (v := .tuple #[.int .i64 (m : Int), .bool true]) (by simp [results, Tryz.results220, go_sem]) rfl ⟨by rw [HV.out], HB.out⟩
theorem sNumberOf_c (v : Value) (xs : List Int) (w : World) (hv : Ints w v xs) (hr : rowB xs = true) :
 Calls Tryz.prog 174 #[v] w fun e w' => e = .returned (numV xs) ∧ Below w.heap.size w w' := by
 have hn6 : xs.length ≤ 6 := rowB_le hr
 have HR := Lib.hid (l2Row_c v xs w hv)
 rw [hr] at HR
 have HV := Lib.hid hv
 obtain ⟨a, c, rfl, _, _, HC⟩ := hv.parts
 clear hv hr
 go_enter Tryz.func174, Tryz.ntmps174
 go_wp2_with fail
 refine HR.out.mono ?_
 rintro e w1 hpost
 obtain ⟨rfl, hb1⟩ := hpost
 have HB1 := Lib.hid hb1
 have HV1 := Lib.hid (HV.out.below hb1)
 clear hb1
 go_wp2_with fail
 refine (l2NumberOf_c _ xs _ HV1.out hn6).mono ?_
 rintro e w2 ⟨rfl, hb2⟩
 have HB2 := Lib.hid (Below.chain HB1.out hb2)
 unfold numV
 clear hb2
 go_wp2
 exact bodyPost_ret (v := .tuple #[.int .i64 (((numO xs).getD 0 : Nat) : Int), .bool (numO xs).isSome]) (by simp [results, Tryz.results174, go_sem]) rfl ⟨rfl, HB2.out⟩
end Go.Proofs.YtohgjfdbnkjefaaGreatDoor
