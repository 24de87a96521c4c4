/- The walk of the checker's l12Open. -/
import Derived.Test.YtlipkplomndjcaaDoorDecS
import Derived.Test.YtlipkplomndjcaaDoorReadL
namespace Go.Proofs.YtlipkplomndjcaaDoor
open Go.RowKit
set_option linter.unusedVariables false
set_option maxRecDepth 100000
theorem Opens.done {s : Bs} {es : List (Bs × Bs)} (h : ∀ e ∈ es, OkE e) (hl : es.length ≤ 60) (he : s = linesS 0 es) : Opens s es [] := by rw [he]; exact Opens.whole h hl
/-- why nothing more is read -/
theorem no_begin {R A : Bs} {n k : Nat} (h : Head 10 R A n) (hno : n < 2 ∨ ∀ e, OkE e → A ++ [10] ≠ lnS k e) (e : Bs × Bs) : ¬ Begins k R e := by
  rintro ⟨he, x, hx⟩
  unfold lnS at hx
  rw [List.append_assoc] at hx
  rcases h with ⟨b, hb, hA, hn⟩ | ⟨h1, _, _⟩
  · obtain ⟨h3, _⟩ := part_inj hA (sealS_no10 he) (hb.symm.trans hx)
    rcases hno with h2 | h2
    · omega
    · exact h2 e he (by rw [h3]; rfl)
  · exact h1 (by rw [hx]; simp)
/-- what is read when a line goes through -/
theorem yes_begin {R A : Bs} {n k : Nat} {e : Bs × Bs} (h : Head 10 R A n) (hn : 2 ≤ n) (hl : A ++ [10] = lnS k e) : ∃ x, R = lnS k e ++ x := by
  rcases h with ⟨b, hb, hA, _⟩ | ⟨_, _, h1⟩
  · exact ⟨b, by rw [← hl, hb]; simp⟩
  · omega
def OpenOut (s : ByteArray) (w : World) (e : Ending) (w' : World) : Prop :=
  ∃ v es rest, e = .returned (.tuple #[v, .int .i64 (((linesS 0 es).length : Nat) : Int)]) ∧ w'.ownsRow w.heap.size 33 2 v es.length (flatR es) ∧ Opens s.data.toList es rest ∧ Below w.heap.size w w'
set_option maxHeartbeats 4000000 in
theorem l12Open_c (s : ByteArray) (w : World) (hs : s.size ≤ 1048576) : Calls Tryd.prog 48 #[.string s] w (OpenOut s w) := by
  obtain ⟨i0, hi, hz0, hz1, hz2⟩ := info_parts info_LogRecord
  have ho0 := World.ownsRow_lit (e := 33) (size := 2) (base := w.heap.size) w #[] 0 (by simp) (by decide) rfl
  go_enter Tryd.func48, Tryd.ntmps48
  go_wp2
  go_loopw [4, 5] (fun out at_ wr => ∃ es : List (Bs × Bs), at_ = .int .i64 (((linesS 0 es).length : Nat) : Int) ∧ (∀ e ∈ es, OkE e) ∧ es.length ≤ 60 ∧ Hid (∃ rest, s.data.toList = linesS 0 es ++ rest) ∧ wr.ownsRow w.heap.size 33 2 out es.length (flatR es) ∧ Below w.heap.size w wr) (fun _ at_ _ => s.size - (intOf at_).toNat)
  case atStart => exact ⟨[], rfl, by simp, by simp, ⟨_, rfl⟩, by simpa [flatR] using ho0, below_one _⟩
  case round =>
    obtain ⟨es, rfl, hok, hle, hrest, ho, hB⟩ := hrel
    clear ho0
    have hLlen := linesS_len 0 es hok (by omega)
    obtain ⟨a, c, rfl, _⟩ := (Sl.of_own ho).slice
    have hLs : (linesS 0 es).length ≤ s.size := by obtain ⟨rest, h⟩ := hrest.out; rw [← ba_len, h]; simp
    have HEX : Hid (∃ rest, s.data.toList = linesS 0 es ++ rest ∧ (s.extract (linesS 0 es).length s.size).data.toList = rest) := by
      obtain ⟨rest, h⟩ := hrest.out
      exact ⟨rest, h, by rw [Lib.extract_to_end, h]; simp⟩
    have HOK := Lib.hid hok
    have HO := Lib.hid ho
    have HB := Lib.hid hB
    clear hok hrest ho hB
    by_cases hlt : (linesS 0 es).length < s.size
    · have hd : decide ((((linesS 0 es).length : Nat) : Int) < (s.size : Int)) = true := by simp; omega
      by_cases h60 : es.length < 60
      · have hd2 : decide ((es.length : Int) < 60) = true := by simp; omega
        generalize hL : (linesS 0 es).length = L at *
        have HLn := Lib.hid hL
        clear hL
        have hp0 : (0 : Int) ≤ (L : Int) := by omega
        have hp1 : (L : Int) ≤ (s.size : Int) := by omega
        have hRsz : (s.extract L s.size).size ≤ s.size := by rw [← ba_len, Lib.extract_to_end, List.length_drop, ba_len]; omega
        go_wp2_with fail
        refine (l1SplitH_c _ 10 _ (by omega)).mono ?_
        rintro e w2 ⟨g, n, cap, A, rfl, hg0, hn1, hm1, hq, hA, HH, hb2⟩
        generalize s.extract L s.size = R at *
        have hT : (bs A).size = A.length := bs_size A
        have HTL := Lib.hid (bs_list A)
        have hTs : (bs A).size ≤ s.size := by omega
        generalize bs A = T at *
        have HTn := Lib.hid hT
        have HO2 := Lib.hid (own_keep HO.out hb2)
        have HLT : Hid (∀ k, (Value.slice a es.length c).ownBlock = some k → k < wr.heap.size) := fun k hk => (HO.out.lt k hk).2
        have HB2 := Lib.hid (Below.chain HB.out hb2)
        clear hT hb2 HO HB
        go_wp2_with fail
        refine (l12Decode_c es.length hle T _ (by omega)).mono ?_
        rintro e w3 ⟨c2, r2, ok, rfl, hcs, hrs, HT1, HF1, hb3⟩
        unfold recV
        have hq3 := cell_later hb3 hq
        have HO3 := Lib.hid (own_keep HO2.out hb3)
        have HB3 := Lib.hid (Below.chain HB2.out hb3)
        have hw3 : w.heap.size ≤ w3.heap.size := HB3.out.size
        clear hb3 HO2 HB2 hq
        have STOP : Hid ((n < 2 ∨ ∀ e, OkE e → A ++ [10] ≠ lnS es.length e) → ∃ rest, Opens s.data.toList es rest) := fun hno => by
          obtain ⟨rest, h, h2⟩ := HEX.out
          exact ⟨rest, HOK.out, hle, h, .inr fun e => no_begin (by rw [← h2]; exact HH.out) hno e⟩
        by_cases hn2 : n < 2
        · have hdn : decide ((n : Int) < 2) = true := by simp; omega
          have HOp := Lib.hid (STOP.out (.inl hn2))
          clear STOP
          go_wp2
          go_ret2
          obtain ⟨rest, h⟩ := HOp.out
          exact ⟨_, es, rest, by rw [HLn.out]; rfl, HO3.out.alloc _, h, Below.alc HB3.out _⟩
        · have hdn : decide ((n : Int) < 2) = false := by simp; omega
          cases ok with
          | false =>
            have HOp := Lib.hid (STOP.out (.inr (fun e he => by have := HF1.out rfl e he; rwa [HTL.out] at this)))
            clear STOP
            go_wp2
            go_ret2
            obtain ⟨rest, h⟩ := HOp.out
            exact ⟨_, es, rest, by rw [HLn.out]; rfl, HO3.out.alloc _, h, Below.alc HB3.out _⟩
          | true =>
            clear STOP
            obtain ⟨hok2, hln⟩ := HT1.out rfl
            have HOK2 := Lib.hid hok2
            have HLN := Lib.hid hln
            have hlen2 := lnS_len hok2 h60
            rw [← hln] at hlen2
            have hTT : T.size + 1 ≤ 454 := by rw [List.length_append, ba_len] at hlen2; exact hlen2
            clear hok2 hln hlen2
            have hnews : ∀ j u, [Value.string c2, Value.string r2][j]? = some u → ((w3.alloc (.cells #[.string c2, .string r2] 33)).alloc (.cells #[.string c2, .string r2] 33)).cell? ((⟨w3.heap.size + 1, 0, none⟩ : Addr).add j) = some u := by
              have h := news_new (w3.alloc (.cells #[.string c2, .string r2] 33)) [.string c2, .string r2] 33
              rw [show (w3.alloc (.cells #[.string c2, .string r2] 33)).heap.size = w3.heap.size + 1 by simp] at h
              exact h
            have HNW := Lib.hid hnews
            clear hnews
            go_wp2_with (at_builtin; refine wpList_append_own_at _ rfl _ _ 48 rfl w.heap.size 33 i0 (.agg #[.string ⟨#[]⟩, .string ⟨#[]⟩]) 2 32 Tryd.underlying48 hi hz0 hz1 hz2 rfl (by decide) _ es.length (flatR es) rfl ((HO3.out.alloc _).alloc _) ⟨w3.heap.size + 1, 0, none⟩ 1 1 [.string c2, .string r2] rfl rfl HNW.out (by simp [Value.oneCell']) (by unfold maxLen; omega) (by omega) (by simp; omega) ?_; intro v' w5 ho5 hg5 _ hat; have hq5 : w5.cell? ⟨g, 0, none⟩ = some (.string T) := hg5.cell (cell_later (below_one _) (cell_later (below_one _) hq3)) (fun e => by have := HLT.out g e.symm; omega))
            have hb7 : Below w.heap.size w w5 := (Below.alc (Below.alc HB3.out _) _).grown hg5 (by simp; omega) (fun k hk => (HO3.out.lt k hk).1)
            obtain ⟨rest, hr1, hr2⟩ := HEX.out
            obtain ⟨x, hx⟩ := yes_begin (R := R.data.toList) HH.out (by omega) (by rw [← HTL.out]; exact HLN.out)
            have hlnl : (lnS es.length (c2.data.toList, r2.data.toList)).length = T.size + 1 := by rw [← HLN.out, List.length_append, ba_len]; rfl
            have hst : (linesS 0 (es ++ [(c2.data.toList, r2.data.toList)])).length = L + (T.size + 1) := by
              rw [linesS_snoc, List.length_append, Nat.zero_add, hlnl, HLn.out]
            constructor
            · refine ⟨es ++ [(c2.data.toList, r2.data.toList)], ?_, ?_, by simp; omega, ⟨x, ?_⟩, ?_, hb7⟩
              · rw [hst]; go_num
              · intro e he
                simp only [List.mem_append, List.mem_singleton] at he
                rcases he with he | rfl
                · exact HOK.out e he
                · exact HOK2.out
              · rw [linesS_snoc, Nat.zero_add, List.append_assoc, ← hx, hr2, hr1]
              · rw [flatR_snoc, List.length_append, bs_of, bs_of]; exact ho5
            · simp [intOf]; omega
      · have hd2 : decide ((es.length : Int) < 60) = false := by simp; omega
        have HOp : Hid (∃ rest, Opens s.data.toList es rest) := by
          obtain ⟨rest, h, _⟩ := HEX.out
          exact ⟨rest, HOK.out, hle, h, .inl (by omega)⟩
        go_wp2
        go_ret2
        obtain ⟨rest, h⟩ := HOp.out
        exact ⟨_, es, rest, rfl, HO.out, h, HB.out⟩
    · have hd : decide ((((linesS 0 es).length : Nat) : Int) < (s.size : Int)) = false := by simp; omega
      have HOp : Hid (Opens s.data.toList es []) := by
        obtain ⟨rest, h, _⟩ := HEX.out
        have h2 := congrArg List.length h
        rw [ba_len, List.length_append] at h2
        have h3 : rest = [] := List.eq_nil_of_length_eq_zero (by omega)
        rw [h3, List.append_nil] at h
        exact Opens.done HOK.out hle h
      go_wp2
      go_ret2
      exact ⟨_, es, [], rfl, HO.out, HOp.out, HB.out⟩
end Go.Proofs.YtlipkplomndjcaaDoor
