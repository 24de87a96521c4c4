/- The walk of the law RecoverLog: for every text it returns true and turns nothing that was there. -/
import Derived.Test.YtfflbbgipbnckaaDoorLogM
namespace Go.Proofs.YtfflbbgipbnckaaDoor
open Go.RowKit
set_option linter.unusedVariables false
set_option maxRecDepth 100000
set_option maxHeartbeats 1000000 in
theorem FnExactRecoverLog_walk (s : ByteArray) (w : World) (hs : s.size ≤ 9223372036854775807) (ht : Tab w) : Calls Tryd.prog 4 #[.string s] w fun e w' => e = .returned (.bool true) ∧ Below w.heap.size w w' := by
  have HTB := Lib.hid ht
  clear ht
  by_cases hbig : 1048576 < s.size
  · have hd : decide ((1048576 : Int) < (s.size : Int)) = true := by simp; omega
    go_enter Tryd.func4, Tryd.ntmps4
    go_wp2
    go_ret
    exact ⟨rfl, Below.refl _ _⟩
  · have hd : decide ((1048576 : Int) < (s.size : Int)) = false := by simp; omega
    have H1 := Lib.hid (fun w' => RecoverLogS_c s w' (by omega))
    have H2 := Lib.hid (fun w' => RecoverLog_c s w' (by omega))
    have HE := Lib.hid (fun a b c w => eqLog_c a b c w)
    go_enter Tryd.func4, Tryd.ntmps4
    go_wp2_with fail
    refine (H1.out _).mono ?_
    rintro e w1 ⟨⟨hbg, rfl⟩ | ⟨hbg, es, rest, hop, rfl⟩, hb1⟩
    · have HB1 := Lib.hid hb1
      have HBG := Lib.hid hbg
      clear hb1 hbg
      unfold logV
      unfold logV at HE
      go_wp2_with fail
      refine (H2.out _ (HTB.out.on (Below.alc HB1.out _))).mono ?_
      rintro e w2 ⟨⟨_, rfl⟩ | ⟨hbg, _⟩, hb2⟩
      · have q0 := cell_later hb2 (new_cell w1 #[.string ⟨#[]⟩, .string ⟨#[]⟩, .int .i64 0] 31 0 _ rfl)
        have q1 := cell_later hb2 (new_cell w1 #[.string ⟨#[]⟩, .string ⟨#[]⟩, .int .i64 0] 31 1 _ rfl)
        have q2 := cell_later hb2 (new_cell w1 #[.string ⟨#[]⟩, .string ⟨#[]⟩, .int .i64 0] 31 2 _ rfl)
        have hlt2 : w1.heap.size < w2.heap.size := World.block_lt_of_cell? _ _ q0
        have HB2 := Lib.hid (Below.chain (Below.alc HB1.out _) hb2)
        clear hb2
        unfold logV
        go_wp2_with fail
        refine (HE.out _ _ _ _).mono ?_
        rintro e w6 ⟨rfl, hb3⟩
        go_wp2
        go_ret
        exact ⟨rfl, by have hb := HB2.out; (repeat (first | exact Below.refl _ _ | exact (Below.refl _ _).drew | assumption | exact below_one _ | refine Below.chain ?_ (by assumption) | refine Below.drew ?_ | refine Below.alc ?_ _ | refine below_drewN ?_ | (refine Below.setCell ?_ ?_ _) | exact Nat.le_refl _ | (simp; done) | (simp; omega)))⟩
      · exact absurd HBG.out hbg
    · have HB1 := Lib.hid hb1
      have HBG := Lib.hid hbg
      have HOP := Lib.hid hop
      have hL := recov_le hop
      clear hb1 hbg hop
      unfold recovV logV
      unfold logV at HE
      go_wp2_with fail
      refine (H2.out _ (HTB.out.on (Below.alc HB1.out _))).mono ?_
      rintro e w2 ⟨⟨hbg, _⟩ | ⟨_, es2, rest2, hop2, rfl⟩, hb2⟩
      · exact absurd hbg HBG.out
      · obtain ⟨rfl, rfl⟩ := HOP.out.uniq hop2
        unfold recovV logV
        generalize (linesS 0 es).length = L at *
        have q0 := cell_later hb2 (new_cell w1 #[.string (s.extract 0 L), .string ⟨#[]⟩, .int .i64 (es.length : Int)] 31 0 _ rfl)
        have q1 := cell_later hb2 (new_cell w1 #[.string (s.extract 0 L), .string ⟨#[]⟩, .int .i64 (es.length : Int)] 31 1 _ rfl)
        have q2 := cell_later hb2 (new_cell w1 #[.string (s.extract 0 L), .string ⟨#[]⟩, .int .i64 (es.length : Int)] 31 2 _ rfl)
        have hlt2 : w1.heap.size < w2.heap.size := World.block_lt_of_cell? _ _ q0
        have HB2 := Lib.hid (Below.chain (Below.alc HB1.out _) hb2)
        have hLL : ((L : Int) != (L : Int)) = false := by simp
        clear hb2 hop2 HOP
        go_wp2_with fail
        refine (HE.out _ _ _ _).mono ?_
        rintro e w6 ⟨rfl, hb3⟩
        go_wp2
        go_ret
        exact ⟨rfl, by have hb := HB2.out; (repeat (first | exact Below.refl _ _ | exact (Below.refl _ _).drew | assumption | exact below_one _ | refine Below.chain ?_ (by assumption) | refine Below.drew ?_ | refine Below.alc ?_ _ | refine below_drewN ?_ | (refine Below.setCell ?_ ?_ _) | exact Nat.le_refl _ | (simp; done) | (simp; omega)))⟩
end Go.Proofs.YtfflbbgipbnckaaDoor
