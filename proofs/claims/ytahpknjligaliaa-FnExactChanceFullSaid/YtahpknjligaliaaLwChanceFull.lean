/- The walk of the law ChanceFull: for every int it returns true and turns nothing that was there. -/
import Derived.Test.YtahpknjligaliaaHelpA2
import Derived.Test.YtahpknjligaliaaDrawn2
namespace Go.Proofs.Ytahpknjligaliaa
open Go.RowKit
set_option linter.unusedVariables false
set_option maxRecDepth 100000
theorem FnExactChanceFull_walk (k : Int) (w : World) : Calls Try.prog 18 #[.int .i64 k] w fun e w' => e = .returned (.bool true) ∧ Below w.heap.size w w' := by
  have HV : Hid (∃ x y, otV gFull k = .tuple #[.agg #[.int .i64 x, .int .i64 y], .bool (inB k 0 4)]) := by
    unfold otV fracV; split <;> exact ⟨_, _, rfl⟩
  obtain ⟨x, y, HE⟩ := HV.out
  clear HV
  go_enter Try.func18, Try.ntmps18
  go_wp2_with fail
  refine (sChanceFull_c k _).mono ?_
  rintro e w1 ⟨rfl, hb1⟩
  rw [HE]
  go_wp2_with fail
  refine (ChanceFull_c k _).mono ?_
  rintro e w2 ⟨rfl, hb2⟩
  rw [HE]
  have hb3 : Below w.heap.size w w2 := Below.chain (Below.alc hb1 _) hb2
  have p0 := cell_later (below_one (.cells #[.int .i64 x, .int .i64 y] 79)) ((box_after hb2).1 0 _ rfl)
  have p1 := cell_later (below_one (.cells #[.int .i64 x, .int .i64 y] 79)) ((box_after hb2).1 1 _ rfl)
  go_wp2_with fail
  refine (eqIntA2_c x y _).mono ?_
  rintro e w3 ⟨rfl, hb4⟩
  have hb5 := Below.chain (Below.alc hb3 _) hb4
  go_wp2
  go_ret
  exact ⟨rfl, hb5⟩
end Go.Proofs.Ytahpknjligaliaa
