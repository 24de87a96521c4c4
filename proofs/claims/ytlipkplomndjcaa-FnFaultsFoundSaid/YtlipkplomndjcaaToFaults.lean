/- Walks of the laws' copies of faults and lists of faults, and of the bound on their size. -/
import Derived.Test.YtlipkplomndjcaaHelp
import Derived.Test.YtlipkplomndjcaaPairs
import Derived.Deep.RegionHeld3
namespace Go.Proofs.Ytlipkplomndjcaa
open Go.RowKit
set_option linter.unusedVariables false
set_option maxRecDepth 100000
theorem info_Fault : (Try.prog.info? 42).map (fun i => (i.zero, i.size, i.bytes)) = some (some (.agg #[.int .i64 0, .int .i64 0]), 2, 16) := by kernel_rfl
theorem flat2_rep (n : Nat) : flat2 (List.replicate n (0, 0)) = List.replicate (n * 2) (.int .i64 0) := by
  induction n with
  | zero => rfl
  | succ n ih =>
    rw [List.replicate_succ, show (n + 1) * 2 = n * 2 + 1 + 1 by omega, List.replicate_succ, List.replicate_succ, ← ih]; rfl
theorem made_two (x : Value) (n : Nat) : (madeCells #[x, x] n).toList = List.replicate n x := by
  unfold madeCells
  rw [Array.toList_map, Array.toList_range]
  apply List.ext_getElem (by simp)
  intro i h1 h2
  simp only [List.getElem_map, List.getElem_range, List.getElem_replicate]
  have h : i % (#[x, x] : Array Value).size = 0 ∨ i % (#[x, x] : Array Value).size = 1 := by
    have : (#[x, x] : Array Value).size = 2 := rfl
    rw [this]; omega
  rcases h with h | h <;> rw [h] <;> rfl
theorem set_pair {fs : List (Int × Int)} {k n : Nat} (hk : k < n) {a b : Int} {w : World} {lo g cap : Nat} {e : TypeId}
    (ho : w.ownsRow lo e 2 (.slice (some ⟨g, 0, none⟩) n cap) n (flat2 (fs ++ List.replicate (n - k) (0, 0)))) (hf : fs.length = k) :
    (w.cell? ⟨g, k * 2, none⟩ = some (.int .i64 0)) ∧ ((w.setCell ⟨g, k * 2, none⟩ (.int .i64 a)).cell? ⟨g, k * 2 + 1, none⟩ = some (.int .i64 0)) ∧ w.cell? ⟨g, k * 2 + 1, none⟩ = some (.int .i64 0) ∧ w.frozen? ⟨g, k * 2, none⟩ = false ∧ (w.setCell ⟨g, k * 2, none⟩ (.int .i64 a)).frozen? ⟨g, k * 2 + 1, none⟩ = false ∧ w.frozen? ⟨g, k * 2 + 1, none⟩ = false ∧
      ((w.setCell ⟨g, k * 2, none⟩ (.int .i64 a)).setCell ⟨g, k * 2 + 1, none⟩ (.int .i64 b)).ownsRow lo e 2 (.slice (some ⟨g, 0, none⟩) n cap) n (flat2 ((fs ++ [(a, b)]) ++ List.replicate (n - (k + 1)) (0, 0))) := by
  have h1 := ho.stored (k * 2) (.int .i64 a)
  have h2 := h1.1.stored (k * 2 + 1) (.int .i64 b)
  have hp : (fs ++ List.replicate (n - k) ((0 : Int), (0 : Int)))[k]? = some (0, 0) := by
    rw [List.getElem?_append_right (by omega), hf, Nat.sub_self, List.getElem?_replicate, if_pos (by omega)]
  have hc := flat2_at hp
  refine ⟨(ho.cellAt _ (by omega)).trans hc.1, ?_, (ho.cellAt _ (by omega)).trans hc.2, ho.frozenAt _, h1.1.frozenAt _, ho.frozenAt _, ?_⟩
  · rw [h1.1.cellAt _ (by omega), List.getElem?_set_ne (by omega)]; exact hc.2
  · have e2 : ((flat2 (fs ++ List.replicate (n - k) (0, 0))).set (k * 2) (.int .i64 a)).set (k * 2 + 1) (.int .i64 b) = flat2 ((fs ++ [(a, b)]) ++ List.replicate (n - (k + 1)) (0, 0)) := by
      rw [show n - k = (n - (k + 1)) + 1 by omega, List.replicate_succ, flat2_append, flat2_append, flat2_snoc]
      have e3 : flat2 (((0 : Int), (0 : Int)) :: List.replicate (n - (k + 1)) (0, 0)) = .int .i64 0 :: .int .i64 0 :: flat2 (List.replicate (n - (k + 1)) (0, 0)) := rfl
      rw [e3, set_two _ _ _ _ _ _ (by rw [flat2_length, hf])]; simp
    rw [← e2]; exact h2.1
end Go.Proofs.Ytlipkplomndjcaa
