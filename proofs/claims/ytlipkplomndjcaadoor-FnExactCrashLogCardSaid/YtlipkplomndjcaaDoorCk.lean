/- The checksum and the decimal text, plainly (for the laws of logs). -/
import Derived.Lib.ItoaNum
namespace Go.Proofs.YtlipkplomndjcaaDoor
set_option linter.unusedVariables false
/-- the checksum of the bytes -/
def ckS (s : List UInt8) : Int := s.foldl (fun h c => (41 * h + (c.toNat : Int) + 1) % 999979) 7
theorem ckS_nil : ckS [] = 7 := rfl
theorem ckS_snoc (s : List UInt8) (c : UInt8) : ckS (s ++ [c]) = (41 * ckS s + (c.toNat : Int) + 1) % 999979 := by unfold ckS; rw [List.foldl_append]; rfl
theorem snocB {M : List UInt8 → Prop} (h0 : M []) (h1 : ∀ l x, M l → M (l ++ [x])) (l : List UInt8) : M l := by
  have : ∀ n (l : List UInt8), l.length = n → M l := by
    intro n
    induction n with
    | zero => intro l h; rw [List.eq_nil_of_length_eq_zero h]; exact h0
    | succ n ih =>
      intro l h
      have e : l = l.take n ++ [l[n]'(by omega)] := by
        rw [List.take_append_getElem]; rw [List.take_of_length_le (by omega)]
      rw [e]
      exact h1 _ _ (ih _ (by rw [List.length_take]; omega))
  exact this _ l rfl
theorem ckS_bd (s : List UInt8) : 0 ≤ ckS s ∧ ckS s < 999979 := by
  refine snocB (M := fun s => 0 ≤ ckS s ∧ ckS s < 999979) ?_ (fun l x ih => ?_) s
  · decide
  · rw [ckS_snoc]
    omega
/-- the checksum as far as k -/
theorem ckS_take {s : List UInt8} {k : Nat} (hk : k < s.length) : ckS (s.take (k + 1)) = (41 * ckS (s.take k) + ((s[k]).toNat : Int) + 1) % 999979 := by
  rw [List.take_succ_eq_append_getElem hk, ckS_snoc]
/-- a sealed text, and the line of a record -/
def sealS (s : List UInt8) : List UInt8 := s ++ 35 :: Lib.itoa (ckS s)
def lineS (k : Int) (c r : List UInt8) : List UInt8 := sealS (Lib.itoa k ++ 32 :: c ++ 64 :: r) ++ [10]
theorem itoa_nat (n : Nat) : Lib.itoa (n : Int) = Lib.decDigits n := by
  unfold Lib.itoa
  rw [if_neg (by omega)]; simp
end Go.Proofs.YtlipkplomndjcaaDoor
