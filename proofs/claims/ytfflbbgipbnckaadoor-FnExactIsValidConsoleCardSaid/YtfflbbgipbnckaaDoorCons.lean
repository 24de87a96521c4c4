/- Walks of NewConsole, both texts. -/
import Derived.Test.YtfflbbgipbnckaaDoorBench3
namespace Go.Proofs.YtfflbbgipbnckaaDoor
open Go.RowKit
set_option linter.unusedVariables false
set_option maxRecDepth 100000
/-- a log's cells; a console's -/
def lgC (d p : ByteArray) (n : Int) : List Value := [.string d, .string p, .int .i64 n]
def csC (b : List Int) (d p : ByteArray) (n : Int) : List Value := ints b ++ lgC d p n
theorem csC_len {b : List Int} (hb : b.length = 19) (d p : ByteArray) (n : Int) : (csC b d p n).length = 22 := by simp [csC, lgC, hb]
theorem csC_one {b : List Int} {d p : ByteArray} {n : Int} : ∀ v ∈ csC b d p n, v.oneCell' = true := fun v hv => by
  unfold csC at hv
  rw [List.mem_append] at hv
  rcases hv with h | h
  · exact ints_one v h
  · simp only [lgC, List.mem_cons, List.not_mem_nil, or_false] at h
    rcases h with rfl | rfl | rfl <;> rfl
theorem wpList_storeC {ops : Array Oper} {rest : List Oper} {op : Oper} {a : Act} {w : World} {Q : Exit → Act → World → Prop} (hw : Region.wanted op (yielded ops a.tmps) = true) (x y : Operand) (ho : op.op = .store 62 x y)
    (g : Nat) (b : List Int) (d p : ByteArray) (n : Int) (hx : a.eval x = .pointer (some ⟨g, 0, none⟩)) (hy : a.eval y = .agg (csC b d p n).toArray) (ht : w.there g 0 22) (hb : b.length = 19)
    (h : wpList Tryd.prog ops Q rest (a.put op.dst undef) (w.setCells g 0 (csC b d p n))) : wpList Tryd.prog ops Q (op :: rest) a w :=
  wpList_store_want hw _ x y ho g 0 _ hx hy (by rw [csC_len hb]; exact ht) (by rw [csC_len hb]; kernel_rfl) csC_one h
theorem wpList_loadC {ops : Array Oper} {rest : List Oper} {op : Oper} {a : Act} {w : World} {Q : Exit → Act → World → Prop} (hw : Region.wanted op (yielded ops a.tmps) = true) (x : Operand) (ho : op.op = .load 62 x)
    (g : Nat) (hx : a.eval x = .pointer (some ⟨g, 0, none⟩)) (b : List Int) (d p : ByteArray) (n : Int) (hc : w.rangeAt g 0 (csC b d p n)) (hb : b.length = 19)
    (h : wpList Tryd.prog ops Q rest (a.put op.dst (.agg (csC b d p n).toArray)) w) : wpList Tryd.prog ops Q (op :: rest) a w :=
  wpList_load_want hw _ x ho g 0 hx _ _ hc Tryd.underlying62 rfl (by rw [csC_len hb]; kernel_rfl) h
theorem loadVarC {w : World} {g : Nat} {b : List Int} {d p : ByteArray} {n : Int} (h : w.rangeAt g 0 (csC b d p n)) (hb : b.length = 19) : (loadVar 62 ⟨g, 0, none⟩).run Tryd.prog w = .ok (.agg (csC b d p n).toArray) w :=
  run_loadVar_mid w g 0 _ _ _ h Tryd.underlying62 rfl (by rw [csC_len hb]; kernel_rfl)
def zeroI : List Int := List.replicate 19 0
def ncB (b : List Int) : List Int := if goodB b then b else zeroI
def ncV (b : List Int) : Value := .tuple #[.agg (csC (ncB b) ByteArray.empty ByteArray.empty 0).toArray, .bool (goodB b)]
/-- a new Console's cells, written out -/
def zCA : Array Value := #[.int .i64 0, .int .i64 0, .int .i64 0, .int .i64 0, .int .i64 0, .int .i64 0, .int .i64 0, .int .i64 0, .int .i64 0, .int .i64 0, .int .i64 0, .int .i64 0, .int .i64 0, .int .i64 0, .int .i64 0, .int .i64 0, .int .i64 0, .int .i64 0, .int .i64 0, .string (ByteArray.mk #[]), .string (ByteArray.mk #[]), .int .i64 0]
theorem zCA_eq : zCA = (csC zeroI ByteArray.empty ByteArray.empty 0).toArray := rfl
theorem build_cons_x (x0 x1 x2 x3 x4 x5 x6 x7 x8 x9 x10 x11 x12 x13 x14 x15 x16 x17 x18 : Int) : List.foldl (fun (cs : Array Value) (x : Value × Nat) => cs.setIfInBounds x.snd x.fst) zCA (ints [x0, x1, x2, x3, x4, x5, x6, x7, x8, x9, x10, x11, x12, x13, x14, x15, x16, x17, x18]).zipIdx = (csC [x0, x1, x2, x3, x4, x5, x6, x7, x8, x9, x10, x11, x12, x13, x14, x15, x16, x17, x18] ByteArray.empty ByteArray.empty 0).toArray := by kernel_rfl
theorem build_cons {b : List Int} (hb : b.length = 19) : List.foldl (fun (cs : Array Value) (x : Value × Nat) => cs.setIfInBounds x.snd x.fst) zCA (ints b).zipIdx = (csC b ByteArray.empty ByteArray.empty 0).toArray := by
  match b, hb with
  | [x0, x1, x2, x3, x4, x5, x6, x7, x8, x9, x10, x11, x12, x13, x14, x15, x16, x17, x18], _ => exact build_cons_x x0 x1 x2 x3 x4 x5 x6 x7 x8 x9 x10 x11 x12 x13 x14 x15 x16 x17 x18
end Go.Proofs.YtfflbbgipbnckaaDoor
