/- What each function of the program names, a row a function: so the closed facts of a row about what its function reaches are reckoned from a small table. -/
import Derived.Test.YtfflbbgipbnckaaDoorProg
import Derived.JoinedOf
import Derived.KernelRfl
namespace Go.Proofs.YtfflbbgipbnckaaDoor
set_option linter.unusedVariables false
set_option maxRecDepth 100000

abbrev FRow := List Nat × Option String × Bool × List Nat × Option String
def inPlaceAt (fn : Func) : Option String := if fn.ours || fn.body.isNone || fn.name == "runtime.NumGoroutine" then some fn.name else none
def fnRow (P : Program) (fn : Func) : FRow :=
  (P.leadsTo fn, inPlaceAt fn, (match fn.body with | some c => c.unfollowed | none => entryCalls fn), (fn.body.elim [] Code.globalsNamed), (if fn.body.isNone then entryReads.lookup fn.name else none))
def cvT (T : List FRow) : Nat → List Nat → List Nat → List Nat
  | 0, _, seen => seen.reverse
  | _, [], seen => seen.reverse
  | n + 1, f :: todo, seen => if seen.contains f then cvT T n todo seen else cvT T n ((T[f]?).elim [] (·.1) ++ todo) (f :: seen)
section
variable {P : Program} {T : List FRow}
theorem tab_at (hT : P.funcs.toList.map (fnRow P) = T) (k : Nat) : T[k]? = (P.funcs[k]?).map (fnRow P) := by
  rw [← hT, List.getElem?_map]; simp
theorem cvT_eq (hT : P.funcs.toList.map (fnRow P) = T) : ∀ (n : Nat) (todo seen : List Nat), P.closureVia n todo seen = cvT T n todo seen
  | 0, _, _ => by simp [Program.closureVia, cvT]
  | n + 1, [], _ => by simp [Program.closureVia, cvT]
  | n + 1, f :: todo, seen => by
    unfold Program.closureVia cvT
    rw [cvT_eq hT n, cvT_eq hT n, tab_at hT f]
    cases P.funcs[f]? <;> rfl
def closT (T : List FRow) (f : Nat) : List Nat := cvT T (1 + (T.map fun r => r.1.length + 1).sum) [f] []
theorem closT_eq (hT : P.funcs.toList.map (fnRow P) = T) (f : Nat) : P.closure f = closT T f := by
  unfold Program.closure closT
  rw [cvT_eq hT, ← hT, List.map_map]; rfl
theorem inPlaceT (hT : P.funcs.toList.map (fnRow P) = T) (f : Nat) : P.inPlace f = (closT T f).filterMap fun g => (T[g]?).bind (·.2.1) := by
  unfold Program.inPlace
  rw [closT_eq hT]
  congr 1; funext g
  rw [tab_at hT g]; cases P.funcs[g]? <;> rfl
theorem unfollowedT (hT : P.funcs.toList.map (fnRow P) = T) (f : Nat) : P.unfollowed f = (closT T f).any fun g => (T[g]?).any (·.2.2.1) := by
  unfold Program.unfollowed
  rw [closT_eq hT]
  congr 1; funext g
  rw [tab_at hT g]; cases P.funcs[g]? <;> rfl
theorem varsT (hT : P.funcs.toList.map (fnRow P) = T) (f : Nat) : P.varsNamed f =
    ((((closT T f).flatMap fun g => (T[g]?).elim [] (·.2.2.2.1)).eraseDups).filterMap (fun g => (P.globals[g]?).map (·.name)) ++ (closT T f).filterMap fun g => (T[g]?).bind (·.2.2.2.2)).eraseDups := by
  unfold Program.varsNamed
  rw [closT_eq hT]
  have e1 : (fun g : Nat => ((P.funcs[g]?).bind fun x : Func => x.body).elim [] Code.globalsNamed) = fun g : Nat => (T[g]?).elim [] fun x : FRow => x.2.2.2.1 := by
    funext g; rw [tab_at hT g]; cases P.funcs[g]? <;> rfl
  have e2 : (fun g : Nat => (P.funcs[g]?).bind fun fn : Func => if fn.body.isNone then entryReads.lookup fn.name else none) = fun g : Nat => (T[g]?).bind fun x : FRow => x.2.2.2.2 := by
    funext g; rw [tab_at hT g]; cases P.funcs[g]? <;> rfl
  rw [e1, e2]
theorem recursesEq (hT : P.funcs.toList.map (fnRow P) = T) (f : Nat) : P.recurses f = (((closT T f).any fun g => (T[g]?).any (·.2.2.1)) || (closT T f).any fun g => ((T[g]?).elim [] (·.1)).any fun h => (closT T h).contains g) := by
  unfold Program.recurses
  rw [unfollowedT hT, closT_eq hT]
  congr 1
  congr 1; funext g
  have e1 : ((P.funcs[g]?).elim [] P.leadsTo) = (T[g]?).elim [] fun x : FRow => x.1 := by
    rw [tab_at hT g]; cases P.funcs[g]? <;> rfl
  rw [e1]
  congr 1; funext h
  rw [closT_eq hT]
theorem recursesT {f : Nat} (h : P.unfollowed f = true) : P.recurses f = true := by unfold Program.recurses; rw [h]; rfl
end

theorem row0 : fnRow Tryd.prog Tryd.f0 = ([], some Tryd.f0.name, false, [], none) := by kernel_rfl
theorem row1 : fnRow Tryd.prog Tryd.f1 = ([], some Tryd.f1.name, false, [], none) := by kernel_rfl
theorem row2 : fnRow Tryd.prog Tryd.f2 = ([1], none, false, [], none) := by kernel_rfl
theorem row3 : fnRow Tryd.prog Tryd.f3 = ([11, 13, 12, 13, 14], none, false, [], none) := by kernel_rfl
theorem row4 : fnRow Tryd.prog Tryd.f4 = ([15, 16, 17], none, false, [], none) := by kernel_rfl
theorem row5 : fnRow Tryd.prog Tryd.f5 = ([18, 20, 19, 20, 21], none, false, [], none) := by kernel_rfl
theorem row6 : fnRow Tryd.prog Tryd.f6 = ([18, 20, 22, 20, 23], none, false, [], none) := by kernel_rfl
theorem row7 : fnRow Tryd.prog Tryd.f7 = ([18, 20, 24, 20, 25, 17], none, false, [], none) := by kernel_rfl
theorem row8 : fnRow Tryd.prog Tryd.f8 = ([18, 11, 20, 13, 26, 20, 13, 27, 17], none, false, [], none) := by kernel_rfl
theorem row9 : fnRow Tryd.prog Tryd.f9 = ([18, 20, 28, 20, 29, 30, 31, 32, 20, 29, 30, 32], none, false, [], none) := by kernel_rfl
theorem row10 : fnRow Tryd.prog Tryd.f10 = ([33, 35, 34, 35, 36], none, false, [], none) := by kernel_rfl
theorem row11 : fnRow Tryd.prog Tryd.f11 = ([], none, false, [], none) := by kernel_rfl
theorem row12 : fnRow Tryd.prog Tryd.f12 = ([37, 38, 39], none, false, [], none) := by kernel_rfl
theorem row13 : fnRow Tryd.prog Tryd.f13 = ([], none, false, [], none) := by kernel_rfl
theorem row14 : fnRow Tryd.prog Tryd.f14 = ([40, 41, 43, 42], none, false, [], none) := by kernel_rfl
theorem row15 : fnRow Tryd.prog Tryd.f15 = ([44], none, false, [], none) := by kernel_rfl
theorem row16 : fnRow Tryd.prog Tryd.f16 = ([45], none, false, [], none) := by kernel_rfl
theorem row17 : fnRow Tryd.prog Tryd.f17 = ([], none, false, [], none) := by kernel_rfl
theorem row18 : fnRow Tryd.prog Tryd.f18 = ([], none, false, [], none) := by kernel_rfl
theorem row19 : fnRow Tryd.prog Tryd.f19 = ([46], none, false, [], none) := by kernel_rfl
theorem row20 : fnRow Tryd.prog Tryd.f20 = ([], none, false, [], none) := by kernel_rfl
theorem row21 : fnRow Tryd.prog Tryd.f21 = ([47], none, false, [], none) := by kernel_rfl
theorem row22 : fnRow Tryd.prog Tryd.f22 = ([46, 37], none, false, [], none) := by kernel_rfl
theorem row23 : fnRow Tryd.prog Tryd.f23 = ([21, 40], none, false, [], none) := by kernel_rfl
theorem row24 : fnRow Tryd.prog Tryd.f24 = ([46], none, false, [], none) := by kernel_rfl
theorem row25 : fnRow Tryd.prog Tryd.f25 = ([21], none, false, [], none) := by kernel_rfl
theorem row26 : fnRow Tryd.prog Tryd.f26 = ([46, 38, 39], none, false, [], none) := by kernel_rfl
theorem row27 : fnRow Tryd.prog Tryd.f27 = ([21, 41, 14], none, false, [], none) := by kernel_rfl
theorem row28 : fnRow Tryd.prog Tryd.f28 = ([46, 44], none, false, [], none) := by kernel_rfl
theorem row29 : fnRow Tryd.prog Tryd.f29 = ([47], none, false, [], none) := by kernel_rfl
theorem row30 : fnRow Tryd.prog Tryd.f30 = ([48], none, false, [], none) := by kernel_rfl
theorem row31 : fnRow Tryd.prog Tryd.f31 = ([49, 49], none, false, [], none) := by kernel_rfl
theorem row32 : fnRow Tryd.prog Tryd.f32 = ([49, 49], none, false, [], none) := by kernel_rfl
theorem row33 : fnRow Tryd.prog Tryd.f33 = ([18], none, false, [], none) := by kernel_rfl
theorem row34 : fnRow Tryd.prog Tryd.f34 = ([50, 46], none, false, [], none) := by kernel_rfl
theorem row35 : fnRow Tryd.prog Tryd.f35 = ([51, 20], none, false, [], none) := by kernel_rfl
theorem row36 : fnRow Tryd.prog Tryd.f36 = ([52, 21], none, false, [], none) := by kernel_rfl
theorem row37 : fnRow Tryd.prog Tryd.f37 = ([], none, false, [], none) := by kernel_rfl
theorem row38 : fnRow Tryd.prog Tryd.f38 = ([53, 54, 53], none, false, [], none) := by kernel_rfl
theorem row39 : fnRow Tryd.prog Tryd.f39 = ([56, 55], none, false, [], none) := by kernel_rfl
theorem row40 : fnRow Tryd.prog Tryd.f40 = ([], none, false, [], none) := by kernel_rfl
theorem row41 : fnRow Tryd.prog Tryd.f41 = ([57, 58], none, false, [], none) := by kernel_rfl
theorem row42 : fnRow Tryd.prog Tryd.f42 = ([59, 60, 43], none, false, [], none) := by kernel_rfl
theorem row43 : fnRow Tryd.prog Tryd.f43 = ([61], none, false, [], none) := by kernel_rfl
theorem row44 : fnRow Tryd.prog Tryd.f44 = ([62, 63], none, false, [], none) := by kernel_rfl
theorem row45 : fnRow Tryd.prog Tryd.f45 = ([64, 65], none, true, [], none) := by kernel_rfl
theorem row46 : fnRow Tryd.prog Tryd.f46 = ([44, 44], none, false, [], none) := by kernel_rfl
theorem row47 : fnRow Tryd.prog Tryd.f47 = ([45, 66], none, false, [], none) := by kernel_rfl
theorem row48 : fnRow Tryd.prog Tryd.f48 = ([], none, false, [], none) := by kernel_rfl
theorem row49 : fnRow Tryd.prog Tryd.f49 = ([], none, false, [], none) := by kernel_rfl
theorem row50 : fnRow Tryd.prog Tryd.f50 = ([67, 69, 68, 37], none, false, [], none) := by kernel_rfl
theorem row51 : fnRow Tryd.prog Tryd.f51 = ([70, 70, 70], none, false, [], none) := by kernel_rfl
theorem row52 : fnRow Tryd.prog Tryd.f52 = ([71, 73, 72, 74, 40], none, false, [], none) := by kernel_rfl
theorem row53 : fnRow Tryd.prog Tryd.f53 = ([37], none, false, [], none) := by kernel_rfl
theorem row54 : fnRow Tryd.prog Tryd.f54 = ([], none, false, [], none) := by kernel_rfl
theorem row55 : fnRow Tryd.prog Tryd.f55 = ([75, 56], none, false, [], none) := by kernel_rfl
theorem row56 : fnRow Tryd.prog Tryd.f56 = ([56, 56, 56, 56], none, false, [], none) := by kernel_rfl
theorem row57 : fnRow Tryd.prog Tryd.f57 = ([40, 58, 59], none, false, [], none) := by kernel_rfl
theorem row58 : fnRow Tryd.prog Tryd.f58 = ([40], none, false, [], none) := by kernel_rfl
theorem row59 : fnRow Tryd.prog Tryd.f59 = ([76], none, false, [], none) := by kernel_rfl
theorem row60 : fnRow Tryd.prog Tryd.f60 = ([], none, false, [], none) := by kernel_rfl
theorem row61 : fnRow Tryd.prog Tryd.f61 = ([77], none, false, [], none) := by kernel_rfl
theorem row62 : fnRow Tryd.prog Tryd.f62 = ([], none, false, [], none) := by kernel_rfl
theorem row63 : fnRow Tryd.prog Tryd.f63 = ([56, 62, 62, 38, 39], none, false, [], none) := by kernel_rfl
theorem row64 : fnRow Tryd.prog Tryd.f64 = ([78], none, false, [], none) := by kernel_rfl
theorem row65 : fnRow Tryd.prog Tryd.f65 = ([81, 80, 82, 82, 14], none, false, [], none) := by kernel_rfl
theorem row66 : fnRow Tryd.prog Tryd.f66 = ([83], none, false, [], none) := by kernel_rfl
theorem row67 : fnRow Tryd.prog Tryd.f67 = ([37], none, false, [], none) := by kernel_rfl
theorem row68 : fnRow Tryd.prog Tryd.f68 = ([67, 67], none, false, [], none) := by kernel_rfl
theorem row69 : fnRow Tryd.prog Tryd.f69 = ([], none, false, [], none) := by kernel_rfl
theorem row70 : fnRow Tryd.prog Tryd.f70 = ([], none, false, [], none) := by kernel_rfl
theorem row71 : fnRow Tryd.prog Tryd.f71 = ([84, 85], none, false, [], none) := by kernel_rfl
theorem row72 : fnRow Tryd.prog Tryd.f72 = ([87, 86], none, false, [], none) := by kernel_rfl
theorem row73 : fnRow Tryd.prog Tryd.f73 = ([88], none, false, [], none) := by kernel_rfl
theorem row74 : fnRow Tryd.prog Tryd.f74 = ([85, 85], none, false, [], none) := by kernel_rfl
theorem row75 : fnRow Tryd.prog Tryd.f75 = ([], none, false, [], none) := by kernel_rfl
theorem row76 : fnRow Tryd.prog Tryd.f76 = ([89], none, false, [], none) := by kernel_rfl
theorem row77 : fnRow Tryd.prog Tryd.f77 = ([90, 91, 92, 93], none, false, [], none) := by kernel_rfl
theorem row78 : fnRow Tryd.prog Tryd.f78 = ([79], none, true, [], none) := by kernel_rfl
theorem row79 : fnRow Tryd.prog Tryd.f79 = ([94], none, false, [], none) := by kernel_rfl
theorem row80 : fnRow Tryd.prog Tryd.f80 = ([95, 42], none, false, [], none) := by kernel_rfl
theorem row81 : fnRow Tryd.prog Tryd.f81 = ([96], none, false, [], none) := by kernel_rfl
theorem row82 : fnRow Tryd.prog Tryd.f82 = ([97], none, false, [], none) := by kernel_rfl
theorem row83 : fnRow Tryd.prog Tryd.f83 = ([], none, false, [], none) := by kernel_rfl
theorem row84 : fnRow Tryd.prog Tryd.f84 = ([99, 98], none, false, [], none) := by kernel_rfl
theorem row85 : fnRow Tryd.prog Tryd.f85 = ([40], none, false, [], none) := by kernel_rfl
theorem row86 : fnRow Tryd.prog Tryd.f86 = ([100], none, false, [], none) := by kernel_rfl
theorem row87 : fnRow Tryd.prog Tryd.f87 = ([], none, true, [], none) := by kernel_rfl
theorem row88 : fnRow Tryd.prog Tryd.f88 = ([], none, false, [], none) := by kernel_rfl
theorem row89 : fnRow Tryd.prog Tryd.f89 = ([94, 101, 94, 102, 101, 103], none, false, [0, 0, 0], none) := by kernel_rfl
theorem row90 : fnRow Tryd.prog Tryd.f90 = ([], none, false, [], none) := by kernel_rfl
theorem row91 : fnRow Tryd.prog Tryd.f91 = ([105, 104, 106], none, false, [1], none) := by kernel_rfl
theorem row92 : fnRow Tryd.prog Tryd.f92 = ([], none, false, [], none) := by kernel_rfl
theorem row93 : fnRow Tryd.prog Tryd.f93 = ([107, 108], none, false, [], none) := by kernel_rfl
theorem row94 : fnRow Tryd.prog Tryd.f94 = ([109], none, false, [], none) := by kernel_rfl
theorem row95 : fnRow Tryd.prog Tryd.f95 = ([110, 111], none, false, [], none) := by kernel_rfl
theorem row96 : fnRow Tryd.prog Tryd.f96 = ([83], none, false, [], none) := by kernel_rfl
theorem row97 : fnRow Tryd.prog Tryd.f97 = ([89], none, false, [], none) := by kernel_rfl
theorem row98 : fnRow Tryd.prog Tryd.f98 = ([112], none, false, [], none) := by kernel_rfl
theorem row99 : fnRow Tryd.prog Tryd.f99 = ([], none, true, [], none) := by kernel_rfl
theorem row100 : fnRow Tryd.prog Tryd.f100 = ([], none, true, [], none) := by kernel_rfl
theorem row101 : fnRow Tryd.prog Tryd.f101 = ([], some Tryd.f101.name, false, [], entryReads.lookup Tryd.f101.name) := by kernel_rfl
theorem row102 : fnRow Tryd.prog Tryd.f102 = ([], none, false, [], none) := by kernel_rfl
theorem row103 : fnRow Tryd.prog Tryd.f103 = ([113], none, false, [], none) := by kernel_rfl
theorem row104 : fnRow Tryd.prog Tryd.f104 = ([], none, false, [], none) := by kernel_rfl
theorem row105 : fnRow Tryd.prog Tryd.f105 = ([], none, false, [], none) := by kernel_rfl
theorem row106 : fnRow Tryd.prog Tryd.f106 = ([], none, false, [], none) := by kernel_rfl
theorem row107 : fnRow Tryd.prog Tryd.f107 = ([], none, false, [], none) := by kernel_rfl
theorem row108 : fnRow Tryd.prog Tryd.f108 = ([114, 115], none, false, [], none) := by kernel_rfl
theorem row109 : fnRow Tryd.prog Tryd.f109 = ([], some Tryd.f109.name, false, [], none) := by kernel_rfl
theorem row110 : fnRow Tryd.prog Tryd.f110 = ([], none, false, [], none) := by kernel_rfl
theorem row111 : fnRow Tryd.prog Tryd.f111 = ([116], none, false, [], none) := by kernel_rfl
theorem row112 : fnRow Tryd.prog Tryd.f112 = ([], none, true, [], none) := by kernel_rfl
theorem row113 : fnRow Tryd.prog Tryd.f113 = ([], none, false, [], none) := by kernel_rfl
theorem row114 : fnRow Tryd.prog Tryd.f114 = ([], none, false, [2], none) := by kernel_rfl
theorem row115 : fnRow Tryd.prog Tryd.f115 = ([], none, false, [3], none) := by kernel_rfl
theorem row116 : fnRow Tryd.prog Tryd.f116 = ([], none, false, [], none) := by kernel_rfl
theorem row117 : fnRow Tryd.prog Tryd.f117 = ([], some Tryd.f117.name, false, [], none) := by kernel_rfl
theorem row118 : fnRow Tryd.prog Tryd.f118 = ([], some Tryd.f118.name, false, [], none) := by kernel_rfl
theorem row119 : fnRow Tryd.prog Tryd.f119 = ([], some Tryd.f119.name, false, [], none) := by kernel_rfl
theorem row120 : fnRow Tryd.prog Tryd.f120 = ([], some Tryd.f120.name, false, [], none) := by kernel_rfl
theorem row121 : fnRow Tryd.prog Tryd.f121 = ([], some Tryd.f121.name, false, [], none) := by kernel_rfl
theorem row122 : fnRow Tryd.prog Tryd.f122 = ([], some Tryd.f122.name, false, [], none) := by kernel_rfl
theorem row123 : fnRow Tryd.prog Tryd.f123 = ([], some Tryd.f123.name, false, [], none) := by kernel_rfl
theorem row124 : fnRow Tryd.prog Tryd.f124 = ([], some Tryd.f124.name, false, [], none) := by kernel_rfl
theorem row125 : fnRow Tryd.prog Tryd.f125 = ([], some Tryd.f125.name, false, [], none) := by kernel_rfl
theorem row126 : fnRow Tryd.prog Tryd.f126 = ([], some Tryd.f126.name, false, [], none) := by kernel_rfl
theorem row127 : fnRow Tryd.prog Tryd.f127 = ([], some Tryd.f127.name, false, [], none) := by kernel_rfl
theorem row128 : fnRow Tryd.prog Tryd.f128 = ([], some Tryd.f128.name, false, [], none) := by kernel_rfl
theorem row129 : fnRow Tryd.prog Tryd.f129 = ([], some Tryd.f129.name, false, [], none) := by kernel_rfl
theorem row130 : fnRow Tryd.prog Tryd.f130 = ([], some Tryd.f130.name, false, [], none) := by kernel_rfl
theorem row131 : fnRow Tryd.prog Tryd.f131 = ([], some Tryd.f131.name, false, [], none) := by kernel_rfl
theorem row132 : fnRow Tryd.prog Tryd.f132 = ([], some Tryd.f132.name, false, [], none) := by kernel_rfl
theorem row133 : fnRow Tryd.prog Tryd.f133 = ([], some Tryd.f133.name, false, [], none) := by kernel_rfl
theorem row134 : fnRow Tryd.prog Tryd.f134 = ([], some Tryd.f134.name, false, [], none) := by kernel_rfl
theorem row135 : fnRow Tryd.prog Tryd.f135 = ([], some Tryd.f135.name, false, [], none) := by kernel_rfl
theorem row136 : fnRow Tryd.prog Tryd.f136 = ([], some Tryd.f136.name, false, [], none) := by kernel_rfl
theorem row137 : fnRow Tryd.prog Tryd.f137 = ([], some Tryd.f137.name, false, [], none) := by kernel_rfl
theorem row138 : fnRow Tryd.prog Tryd.f138 = ([], some Tryd.f138.name, false, [], none) := by kernel_rfl
theorem row139 : fnRow Tryd.prog Tryd.f139 = ([], none, false, [2, 3, 1], none) := by kernel_rfl
noncomputable def rowsT : List FRow := [([], some Tryd.f0.name, false, [], none), ([], some Tryd.f1.name, false, [], none), ([1], none, false, [], none), ([11, 13, 12, 13, 14], none, false, [], none), ([15, 16, 17], none, false, [], none), ([18, 20, 19, 20, 21], none, false, [], none), ([18, 20, 22, 20, 23], none, false, [], none), ([18, 20, 24, 20, 25, 17], none, false, [], none), ([18, 11, 20, 13, 26, 20, 13, 27, 17], none, false, [], none), ([18, 20, 28, 20, 29, 30, 31, 32, 20, 29, 30, 32], none, false, [], none), ([33, 35, 34, 35, 36], none, false, [], none), ([], none, false, [], none), ([37, 38, 39], none, false, [], none), ([], none, false, [], none), ([40, 41, 43, 42], none, false, [], none), ([44], none, false, [], none), ([45], none, false, [], none), ([], none, false, [], none), ([], none, false, [], none), ([46], none, false, [], none), ([], none, false, [], none), ([47], none, false, [], none), ([46, 37], none, false, [], none), ([21, 40], none, false, [], none), ([46], none, false, [], none), ([21], none, false, [], none), ([46, 38, 39], none, false, [], none), ([21, 41, 14], none, false, [], none), ([46, 44], none, false, [], none), ([47], none, false, [], none), ([48], none, false, [], none), ([49, 49], none, false, [], none), ([49, 49], none, false, [], none), ([18], none, false, [], none), ([50, 46], none, false, [], none), ([51, 20], none, false, [], none), ([52, 21], none, false, [], none), ([], none, false, [], none), ([53, 54, 53], none, false, [], none), ([56, 55], none, false, [], none), ([], none, false, [], none), ([57, 58], none, false, [], none), ([59, 60, 43], none, false, [], none), ([61], none, false, [], none), ([62, 63], none, false, [], none), ([64, 65], none, true, [], none), ([44, 44], none, false, [], none), ([45, 66], none, false, [], none), ([], none, false, [], none), ([], none, false, [], none), ([67, 69, 68, 37], none, false, [], none), ([70, 70, 70], none, false, [], none), ([71, 73, 72, 74, 40], none, false, [], none), ([37], none, false, [], none), ([], none, false, [], none), ([75, 56], none, false, [], none), ([56, 56, 56, 56], none, false, [], none), ([40, 58, 59], none, false, [], none), ([40], none, false, [], none), ([76], none, false, [], none), ([], none, false, [], none), ([77], none, false, [], none), ([], none, false, [], none), ([56, 62, 62, 38, 39], none, false, [], none), ([78], none, false, [], none), ([81, 80, 82, 82, 14], none, false, [], none), ([83], none, false, [], none), ([37], none, false, [], none), ([67, 67], none, false, [], none), ([], none, false, [], none), ([], none, false, [], none), ([84, 85], none, false, [], none), ([87, 86], none, false, [], none), ([88], none, false, [], none), ([85, 85], none, false, [], none), ([], none, false, [], none), ([89], none, false, [], none), ([90, 91, 92, 93], none, false, [], none), ([79], none, true, [], none), ([94], none, false, [], none), ([95, 42], none, false, [], none), ([96], none, false, [], none), ([97], none, false, [], none), ([], none, false, [], none), ([99, 98], none, false, [], none), ([40], none, false, [], none), ([100], none, false, [], none), ([], none, true, [], none), ([], none, false, [], none), ([94, 101, 94, 102, 101, 103], none, false, [0, 0, 0], none), ([], none, false, [], none), ([105, 104, 106], none, false, [1], none), ([], none, false, [], none), ([107, 108], none, false, [], none), ([109], none, false, [], none), ([110, 111], none, false, [], none), ([83], none, false, [], none), ([89], none, false, [], none), ([112], none, false, [], none), ([], none, true, [], none), ([], none, true, [], none), ([], some Tryd.f101.name, false, [], entryReads.lookup Tryd.f101.name), ([], none, false, [], none), ([113], none, false, [], none), ([], none, false, [], none), ([], none, false, [], none), ([], none, false, [], none), ([], none, false, [], none), ([114, 115], none, false, [], none), ([], some Tryd.f109.name, false, [], none), ([], none, false, [], none), ([116], none, false, [], none), ([], none, true, [], none), ([], none, false, [], none), ([], none, false, [2], none), ([], none, false, [3], none), ([], none, false, [], none), ([], some Tryd.f117.name, false, [], none), ([], some Tryd.f118.name, false, [], none), ([], some Tryd.f119.name, false, [], none), ([], some Tryd.f120.name, false, [], none), ([], some Tryd.f121.name, false, [], none), ([], some Tryd.f122.name, false, [], none), ([], some Tryd.f123.name, false, [], none), ([], some Tryd.f124.name, false, [], none), ([], some Tryd.f125.name, false, [], none), ([], some Tryd.f126.name, false, [], none), ([], some Tryd.f127.name, false, [], none), ([], some Tryd.f128.name, false, [], none), ([], some Tryd.f129.name, false, [], none), ([], some Tryd.f130.name, false, [], none), ([], some Tryd.f131.name, false, [], none), ([], some Tryd.f132.name, false, [], none), ([], some Tryd.f133.name, false, [], none), ([], some Tryd.f134.name, false, [], none), ([], some Tryd.f135.name, false, [], none), ([], some Tryd.f136.name, false, [], none), ([], some Tryd.f137.name, false, [], none), ([], some Tryd.f138.name, false, [], none), ([], none, false, [2, 3, 1], none)]
theorem funcsL : Tryd.prog.funcs.toList = [Tryd.f0, Tryd.f1, Tryd.f2, Tryd.f3, Tryd.f4, Tryd.f5, Tryd.f6, Tryd.f7, Tryd.f8, Tryd.f9, Tryd.f10, Tryd.f11, Tryd.f12, Tryd.f13, Tryd.f14, Tryd.f15, Tryd.f16, Tryd.f17, Tryd.f18, Tryd.f19, Tryd.f20, Tryd.f21, Tryd.f22, Tryd.f23, Tryd.f24, Tryd.f25, Tryd.f26, Tryd.f27, Tryd.f28, Tryd.f29, Tryd.f30, Tryd.f31, Tryd.f32, Tryd.f33, Tryd.f34, Tryd.f35, Tryd.f36, Tryd.f37, Tryd.f38, Tryd.f39, Tryd.f40, Tryd.f41, Tryd.f42, Tryd.f43, Tryd.f44, Tryd.f45, Tryd.f46, Tryd.f47, Tryd.f48, Tryd.f49, Tryd.f50, Tryd.f51, Tryd.f52, Tryd.f53, Tryd.f54, Tryd.f55, Tryd.f56, Tryd.f57, Tryd.f58, Tryd.f59, Tryd.f60, Tryd.f61, Tryd.f62, Tryd.f63, Tryd.f64, Tryd.f65, Tryd.f66, Tryd.f67, Tryd.f68, Tryd.f69, Tryd.f70, Tryd.f71, Tryd.f72, Tryd.f73, Tryd.f74, Tryd.f75, Tryd.f76, Tryd.f77, Tryd.f78, Tryd.f79, Tryd.f80, Tryd.f81, Tryd.f82, Tryd.f83, Tryd.f84, Tryd.f85, Tryd.f86, Tryd.f87, Tryd.f88, Tryd.f89, Tryd.f90, Tryd.f91, Tryd.f92, Tryd.f93, Tryd.f94, Tryd.f95, Tryd.f96, Tryd.f97, Tryd.f98, Tryd.f99, Tryd.f100, Tryd.f101, Tryd.f102, Tryd.f103, Tryd.f104, Tryd.f105, Tryd.f106, Tryd.f107, Tryd.f108, Tryd.f109, Tryd.f110, Tryd.f111, Tryd.f112, Tryd.f113, Tryd.f114, Tryd.f115, Tryd.f116, Tryd.f117, Tryd.f118, Tryd.f119, Tryd.f120, Tryd.f121, Tryd.f122, Tryd.f123, Tryd.f124, Tryd.f125, Tryd.f126, Tryd.f127, Tryd.f128, Tryd.f129, Tryd.f130, Tryd.f131, Tryd.f132, Tryd.f133, Tryd.f134, Tryd.f135, Tryd.f136, Tryd.f137, Tryd.f138, Tryd.f139] := by kernel_rfl
theorem map_cons_of {α β : Type} {g : α → β} {a : α} {b : β} {l : List α} {m : List β} (h : g a = b) (k : l.map g = m) : (a :: l).map g = b :: m := by rw [List.map_cons, h, k]
theorem rowsAll : Tryd.prog.funcs.toList.map (fnRow Tryd.prog) = rowsT := by
  rw [funcsL]
  exact map_cons_of row0 (map_cons_of row1 (map_cons_of row2 (map_cons_of row3 (map_cons_of row4 (map_cons_of row5 (map_cons_of row6 (map_cons_of row7 (map_cons_of row8 (map_cons_of row9 (map_cons_of row10 (map_cons_of row11 (map_cons_of row12 (map_cons_of row13 (map_cons_of row14 (map_cons_of row15 (map_cons_of row16 (map_cons_of row17 (map_cons_of row18 (map_cons_of row19 (map_cons_of row20 (map_cons_of row21 (map_cons_of row22 (map_cons_of row23 (map_cons_of row24 (map_cons_of row25 (map_cons_of row26 (map_cons_of row27 (map_cons_of row28 (map_cons_of row29 (map_cons_of row30 (map_cons_of row31 (map_cons_of row32 (map_cons_of row33 (map_cons_of row34 (map_cons_of row35 (map_cons_of row36 (map_cons_of row37 (map_cons_of row38 (map_cons_of row39 (map_cons_of row40 (map_cons_of row41 (map_cons_of row42 (map_cons_of row43 (map_cons_of row44 (map_cons_of row45 (map_cons_of row46 (map_cons_of row47 (map_cons_of row48 (map_cons_of row49 (map_cons_of row50 (map_cons_of row51 (map_cons_of row52 (map_cons_of row53 (map_cons_of row54 (map_cons_of row55 (map_cons_of row56 (map_cons_of row57 (map_cons_of row58 (map_cons_of row59 (map_cons_of row60 (map_cons_of row61 (map_cons_of row62 (map_cons_of row63 (map_cons_of row64 (map_cons_of row65 (map_cons_of row66 (map_cons_of row67 (map_cons_of row68 (map_cons_of row69 (map_cons_of row70 (map_cons_of row71 (map_cons_of row72 (map_cons_of row73 (map_cons_of row74 (map_cons_of row75 (map_cons_of row76 (map_cons_of row77 (map_cons_of row78 (map_cons_of row79 (map_cons_of row80 (map_cons_of row81 (map_cons_of row82 (map_cons_of row83 (map_cons_of row84 (map_cons_of row85 (map_cons_of row86 (map_cons_of row87 (map_cons_of row88 (map_cons_of row89 (map_cons_of row90 (map_cons_of row91 (map_cons_of row92 (map_cons_of row93 (map_cons_of row94 (map_cons_of row95 (map_cons_of row96 (map_cons_of row97 (map_cons_of row98 (map_cons_of row99 (map_cons_of row100 (map_cons_of row101 (map_cons_of row102 (map_cons_of row103 (map_cons_of row104 (map_cons_of row105 (map_cons_of row106 (map_cons_of row107 (map_cons_of row108 (map_cons_of row109 (map_cons_of row110 (map_cons_of row111 (map_cons_of row112 (map_cons_of row113 (map_cons_of row114 (map_cons_of row115 (map_cons_of row116 (map_cons_of row117 (map_cons_of row118 (map_cons_of row119 (map_cons_of row120 (map_cons_of row121 (map_cons_of row122 (map_cons_of row123 (map_cons_of row124 (map_cons_of row125 (map_cons_of row126 (map_cons_of row127 (map_cons_of row128 (map_cons_of row129 (map_cons_of row130 (map_cons_of row131 (map_cons_of row132 (map_cons_of row133 (map_cons_of row134 (map_cons_of row135 (map_cons_of row136 (map_cons_of row137 (map_cons_of row138 (map_cons_of row139 rfl)))))))))))))))))))))))))))))))))))))))))))))))))))))))))))))))))))))))))))))))))))))))))))))))))))))))))))))))))))))))))))))))))))))))))))
def headC : List Nat := [104, 97, 114, 110, 101, 115, 115, 32, 100, 55, 99, 98, 52, 50, 100, 51, 55, 97, 101, 49, 57, 57, 57, 55, 49, 99, 101, 98, 49, 48, 100, 48, 50, 49, 56, 53, 52, 51, 57, 100, 54, 57, 99, 49, 53, 48, 54, 55, 49, 57, 99, 48, 48, 48, 51, 53, 54, 48, 48, 53, 102, 54, 48, 100, 99, 102, 99, 56, 51, 57, 48, 53, 32, 99, 117, 116, 32, 97, 116, 32, 108, 111, 111, 112, 46, 101, 120, 97, 109, 112, 108, 101, 47, 103, 48, 49, 50, 54, 53, 47, 108, 97, 119, 115, 46, 70, 110, 69, 120, 97, 99, 116, 69, 110, 99, 111, 100, 101, 82, 101, 99, 111, 114, 100, 32, 108, 111, 111, 112, 46, 101, 120, 97, 109, 112, 108, 101, 47, 103, 48, 49, 50, 54, 53, 47, 108, 97, 119, 115, 46, 70, 110, 69, 120, 97, 99, 116, 82, 101, 99, 111, 118, 101, 114, 76, 111, 103, 32, 108, 111, 111, 112, 46, 101, 120, 97, 109, 112, 108, 101, 47, 103, 48, 49, 50, 54, 53, 47, 108, 97, 119, 115, 46, 70, 110, 69, 120, 97, 99, 116, 73, 115, 86, 97, 108, 105, 100, 76, 111, 103, 32, 108, 111, 111, 112, 46, 101, 120, 97, 109, 112, 108, 101, 47, 103, 48, 49, 50, 54, 53, 47, 108, 97, 119, 115, 46, 70, 110, 69, 120, 97, 99, 116, 67, 114, 97, 115, 104, 76, 111, 103, 32, 108, 111, 111, 112, 46, 101, 120, 97, 109, 112, 108, 101, 47, 103, 48, 49, 50, 54, 53, 47, 108, 97, 119, 115, 46, 70, 110, 69, 120, 97, 99, 116, 83, 121, 110, 99, 76, 111, 103, 32, 108, 111, 111, 112, 46, 101, 120, 97, 109, 112, 108, 101, 47, 103, 48, 49, 50, 54, 53, 47, 108, 97, 119, 115, 46, 70, 110, 69, 120, 97, 99, 116, 65, 112, 112, 101, 110, 100, 82, 101, 99, 111, 114, 100, 32, 108, 111, 111, 112, 46, 101, 120, 97, 109, 112, 108, 101, 47, 103, 48, 49, 50, 54, 53, 47, 108, 97, 119, 115, 46, 70, 110, 69, 120, 97, 99, 116, 76, 111, 103, 82, 101, 99, 111, 114, 100, 115, 32, 108, 111, 111, 112, 46, 101, 120, 97, 109, 112, 108, 101, 47, 103, 48, 49, 50, 54, 53, 47, 108, 97, 119, 115, 46, 70, 110, 69, 120, 97, 99, 116, 73, 115, 86, 97, 108, 105, 100, 67, 111, 110, 115, 111, 108, 101]
def headW : List (List Nat) := [[104, 97, 114, 110, 101, 115, 115], [100, 55, 99, 98, 52, 50, 100, 51, 55, 97, 101, 49, 57, 57, 57, 55, 49, 99, 101, 98, 49, 48, 100, 48, 50, 49, 56, 53, 52, 51, 57, 100, 54, 57, 99, 49, 53, 48, 54, 55, 49, 57, 99, 48, 48, 48, 51, 53, 54, 48, 48, 53, 102, 54, 48, 100, 99, 102, 99, 56, 51, 57, 48, 53], [99, 117, 116], [97, 116], [108, 111, 111, 112, 46, 101, 120, 97, 109, 112, 108, 101, 47, 103, 48, 49, 50, 54, 53, 47, 108, 97, 119, 115, 46, 70, 110, 69, 120, 97, 99, 116, 69, 110, 99, 111, 100, 101, 82, 101, 99, 111, 114, 100], [108, 111, 111, 112, 46, 101, 120, 97, 109, 112, 108, 101, 47, 103, 48, 49, 50, 54, 53, 47, 108, 97, 119, 115, 46, 70, 110, 69, 120, 97, 99, 116, 82, 101, 99, 111, 118, 101, 114, 76, 111, 103], [108, 111, 111, 112, 46, 101, 120, 97, 109, 112, 108, 101, 47, 103, 48, 49, 50, 54, 53, 47, 108, 97, 119, 115, 46, 70, 110, 69, 120, 97, 99, 116, 73, 115, 86, 97, 108, 105, 100, 76, 111, 103], [108, 111, 111, 112, 46, 101, 120, 97, 109, 112, 108, 101, 47, 103, 48, 49, 50, 54, 53, 47, 108, 97, 119, 115, 46, 70, 110, 69, 120, 97, 99, 116, 67, 114, 97, 115, 104, 76, 111, 103], [108, 111, 111, 112, 46, 101, 120, 97, 109, 112, 108, 101, 47, 103, 48, 49, 50, 54, 53, 47, 108, 97, 119, 115, 46, 70, 110, 69, 120, 97, 99, 116, 83, 121, 110, 99, 76, 111, 103], [108, 111, 111, 112, 46, 101, 120, 97, 109, 112, 108, 101, 47, 103, 48, 49, 50, 54, 53, 47, 108, 97, 119, 115, 46, 70, 110, 69, 120, 97, 99, 116, 65, 112, 112, 101, 110, 100, 82, 101, 99, 111, 114, 100], [108, 111, 111, 112, 46, 101, 120, 97, 109, 112, 108, 101, 47, 103, 48, 49, 50, 54, 53, 47, 108, 97, 119, 115, 46, 70, 110, 69, 120, 97, 99, 116, 76, 111, 103, 82, 101, 99, 111, 114, 100, 115], [108, 111, 111, 112, 46, 101, 120, 97, 109, 112, 108, 101, 47, 103, 48, 49, 50, 54, 53, 47, 108, 97, 119, 115, 46, 70, 110, 69, 120, 97, 99, 116, 73, 115, 86, 97, 108, 105, 100, 67, 111, 110, 115, 111, 108, 101]]
theorem headEq : Tryd.prog.initOrder = String.ofList (headC.map Char.ofNat) := by kernel_rfl
theorem headWords : wordsSigns Tryd.prog.initOrder.toList = headW.map (fun l => l.map Char.ofNat) := by
  rw [headEq, String.toList_ofList]; kernel_rfl
def headR : List (List Nat) := headW.drop 3
theorem headB : behindMainWord (wordsSigns Tryd.prog.initOrder.toList) = String.toList (String.ofList ([99, 117, 116].map Char.ofNat)) :: headR.map (fun l => l.map Char.ofNat) := by
  rw [headWords, String.toList_ofList]; kernel_rfl
theorem cutW : String.ofList ([99, 117, 116].map Char.ofNat) = "cut" := by kernel_rfl
theorem headCut : behindMainWord (wordsSigns Tryd.prog.initOrder.toList) = "cut".toList :: headR.map (fun l => l.map Char.ofNat) := by rw [headB, cutW]
theorem stripCut (l : List (List Char)) : stripLifts liftWords ("cut".toList :: l) = ([], "cut".toList :: l) := by
  simp [stripLifts, liftWords]
theorem make_of {P : Program} {r : List (List Char)} (h : behindMainWord (wordsSigns P.initOrder.toList) = "cut".toList :: r) : P.make = some .cut := by
  unfold Program.make; rw [h]; simp
theorem lifts_of {P : Program} {r : List (List Char)} (h : behindMainWord (wordsSigns P.initOrder.toList) = "cut".toList :: r) : P.liftsFinal = false := by
  unfold Program.liftsFinal Program.headLifts; rw [h, stripCut]; simp
theorem may_of {P : Program} {r : List (List Char)} (h : behindMainWord (wordsSigns P.initOrder.toList) = "cut".toList :: r) (h1 : P.laysLater = false) (h2 : P.bearsReflect = false) (h3 : P.doorFits [] = true) : P.mayEnter = true := by
  unfold Program.mayEnter; rw [h]; simp only [stripCut]; rw [h1, h2, h3]; simp
theorem laysNot : Tryd.prog.laysLater = false := by kernel_rfl
theorem bearsNot : Tryd.prog.bearsReflect = false := by kernel_rfl
theorem doorOk : Tryd.prog.doorFits [] = true := by kernel_rfl
theorem factMay : Tryd.prog.mayEnter = true := may_of headCut laysNot bearsNot doorOk
theorem factLifts : Tryd.prog.liftsFinal = false := lifts_of headCut
theorem factMake : Tryd.prog.make = some .cut := make_of headCut
theorem and_mk {a b : Bool} (ha : a = true) (hb : b = true) : (a && b) = true := by rw [ha, hb]; rfl
end Go.Proofs.YtfflbbgipbnckaaDoor