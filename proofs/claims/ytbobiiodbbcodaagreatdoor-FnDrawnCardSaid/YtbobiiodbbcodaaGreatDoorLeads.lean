/- What each function of the program names, a row a function: so the closed facts of a row about what its function reaches are reckoned from a small table. -/
import Derived.Test.YtbobiiodbbcodaaGreatDoorProg
import Derived.JoinedOf
import Derived.KernelRfl
namespace Go.Proofs.YtbobiiodbbcodaaGreatDoor
set_option linter.unusedVariables false
set_option maxRecDepth 100000

abbrev FRow := List Nat × Option String × Bool × List Nat × Option String
def inPlaceAt (fn : Func) : Option String := if fn.ours || fn.body.isNone || fn.name == "runtime.NumGoroutine" then some fn.name else none
def fnRow (P : Program) (fn : Func) : FRow :=
  (P.leadsTo fn, inPlaceAt fn, (match fn.body with | some c => c.unfollowed | none => entryCalls fn), (fn.body.elim [] Code.globalsNamed), (if fn.body.isNone then entryReads.lookup fn.name else none))
def cvT (T : List FRow) : Nat → List Nat → List Nat → List Nat
  | 0, _, seen => seen.reverse
  | _, [], seen => seen.reverse
  | n + 1, f :: todo, seen => if seen.contains f then cvT T n todo seen else cvT T n ((T[f]?).elim [] (·.1) ++ todo) (f :: seen)
section
variable {P : Program} {T : List FRow}
theorem tab_at (hT : P.funcs.toList.map (fnRow P) = T) (k : Nat) : T[k]? = (P.funcs[k]?).map (fnRow P) := by
  rw [← hT, List.getElem?_map]; simp
theorem cvT_eq (hT : P.funcs.toList.map (fnRow P) = T) : ∀ (n : Nat) (todo seen : List Nat), P.closureVia n todo seen = cvT T n todo seen
  | 0, _, _ => by simp [Program.closureVia, cvT]
  | n + 1, [], _ => by simp [Program.closureVia, cvT]
  | n + 1, f :: todo, seen => by
    unfold Program.closureVia cvT
    rw [cvT_eq hT n, cvT_eq hT n, tab_at hT f]
    cases P.funcs[f]? <;> rfl
def closT (T : List FRow) (f : Nat) : List Nat := cvT T (1 + (T.map fun r => r.1.length + 1).sum) [f] []
theorem closT_eq (hT : P.funcs.toList.map (fnRow P) = T) (f : Nat) : P.closure f = closT T f := by
  unfold Program.closure closT
  rw [cvT_eq hT, ← hT, List.map_map]; rfl
theorem inPlaceT (hT : P.funcs.toList.map (fnRow P) = T) (f : Nat) : P.inPlace f = (closT T f).filterMap fun g => (T[g]?).bind (·.2.1) := by
  unfold Program.inPlace
  rw [closT_eq hT]
  congr 1; funext g
  rw [tab_at hT g]; cases P.funcs[g]? <;> rfl
theorem unfollowedT (hT : P.funcs.toList.map (fnRow P) = T) (f : Nat) : P.unfollowed f = (closT T f).any fun g => (T[g]?).any (·.2.2.1) := by
  unfold Program.unfollowed
  rw [closT_eq hT]
  congr 1; funext g
  rw [tab_at hT g]; cases P.funcs[g]? <;> rfl
theorem varsT (hT : P.funcs.toList.map (fnRow P) = T) (f : Nat) : P.varsNamed f =
    ((((closT T f).flatMap fun g => (T[g]?).elim [] (·.2.2.2.1)).eraseDups).filterMap (fun g => (P.globals[g]?).map (·.name)) ++ (closT T f).filterMap fun g => (T[g]?).bind (·.2.2.2.2)).eraseDups := by
  unfold Program.varsNamed
  rw [closT_eq hT]
  have e1 : (fun g : Nat => ((P.funcs[g]?).bind fun x : Func => x.body).elim [] Code.globalsNamed) = fun g : Nat => (T[g]?).elim [] fun x : FRow => x.2.2.2.1 := by
    funext g; rw [tab_at hT g]; cases P.funcs[g]? <;> rfl
  have e2 : (fun g : Nat => (P.funcs[g]?).bind fun fn : Func => if fn.body.isNone then entryReads.lookup fn.name else none) = fun g : Nat => (T[g]?).bind fun x : FRow => x.2.2.2.2 := by
    funext g; rw [tab_at hT g]; cases P.funcs[g]? <;> rfl
  rw [e1, e2]
theorem recursesEq (hT : P.funcs.toList.map (fnRow P) = T) (f : Nat) : P.recurses f = (((closT T f).any fun g => (T[g]?).any (·.2.2.1)) || (closT T f).any fun g => ((T[g]?).elim [] (·.1)).any fun h => (closT T h).contains g) := by
  unfold Program.recurses
  rw [unfollowedT hT, closT_eq hT]
  congr 1
  congr 1; funext g
  have e1 : ((P.funcs[g]?).elim [] P.leadsTo) = (T[g]?).elim [] fun x : FRow => x.1 := by
    rw [tab_at hT g]; cases P.funcs[g]? <;> rfl
  rw [e1]
  congr 1; funext h
  rw [closT_eq hT]
theorem recursesT {f : Nat} (h : P.unfollowed f = true) : P.recurses f = true := by unfold Program.recurses; rw [h]; rfl
end

theorem row0 : fnRow Tryz.prog Tryz.f0 = ([], some Tryz.f0.name, false, [], none) := by kernel_rfl
theorem row1 : fnRow Tryz.prog Tryz.f1 = ([], some Tryz.f1.name, false, [], none) := by kernel_rfl
theorem row2 : fnRow Tryz.prog Tryz.f2 = ([1], none, false, [], none) := by kernel_rfl
theorem row3 : fnRow Tryz.prog Tryz.f3 = ([4, 5, 6, 7, 8, 9, 10, 11, 13, 12, 14, 15, 13, 16, 17, 18, 19, 20, 21, 22, 23, 24, 25, 6, 8, 10, 26, 26, 26, 26, 26, 17, 19, 26, 26, 26, 27, 26, 26], none, false, [], none) := by kernel_rfl
theorem row4 : fnRow Tryz.prog Tryz.f4 = ([], none, false, [], none) := by kernel_rfl
theorem row5 : fnRow Tryz.prog Tryz.f5 = ([28], none, false, [], none) := by kernel_rfl
theorem row6 : fnRow Tryz.prog Tryz.f6 = ([29, 30, 32], none, false, [], none) := by kernel_rfl
theorem row7 : fnRow Tryz.prog Tryz.f7 = ([33, 34, 35], none, false, [], none) := by kernel_rfl
theorem row8 : fnRow Tryz.prog Tryz.f8 = ([29, 36, 32], none, false, [], none) := by kernel_rfl
theorem row9 : fnRow Tryz.prog Tryz.f9 = ([33, 34, 35], none, false, [], none) := by kernel_rfl
theorem row10 : fnRow Tryz.prog Tryz.f10 = ([29, 38, 32], none, false, [], none) := by kernel_rfl
theorem row11 : fnRow Tryz.prog Tryz.f11 = ([33, 34, 35], none, false, [], none) := by kernel_rfl
theorem row12 : fnRow Tryz.prog Tryz.f12 = ([41, 41, 41, 40], none, false, [], none) := by kernel_rfl
theorem row13 : fnRow Tryz.prog Tryz.f13 = ([], none, false, [], none) := by kernel_rfl
theorem row14 : fnRow Tryz.prog Tryz.f14 = ([42, 44, 43, 32], none, false, [], none) := by kernel_rfl
theorem row15 : fnRow Tryz.prog Tryz.f15 = ([33, 46, 45, 35], none, false, [], none) := by kernel_rfl
theorem row16 : fnRow Tryz.prog Tryz.f16 = ([41, 40], none, false, [], none) := by kernel_rfl
theorem row17 : fnRow Tryz.prog Tryz.f17 = ([47, 48, 32], none, false, [], none) := by kernel_rfl
theorem row18 : fnRow Tryz.prog Tryz.f18 = ([33, 50, 52, 51, 35], none, false, [], none) := by kernel_rfl
theorem row19 : fnRow Tryz.prog Tryz.f19 = ([47, 53, 32], none, false, [], none) := by kernel_rfl
theorem row20 : fnRow Tryz.prog Tryz.f20 = ([33, 50, 52, 55, 35], none, false, [], none) := by kernel_rfl
theorem row21 : fnRow Tryz.prog Tryz.f21 = ([56], none, false, [], none) := by kernel_rfl
theorem row22 : fnRow Tryz.prog Tryz.f22 = ([57, 37, 32], none, false, [], none) := by kernel_rfl
theorem row23 : fnRow Tryz.prog Tryz.f23 = ([58, 59, 35], none, false, [], none) := by kernel_rfl
theorem row24 : fnRow Tryz.prog Tryz.f24 = ([60, 32], none, false, [], none) := by kernel_rfl
theorem row25 : fnRow Tryz.prog Tryz.f25 = ([46, 46, 61, 35], none, false, [], none) := by kernel_rfl
theorem row26 : fnRow Tryz.prog Tryz.f26 = ([], none, false, [], none) := by kernel_rfl
theorem row27 : fnRow Tryz.prog Tryz.f27 = ([57, 37], none, false, [], none) := by kernel_rfl
theorem row28 : fnRow Tryz.prog Tryz.f28 = ([41, 40], none, false, [], none) := by kernel_rfl
theorem row29 : fnRow Tryz.prog Tryz.f29 = ([62, 42], none, true, [], none) := by kernel_rfl
theorem row30 : fnRow Tryz.prog Tryz.f30 = ([31], none, false, [], none) := by kernel_rfl
theorem row31 : fnRow Tryz.prog Tryz.f31 = ([57, 37], none, false, [], none) := by kernel_rfl
theorem row32 : fnRow Tryz.prog Tryz.f32 = ([], none, false, [], none) := by kernel_rfl
theorem row33 : fnRow Tryz.prog Tryz.f33 = ([], none, false, [], none) := by kernel_rfl
theorem row34 : fnRow Tryz.prog Tryz.f34 = ([45, 59], none, false, [], none) := by kernel_rfl
theorem row35 : fnRow Tryz.prog Tryz.f35 = ([63, 63], none, false, [], none) := by kernel_rfl
theorem row36 : fnRow Tryz.prog Tryz.f36 = ([37], none, false, [], none) := by kernel_rfl
theorem row37 : fnRow Tryz.prog Tryz.f37 = ([64, 66, 65], none, false, [], none) := by kernel_rfl
theorem row38 : fnRow Tryz.prog Tryz.f38 = ([39], none, false, [], none) := by kernel_rfl
theorem row39 : fnRow Tryz.prog Tryz.f39 = ([37], none, false, [], none) := by kernel_rfl
theorem row40 : fnRow Tryz.prog Tryz.f40 = ([41], none, false, [], none) := by kernel_rfl
theorem row41 : fnRow Tryz.prog Tryz.f41 = ([67, 67], none, false, [], none) := by kernel_rfl
theorem row42 : fnRow Tryz.prog Tryz.f42 = ([], none, false, [], none) := by kernel_rfl
theorem row43 : fnRow Tryz.prog Tryz.f43 = ([68, 62], none, false, [], none) := by kernel_rfl
theorem row44 : fnRow Tryz.prog Tryz.f44 = ([69, 64], none, false, [], none) := by kernel_rfl
theorem row45 : fnRow Tryz.prog Tryz.f45 = ([], none, false, [], none) := by kernel_rfl
theorem row46 : fnRow Tryz.prog Tryz.f46 = ([], none, false, [], none) := by kernel_rfl
theorem row47 : fnRow Tryz.prog Tryz.f47 = ([42, 70], none, true, [], none) := by kernel_rfl
theorem row48 : fnRow Tryz.prog Tryz.f48 = ([49], none, false, [], none) := by kernel_rfl
theorem row49 : fnRow Tryz.prog Tryz.f49 = ([54], none, false, [], none) := by kernel_rfl
theorem row50 : fnRow Tryz.prog Tryz.f50 = ([], none, false, [], none) := by kernel_rfl
theorem row51 : fnRow Tryz.prog Tryz.f51 = ([55], none, false, [], none) := by kernel_rfl
theorem row52 : fnRow Tryz.prog Tryz.f52 = ([], none, false, [], none) := by kernel_rfl
theorem row53 : fnRow Tryz.prog Tryz.f53 = ([54], none, false, [], none) := by kernel_rfl
theorem row54 : fnRow Tryz.prog Tryz.f54 = ([72, 71], none, false, [], none) := by kernel_rfl
theorem row55 : fnRow Tryz.prog Tryz.f55 = ([74, 75], none, false, [], none) := by kernel_rfl
theorem row56 : fnRow Tryz.prog Tryz.f56 = ([76], none, false, [], none) := by kernel_rfl
theorem row57 : fnRow Tryz.prog Tryz.f57 = ([77, 77], none, false, [], none) := by kernel_rfl
theorem row58 : fnRow Tryz.prog Tryz.f58 = ([78, 78], none, false, [], none) := by kernel_rfl
theorem row59 : fnRow Tryz.prog Tryz.f59 = ([46, 80, 79], none, false, [], none) := by kernel_rfl
theorem row60 : fnRow Tryz.prog Tryz.f60 = ([64, 62], none, false, [], none) := by kernel_rfl
theorem row61 : fnRow Tryz.prog Tryz.f61 = ([45], none, false, [], none) := by kernel_rfl
theorem row62 : fnRow Tryz.prog Tryz.f62 = ([81], none, false, [], none) := by kernel_rfl
theorem row63 : fnRow Tryz.prog Tryz.f63 = ([], none, false, [], none) := by kernel_rfl
theorem row64 : fnRow Tryz.prog Tryz.f64 = ([], none, false, [], none) := by kernel_rfl
theorem row65 : fnRow Tryz.prog Tryz.f65 = ([64, 66], none, false, [], none) := by kernel_rfl
theorem row66 : fnRow Tryz.prog Tryz.f66 = ([], none, false, [], none) := by kernel_rfl
theorem row67 : fnRow Tryz.prog Tryz.f67 = ([], none, false, [], none) := by kernel_rfl
theorem row68 : fnRow Tryz.prog Tryz.f68 = ([82, 77], none, false, [], none) := by kernel_rfl
theorem row69 : fnRow Tryz.prog Tryz.f69 = ([83], none, false, [], none) := by kernel_rfl
theorem row70 : fnRow Tryz.prog Tryz.f70 = ([], none, false, [], none) := by kernel_rfl
theorem row71 : fnRow Tryz.prog Tryz.f71 = ([84], none, true, [], none) := by kernel_rfl
theorem row72 : fnRow Tryz.prog Tryz.f72 = ([73], none, false, [], none) := by kernel_rfl
theorem row73 : fnRow Tryz.prog Tryz.f73 = ([85, 87, 86], none, false, [], none) := by kernel_rfl
theorem row74 : fnRow Tryz.prog Tryz.f74 = ([], none, false, [], none) := by kernel_rfl
theorem row75 : fnRow Tryz.prog Tryz.f75 = ([88, 46, 80], none, false, [], none) := by kernel_rfl
theorem row76 : fnRow Tryz.prog Tryz.f76 = ([40, 41, 89, 41, 40, 40], none, false, [], none) := by kernel_rfl
theorem row77 : fnRow Tryz.prog Tryz.f77 = ([42], none, false, [], none) := by kernel_rfl
theorem row78 : fnRow Tryz.prog Tryz.f78 = ([33], none, false, [], none) := by kernel_rfl
theorem row79 : fnRow Tryz.prog Tryz.f79 = ([46, 80], none, false, [], none) := by kernel_rfl
theorem row80 : fnRow Tryz.prog Tryz.f80 = ([], none, false, [], none) := by kernel_rfl
theorem row81 : fnRow Tryz.prog Tryz.f81 = ([90, 91], none, false, [], none) := by kernel_rfl
theorem row82 : fnRow Tryz.prog Tryz.f82 = ([93, 92], none, false, [], none) := by kernel_rfl
theorem row83 : fnRow Tryz.prog Tryz.f83 = ([94], none, false, [], none) := by kernel_rfl
theorem row84 : fnRow Tryz.prog Tryz.f84 = ([42, 42], none, false, [], none) := by kernel_rfl
theorem row85 : fnRow Tryz.prog Tryz.f85 = ([], none, false, [], none) := by kernel_rfl
theorem row86 : fnRow Tryz.prog Tryz.f86 = ([], none, true, [], none) := by kernel_rfl
theorem row87 : fnRow Tryz.prog Tryz.f87 = ([64, 66, 64], none, false, [], none) := by kernel_rfl
theorem row88 : fnRow Tryz.prog Tryz.f88 = ([], none, false, [], none) := by kernel_rfl
theorem row89 : fnRow Tryz.prog Tryz.f89 = ([41], none, false, [], none) := by kernel_rfl
theorem row90 : fnRow Tryz.prog Tryz.f90 = ([], none, false, [], none) := by kernel_rfl
theorem row91 : fnRow Tryz.prog Tryz.f91 = ([], none, false, [], none) := by kernel_rfl
theorem row92 : fnRow Tryz.prog Tryz.f92 = ([86], none, false, [], none) := by kernel_rfl
theorem row93 : fnRow Tryz.prog Tryz.f93 = ([], none, true, [], none) := by kernel_rfl
theorem row94 : fnRow Tryz.prog Tryz.f94 = ([95, 96, 97, 98], none, false, [], none) := by kernel_rfl
theorem row95 : fnRow Tryz.prog Tryz.f95 = ([], none, false, [], none) := by kernel_rfl
theorem row96 : fnRow Tryz.prog Tryz.f96 = ([100, 99, 101], none, false, [0], none) := by kernel_rfl
theorem row97 : fnRow Tryz.prog Tryz.f97 = ([], none, false, [], none) := by kernel_rfl
theorem row98 : fnRow Tryz.prog Tryz.f98 = ([102, 103], none, false, [], none) := by kernel_rfl
theorem row99 : fnRow Tryz.prog Tryz.f99 = ([], none, false, [], none) := by kernel_rfl
theorem row100 : fnRow Tryz.prog Tryz.f100 = ([], none, false, [], none) := by kernel_rfl
theorem row101 : fnRow Tryz.prog Tryz.f101 = ([], none, false, [], none) := by kernel_rfl
theorem row102 : fnRow Tryz.prog Tryz.f102 = ([], none, false, [], none) := by kernel_rfl
theorem row103 : fnRow Tryz.prog Tryz.f103 = ([104, 105], none, false, [], none) := by kernel_rfl
theorem row104 : fnRow Tryz.prog Tryz.f104 = ([], none, false, [1], none) := by kernel_rfl
theorem row105 : fnRow Tryz.prog Tryz.f105 = ([], none, false, [2], none) := by kernel_rfl
theorem row106 : fnRow Tryz.prog Tryz.f106 = ([], some Tryz.f106.name, false, [], none) := by kernel_rfl
theorem row107 : fnRow Tryz.prog Tryz.f107 = ([], some Tryz.f107.name, false, [], none) := by kernel_rfl
theorem row108 : fnRow Tryz.prog Tryz.f108 = ([], some Tryz.f108.name, false, [], none) := by kernel_rfl
theorem row109 : fnRow Tryz.prog Tryz.f109 = ([], some Tryz.f109.name, false, [], none) := by kernel_rfl
theorem row110 : fnRow Tryz.prog Tryz.f110 = ([], some Tryz.f110.name, false, [], none) := by kernel_rfl
theorem row111 : fnRow Tryz.prog Tryz.f111 = ([], some Tryz.f111.name, false, [], none) := by kernel_rfl
theorem row112 : fnRow Tryz.prog Tryz.f112 = ([], some Tryz.f112.name, false, [], none) := by kernel_rfl
theorem row113 : fnRow Tryz.prog Tryz.f113 = ([], some Tryz.f113.name, false, [], none) := by kernel_rfl
theorem row114 : fnRow Tryz.prog Tryz.f114 = ([], some Tryz.f114.name, false, [], none) := by kernel_rfl
theorem row115 : fnRow Tryz.prog Tryz.f115 = ([], some Tryz.f115.name, false, [], none) := by kernel_rfl
theorem row116 : fnRow Tryz.prog Tryz.f116 = ([], some Tryz.f116.name, false, [], none) := by kernel_rfl
theorem row117 : fnRow Tryz.prog Tryz.f117 = ([], some Tryz.f117.name, false, [], none) := by kernel_rfl
theorem row118 : fnRow Tryz.prog Tryz.f118 = ([], some Tryz.f118.name, false, [], none) := by kernel_rfl
theorem row119 : fnRow Tryz.prog Tryz.f119 = ([], some Tryz.f119.name, false, [], none) := by kernel_rfl
theorem row120 : fnRow Tryz.prog Tryz.f120 = ([], some Tryz.f120.name, false, [], none) := by kernel_rfl
theorem row121 : fnRow Tryz.prog Tryz.f121 = ([], some Tryz.f121.name, false, [], none) := by kernel_rfl
theorem row122 : fnRow Tryz.prog Tryz.f122 = ([], some Tryz.f122.name, false, [], none) := by kernel_rfl
theorem row123 : fnRow Tryz.prog Tryz.f123 = ([], some Tryz.f123.name, false, [], none) := by kernel_rfl
theorem row124 : fnRow Tryz.prog Tryz.f124 = ([], some Tryz.f124.name, false, [], none) := by kernel_rfl
theorem row125 : fnRow Tryz.prog Tryz.f125 = ([], some Tryz.f125.name, false, [], none) := by kernel_rfl
theorem row126 : fnRow Tryz.prog Tryz.f126 = ([], some Tryz.f126.name, false, [], none) := by kernel_rfl
theorem row127 : fnRow Tryz.prog Tryz.f127 = ([], some Tryz.f127.name, false, [], none) := by kernel_rfl
theorem row128 : fnRow Tryz.prog Tryz.f128 = ([], none, false, [1, 2, 0], none) := by kernel_rfl
noncomputable def rowsT : List FRow := [([], some Tryz.f0.name, false, [], none), ([], some Tryz.f1.name, false, [], none), ([1], none, false, [], none), ([4, 5, 6, 7, 8, 9, 10, 11, 13, 12, 14, 15, 13, 16, 17, 18, 19, 20, 21, 22, 23, 24, 25, 6, 8, 10, 26, 26, 26, 26, 26, 17, 19, 26, 26, 26, 27, 26, 26], none, false, [], none), ([], none, false, [], none), ([28], none, false, [], none), ([29, 30, 32], none, false, [], none), ([33, 34, 35], none, false, [], none), ([29, 36, 32], none, false, [], none), ([33, 34, 35], none, false, [], none), ([29, 38, 32], none, false, [], none), ([33, 34, 35], none, false, [], none), ([41, 41, 41, 40], none, false, [], none), ([], none, false, [], none), ([42, 44, 43, 32], none, false, [], none), ([33, 46, 45, 35], none, false, [], none), ([41, 40], none, false, [], none), ([47, 48, 32], none, false, [], none), ([33, 50, 52, 51, 35], none, false, [], none), ([47, 53, 32], none, false, [], none), ([33, 50, 52, 55, 35], none, false, [], none), ([56], none, false, [], none), ([57, 37, 32], none, false, [], none), ([58, 59, 35], none, false, [], none), ([60, 32], none, false, [], none), ([46, 46, 61, 35], none, false, [], none), ([], none, false, [], none), ([57, 37], none, false, [], none), ([41, 40], none, false, [], none), ([62, 42], none, true, [], none), ([31], none, false, [], none), ([57, 37], none, false, [], none), ([], none, false, [], none), ([], none, false, [], none), ([45, 59], none, false, [], none), ([63, 63], none, false, [], none), ([37], none, false, [], none), ([64, 66, 65], none, false, [], none), ([39], none, false, [], none), ([37], none, false, [], none), ([41], none, false, [], none), ([67, 67], none, false, [], none), ([], none, false, [], none), ([68, 62], none, false, [], none), ([69, 64], none, false, [], none), ([], none, false, [], none), ([], none, false, [], none), ([42, 70], none, true, [], none), ([49], none, false, [], none), ([54], none, false, [], none), ([], none, false, [], none), ([55], none, false, [], none), ([], none, false, [], none), ([54], none, false, [], none), ([72, 71], none, false, [], none), ([74, 75], none, false, [], none), ([76], none, false, [], none), ([77, 77], none, false, [], none), ([78, 78], none, false, [], none), ([46, 80, 79], none, false, [], none), ([64, 62], none, false, [], none), ([45], none, false, [], none), ([81], none, false, [], none), ([], none, false, [], none), ([], none, false, [], none), ([64, 66], none, false, [], none), ([], none, false, [], none), ([], none, false, [], none), ([82, 77], none, false, [], none), ([83], none, false, [], none), ([], none, false, [], none), ([84], none, true, [], none), ([73], none, false, [], none), ([85, 87, 86], none, false, [], none), ([], none, false, [], none), ([88, 46, 80], none, false, [], none), ([40, 41, 89, 41, 40, 40], none, false, [], none), ([42], none, false, [], none), ([33], none, false, [], none), ([46, 80], none, false, [], none), ([], none, false, [], none), ([90, 91], none, false, [], none), ([93, 92], none, false, [], none), ([94], none, false, [], none), ([42, 42], none, false, [], none), ([], none, false, [], none), ([], none, true, [], none), ([64, 66, 64], none, false, [], none), ([], none, false, [], none), ([41], none, false, [], none), ([], none, false, [], none), ([], none, false, [], none), ([86], none, false, [], none), ([], none, true, [], none), ([95, 96, 97, 98], none, false, [], none), ([], none, false, [], none), ([100, 99, 101], none, false, [0], none), ([], none, false, [], none), ([102, 103], none, false, [], none), ([], none, false, [], none), ([], none, false, [], none), ([], none, false, [], none), ([], none, false, [], none), ([104, 105], none, false, [], none), ([], none, false, [1], none), ([], none, false, [2], none), ([], some Tryz.f106.name, false, [], none), ([], some Tryz.f107.name, false, [], none), ([], some Tryz.f108.name, false, [], none), ([], some Tryz.f109.name, false, [], none), ([], some Tryz.f110.name, false, [], none), ([], some Tryz.f111.name, false, [], none), ([], some Tryz.f112.name, false, [], none), ([], some Tryz.f113.name, false, [], none), ([], some Tryz.f114.name, false, [], none), ([], some Tryz.f115.name, false, [], none), ([], some Tryz.f116.name, false, [], none), ([], some Tryz.f117.name, false, [], none), ([], some Tryz.f118.name, false, [], none), ([], some Tryz.f119.name, false, [], none), ([], some Tryz.f120.name, false, [], none), ([], some Tryz.f121.name, false, [], none), ([], some Tryz.f122.name, false, [], none), ([], some Tryz.f123.name, false, [], none), ([], some Tryz.f124.name, false, [], none), ([], some Tryz.f125.name, false, [], none), ([], some Tryz.f126.name, false, [], none), ([], some Tryz.f127.name, false, [], none), ([], none, false, [1, 2, 0], none)]
theorem funcsL : Tryz.prog.funcs.toList = [Tryz.f0, Tryz.f1, Tryz.f2, Tryz.f3, Tryz.f4, Tryz.f5, Tryz.f6, Tryz.f7, Tryz.f8, Tryz.f9, Tryz.f10, Tryz.f11, Tryz.f12, Tryz.f13, Tryz.f14, Tryz.f15, Tryz.f16, Tryz.f17, Tryz.f18, Tryz.f19, Tryz.f20, Tryz.f21, Tryz.f22, Tryz.f23, Tryz.f24, Tryz.f25, Tryz.f26, Tryz.f27, Tryz.f28, Tryz.f29, Tryz.f30, Tryz.f31, Tryz.f32, Tryz.f33, Tryz.f34, Tryz.f35, Tryz.f36, Tryz.f37, Tryz.f38, Tryz.f39, Tryz.f40, Tryz.f41, Tryz.f42, Tryz.f43, Tryz.f44, Tryz.f45, Tryz.f46, Tryz.f47, Tryz.f48, Tryz.f49, Tryz.f50, Tryz.f51, Tryz.f52, Tryz.f53, Tryz.f54, Tryz.f55, Tryz.f56, Tryz.f57, Tryz.f58, Tryz.f59, Tryz.f60, Tryz.f61, Tryz.f62, Tryz.f63, Tryz.f64, Tryz.f65, Tryz.f66, Tryz.f67, Tryz.f68, Tryz.f69, Tryz.f70, Tryz.f71, Tryz.f72, Tryz.f73, Tryz.f74, Tryz.f75, Tryz.f76, Tryz.f77, Tryz.f78, Tryz.f79, Tryz.f80, Tryz.f81, Tryz.f82, Tryz.f83, Tryz.f84, Tryz.f85, Tryz.f86, Tryz.f87, Tryz.f88, Tryz.f89, Tryz.f90, Tryz.f91, Tryz.f92, Tryz.f93, Tryz.f94, Tryz.f95, Tryz.f96, Tryz.f97, Tryz.f98, Tryz.f99, Tryz.f100, Tryz.f101, Tryz.f102, Tryz.f103, Tryz.f104, Tryz.f105, Tryz.f106, Tryz.f107, Tryz.f108, Tryz.f109, Tryz.f110, Tryz.f111, Tryz.f112, Tryz.f113, Tryz.f114, Tryz.f115, Tryz.f116, Tryz.f117, Tryz.f118, Tryz.f119, Tryz.f120, Tryz.f121, Tryz.f122, Tryz.f123, Tryz.f124, Tryz.f125, Tryz.f126, Tryz.f127, Tryz.f128] := by kernel_rfl
theorem map_cons_of {α β : Type} {g : α → β} {a : α} {b : β} {l : List α} {m : List β} (h : g a = b) (k : l.map g = m) : (a :: l).map g = b :: m := by rw [List.map_cons, h, k]
theorem rowsAll : Tryz.prog.funcs.toList.map (fnRow Tryz.prog) = rowsT := by
  rw [funcsL]
  exact map_cons_of row0 (map_cons_of row1 (map_cons_of row2 (map_cons_of row3 (map_cons_of row4 (map_cons_of row5 (map_cons_of row6 (map_cons_of row7 (map_cons_of row8 (map_cons_of row9 (map_cons_of row10 (map_cons_of row11 (map_cons_of row12 (map_cons_of row13 (map_cons_of row14 (map_cons_of row15 (map_cons_of row16 (map_cons_of row17 (map_cons_of row18 (map_cons_of row19 (map_cons_of row20 (map_cons_of row21 (map_cons_of row22 (map_cons_of row23 (map_cons_of row24 (map_cons_of row25 (map_cons_of row26 (map_cons_of row27 (map_cons_of row28 (map_cons_of row29 (map_cons_of row30 (map_cons_of row31 (map_cons_of row32 (map_cons_of row33 (map_cons_of row34 (map_cons_of row35 (map_cons_of row36 (map_cons_of row37 (map_cons_of row38 (map_cons_of row39 (map_cons_of row40 (map_cons_of row41 (map_cons_of row42 (map_cons_of row43 (map_cons_of row44 (map_cons_of row45 (map_cons_of row46 (map_cons_of row47 (map_cons_of row48 (map_cons_of row49 (map_cons_of row50 (map_cons_of row51 (map_cons_of row52 (map_cons_of row53 (map_cons_of row54 (map_cons_of row55 (map_cons_of row56 (map_cons_of row57 (map_cons_of row58 (map_cons_of row59 (map_cons_of row60 (map_cons_of row61 (map_cons_of row62 (map_cons_of row63 (map_cons_of row64 (map_cons_of row65 (map_cons_of row66 (map_cons_of row67 (map_cons_of row68 (map_cons_of row69 (map_cons_of row70 (map_cons_of row71 (map_cons_of row72 (map_cons_of row73 (map_cons_of row74 (map_cons_of row75 (map_cons_of row76 (map_cons_of row77 (map_cons_of row78 (map_cons_of row79 (map_cons_of row80 (map_cons_of row81 (map_cons_of row82 (map_cons_of row83 (map_cons_of row84 (map_cons_of row85 (map_cons_of row86 (map_cons_of row87 (map_cons_of row88 (map_cons_of row89 (map_cons_of row90 (map_cons_of row91 (map_cons_of row92 (map_cons_of row93 (map_cons_of row94 (map_cons_of row95 (map_cons_of row96 (map_cons_of row97 (map_cons_of row98 (map_cons_of row99 (map_cons_of row100 (map_cons_of row101 (map_cons_of row102 (map_cons_of row103 (map_cons_of row104 (map_cons_of row105 (map_cons_of row106 (map_cons_of row107 (map_cons_of row108 (map_cons_of row109 (map_cons_of row110 (map_cons_of row111 (map_cons_of row112 (map_cons_of row113 (map_cons_of row114 (map_cons_of row115 (map_cons_of row116 (map_cons_of row117 (map_cons_of row118 (map_cons_of row119 (map_cons_of row120 (map_cons_of row121 (map_cons_of row122 (map_cons_of row123 (map_cons_of row124 (map_cons_of row125 (map_cons_of row126 (map_cons_of row127 (map_cons_of row128 rfl))))))))))))))))))))))))))))))))))))))))))))))))))))))))))))))))))))))))))))))))))))))))))))))))))))))))))))))))))))))))))))))))
def headC : List Nat := [104, 97, 114, 110, 101, 115, 115, 32, 102, 52, 101, 50, 53, 51, 97, 48, 54, 56, 100, 102, 102, 97, 51, 101, 51, 55, 97, 56, 51, 54, 49, 99, 54, 100, 100, 50, 102, 48, 57, 97, 48, 55, 51, 52, 55, 57, 50, 57, 101, 98, 99, 98, 56, 100, 97, 54, 54, 48, 49, 100, 98, 55, 48, 55, 100, 100, 100, 56, 100, 48, 56, 99, 32, 99, 117, 116, 32, 97, 116, 32, 108, 111, 111, 112, 46, 101, 120, 97, 109, 112, 108, 101, 47, 103, 48, 49, 50, 54, 53, 47, 108, 97, 119, 115, 46, 70, 110, 68, 114, 97, 119, 110]
def headW : List (List Nat) := [[104, 97, 114, 110, 101, 115, 115], [102, 52, 101, 50, 53, 51, 97, 48, 54, 56, 100, 102, 102, 97, 51, 101, 51, 55, 97, 56, 51, 54, 49, 99, 54, 100, 100, 50, 102, 48, 57, 97, 48, 55, 51, 52, 55, 57, 50, 57, 101, 98, 99, 98, 56, 100, 97, 54, 54, 48, 49, 100, 98, 55, 48, 55, 100, 100, 100, 56, 100, 48, 56, 99], [99, 117, 116], [97, 116], [108, 111, 111, 112, 46, 101, 120, 97, 109, 112, 108, 101, 47, 103, 48, 49, 50, 54, 53, 47, 108, 97, 119, 115, 46, 70, 110, 68, 114, 97, 119, 110]]
theorem headEq : Tryz.prog.initOrder = String.ofList (headC.map Char.ofNat) := by kernel_rfl
theorem headWords : wordsSigns Tryz.prog.initOrder.toList = headW.map (fun l => l.map Char.ofNat) := by
  rw [headEq, String.toList_ofList]; kernel_rfl
def headR : List (List Nat) := headW.drop 3
theorem headB : behindMainWord (wordsSigns Tryz.prog.initOrder.toList) = String.toList (String.ofList ([99, 117, 116].map Char.ofNat)) :: headR.map (fun l => l.map Char.ofNat) := by
  rw [headWords, String.toList_ofList]; kernel_rfl
theorem cutW : String.ofList ([99, 117, 116].map Char.ofNat) = "cut" := by kernel_rfl
theorem headCut : behindMainWord (wordsSigns Tryz.prog.initOrder.toList) = "cut".toList :: headR.map (fun l => l.map Char.ofNat) := by rw [headB, cutW]
theorem stripCut (l : List (List Char)) : stripLifts liftWords ("cut".toList :: l) = ([], "cut".toList :: l) := by
  simp [stripLifts, liftWords]
theorem make_of {P : Program} {r : List (List Char)} (h : behindMainWord (wordsSigns P.initOrder.toList) = "cut".toList :: r) : P.make = some .cut := by
  unfold Program.make; rw [h]; simp
theorem lifts_of {P : Program} {r : List (List Char)} (h : behindMainWord (wordsSigns P.initOrder.toList) = "cut".toList :: r) : P.liftsFinal = false := by
  unfold Program.liftsFinal Program.headLifts; rw [h, stripCut]; simp
theorem may_of {P : Program} {r : List (List Char)} (h : behindMainWord (wordsSigns P.initOrder.toList) = "cut".toList :: r) (h1 : P.laysLater = false) (h2 : P.bearsReflect = false) (h3 : P.doorFits [] = true) : P.mayEnter = true := by
  unfold Program.mayEnter; rw [h]; simp only [stripCut]; rw [h1, h2, h3]; simp
theorem laysNot : Tryz.prog.laysLater = false := by kernel_rfl
theorem bearsNot : Tryz.prog.bearsReflect = false := by kernel_rfl
theorem doorOk : Tryz.prog.doorFits [] = true := by kernel_rfl
theorem factMay : Tryz.prog.mayEnter = true := may_of headCut laysNot bearsNot doorOk
theorem factLifts : Tryz.prog.liftsFinal = false := lifts_of headCut
theorem factMake : Tryz.prog.make = some .cut := make_of headCut
theorem and_mk {a b : Bool} (ha : a = true) (hb : b = true) : (a && b) = true := by rw [ha, hb]; rfl
end Go.Proofs.YtbobiiodbbcodaaGreatDoor