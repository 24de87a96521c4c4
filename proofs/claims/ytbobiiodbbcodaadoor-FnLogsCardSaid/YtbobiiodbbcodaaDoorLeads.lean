/- What each function of the program names, a row a function: so the closed facts of a row about what its function reaches are reckoned from a small table. -/
import Derived.Test.YtbobiiodbbcodaaDoorProg
import Derived.JoinedOf
import Derived.KernelRfl
namespace Go.Proofs.YtbobiiodbbcodaaDoor
set_option linter.unusedVariables false
set_option maxRecDepth 100000

abbrev FRow := List Nat × Option String × Bool × List Nat × Option String
def inPlaceAt (fn : Func) : Option String := if fn.ours || fn.body.isNone || fn.name == "runtime.NumGoroutine" then some fn.name else none
def fnRow (P : Program) (fn : Func) : FRow :=
  (P.leadsTo fn, inPlaceAt fn, (match fn.body with | some c => c.unfollowed | none => entryCalls fn), (fn.body.elim [] Code.globalsNamed), (if fn.body.isNone then entryReads.lookup fn.name else none))
def cvT (T : List FRow) : Nat → List Nat → List Nat → List Nat
  | 0, _, seen => seen.reverse
  | _, [], seen => seen.reverse
  | n + 1, f :: todo, seen => if seen.contains f then cvT T n todo seen else cvT T n ((T[f]?).elim [] (·.1) ++ todo) (f :: seen)
section
variable {P : Program} {T : List FRow}
theorem tab_at (hT : P.funcs.toList.map (fnRow P) = T) (k : Nat) : T[k]? = (P.funcs[k]?).map (fnRow P) := by
  rw [← hT, List.getElem?_map]; simp
theorem cvT_eq (hT : P.funcs.toList.map (fnRow P) = T) : ∀ (n : Nat) (todo seen : List Nat), P.closureVia n todo seen = cvT T n todo seen
  | 0, _, _ => by simp [Program.closureVia, cvT]
  | n + 1, [], _ => by simp [Program.closureVia, cvT]
  | n + 1, f :: todo, seen => by
    unfold Program.closureVia cvT
    rw [cvT_eq hT n, cvT_eq hT n, tab_at hT f]
    cases P.funcs[f]? <;> rfl
def closT (T : List FRow) (f : Nat) : List Nat := cvT T (1 + (T.map fun r => r.1.length + 1).sum) [f] []
theorem closT_eq (hT : P.funcs.toList.map (fnRow P) = T) (f : Nat) : P.closure f = closT T f := by
  unfold Program.closure closT
  rw [cvT_eq hT, ← hT, List.map_map]; rfl
theorem inPlaceT (hT : P.funcs.toList.map (fnRow P) = T) (f : Nat) : P.inPlace f = (closT T f).filterMap fun g => (T[g]?).bind (·.2.1) := by
  unfold Program.inPlace
  rw [closT_eq hT]
  congr 1; funext g
  rw [tab_at hT g]; cases P.funcs[g]? <;> rfl
theorem unfollowedT (hT : P.funcs.toList.map (fnRow P) = T) (f : Nat) : P.unfollowed f = (closT T f).any fun g => (T[g]?).any (·.2.2.1) := by
  unfold Program.unfollowed
  rw [closT_eq hT]
  congr 1; funext g
  rw [tab_at hT g]; cases P.funcs[g]? <;> rfl
theorem varsT (hT : P.funcs.toList.map (fnRow P) = T) (f : Nat) : P.varsNamed f =
    ((((closT T f).flatMap fun g => (T[g]?).elim [] (·.2.2.2.1)).eraseDups).filterMap (fun g => (P.globals[g]?).map (·.name)) ++ (closT T f).filterMap fun g => (T[g]?).bind (·.2.2.2.2)).eraseDups := by
  unfold Program.varsNamed
  rw [closT_eq hT]
  have e1 : (fun g : Nat => ((P.funcs[g]?).bind fun x : Func => x.body).elim [] Code.globalsNamed) = fun g : Nat => (T[g]?).elim [] fun x : FRow => x.2.2.2.1 := by
    funext g; rw [tab_at hT g]; cases P.funcs[g]? <;> rfl
  have e2 : (fun g : Nat => (P.funcs[g]?).bind fun fn : Func => if fn.body.isNone then entryReads.lookup fn.name else none) = fun g : Nat => (T[g]?).bind fun x : FRow => x.2.2.2.2 := by
    funext g; rw [tab_at hT g]; cases P.funcs[g]? <;> rfl
  rw [e1, e2]
theorem recursesEq (hT : P.funcs.toList.map (fnRow P) = T) (f : Nat) : P.recurses f = (((closT T f).any fun g => (T[g]?).any (·.2.2.1)) || (closT T f).any fun g => ((T[g]?).elim [] (·.1)).any fun h => (closT T h).contains g) := by
  unfold Program.recurses
  rw [unfollowedT hT, closT_eq hT]
  congr 1
  congr 1; funext g
  have e1 : ((P.funcs[g]?).elim [] P.leadsTo) = (T[g]?).elim [] fun x : FRow => x.1 := by
    rw [tab_at hT g]; cases P.funcs[g]? <;> rfl
  rw [e1]
  congr 1; funext h
  rw [closT_eq hT]
theorem recursesT {f : Nat} (h : P.unfollowed f = true) : P.recurses f = true := by unfold Program.recurses; rw [h]; rfl
end

theorem row0 : fnRow Tryd.prog Tryd.f0 = ([], some Tryd.f0.name, false, [], none) := by kernel_rfl
theorem row1 : fnRow Tryd.prog Tryd.f1 = ([], some Tryd.f1.name, false, [], none) := by kernel_rfl
theorem row2 : fnRow Tryd.prog Tryd.f2 = ([1], none, false, [], none) := by kernel_rfl
theorem row3 : fnRow Tryd.prog Tryd.f3 = ([5, 6, 8, 7, 9, 10, 8, 11, 8, 12, 13, 14, 15, 16, 17, 18, 19, 20, 21, 22, 23, 21, 23, 21, 17, 23], none, false, [], none) := by kernel_rfl
theorem row4 : fnRow Tryd.prog Tryd.f4 = ([5, 24, 25, 26, 8, 27, 28, 29, 28, 17, 21, 21, 23], none, false, [], none) := by kernel_rfl
theorem row5 : fnRow Tryd.prog Tryd.f5 = ([], none, false, [], none) := by kernel_rfl
theorem row6 : fnRow Tryd.prog Tryd.f6 = ([30], none, false, [], none) := by kernel_rfl
theorem row7 : fnRow Tryd.prog Tryd.f7 = ([31, 30], none, false, [], none) := by kernel_rfl
theorem row8 : fnRow Tryd.prog Tryd.f8 = ([], none, false, [], none) := by kernel_rfl
theorem row9 : fnRow Tryd.prog Tryd.f9 = ([32, 15, 34, 33], none, false, [], none) := by kernel_rfl
theorem row10 : fnRow Tryd.prog Tryd.f10 = ([35, 36, 37], none, false, [], none) := by kernel_rfl
theorem row11 : fnRow Tryd.prog Tryd.f11 = ([38], none, false, [], none) := by kernel_rfl
theorem row12 : fnRow Tryd.prog Tryd.f12 = ([38, 39, 40, 14, 30], none, false, [], none) := by kernel_rfl
theorem row13 : fnRow Tryd.prog Tryd.f13 = ([17, 15, 9], none, false, [], none) := by kernel_rfl
theorem row14 : fnRow Tryd.prog Tryd.f14 = ([41, 36, 37], none, false, [], none) := by kernel_rfl
theorem row15 : fnRow Tryd.prog Tryd.f15 = ([42, 43], none, false, [], none) := by kernel_rfl
theorem row16 : fnRow Tryd.prog Tryd.f16 = ([36], none, false, [], none) := by kernel_rfl
theorem row17 : fnRow Tryd.prog Tryd.f17 = ([44], none, false, [], none) := by kernel_rfl
theorem row18 : fnRow Tryd.prog Tryd.f18 = ([41], none, false, [], none) := by kernel_rfl
theorem row19 : fnRow Tryd.prog Tryd.f19 = ([17], none, false, [], none) := by kernel_rfl
theorem row20 : fnRow Tryd.prog Tryd.f20 = ([41], none, false, [], none) := by kernel_rfl
theorem row21 : fnRow Tryd.prog Tryd.f21 = ([44], none, false, [], none) := by kernel_rfl
theorem row22 : fnRow Tryd.prog Tryd.f22 = ([41, 45], none, false, [], none) := by kernel_rfl
theorem row23 : fnRow Tryd.prog Tryd.f23 = ([], none, false, [], none) := by kernel_rfl
theorem row24 : fnRow Tryd.prog Tryd.f24 = ([38, 40, 39], none, false, [], none) := by kernel_rfl
theorem row25 : fnRow Tryd.prog Tryd.f25 = ([17, 32], none, false, [], none) := by kernel_rfl
theorem row26 : fnRow Tryd.prog Tryd.f26 = ([41, 35], none, false, [], none) := by kernel_rfl
theorem row27 : fnRow Tryd.prog Tryd.f27 = ([46, 40, 47, 40, 40, 30, 37, 39, 40], none, false, [], none) := by kernel_rfl
theorem row28 : fnRow Tryd.prog Tryd.f28 = ([48], none, false, [], none) := by kernel_rfl
theorem row29 : fnRow Tryd.prog Tryd.f29 = ([45], none, false, [], none) := by kernel_rfl
theorem row30 : fnRow Tryd.prog Tryd.f30 = ([49, 49, 40, 49, 49], none, false, [], none) := by kernel_rfl
theorem row31 : fnRow Tryd.prog Tryd.f31 = ([40], none, false, [], none) := by kernel_rfl
theorem row32 : fnRow Tryd.prog Tryd.f32 = ([], none, false, [], none) := by kernel_rfl
theorem row33 : fnRow Tryd.prog Tryd.f33 = ([50, 51, 34], none, false, [], none) := by kernel_rfl
theorem row34 : fnRow Tryd.prog Tryd.f34 = ([52], none, false, [], none) := by kernel_rfl
theorem row35 : fnRow Tryd.prog Tryd.f35 = ([], none, false, [], none) := by kernel_rfl
theorem row36 : fnRow Tryd.prog Tryd.f36 = ([53, 54, 53], none, false, [], none) := by kernel_rfl
theorem row37 : fnRow Tryd.prog Tryd.f37 = ([56, 55], none, false, [], none) := by kernel_rfl
theorem row38 : fnRow Tryd.prog Tryd.f38 = ([46, 40, 47], none, false, [], none) := by kernel_rfl
theorem row39 : fnRow Tryd.prog Tryd.f39 = ([40], none, false, [], none) := by kernel_rfl
theorem row40 : fnRow Tryd.prog Tryd.f40 = ([57, 57], none, false, [], none) := by kernel_rfl
theorem row41 : fnRow Tryd.prog Tryd.f41 = ([45, 45], none, false, [], none) := by kernel_rfl
theorem row42 : fnRow Tryd.prog Tryd.f42 = ([32, 43, 50], none, false, [], none) := by kernel_rfl
theorem row43 : fnRow Tryd.prog Tryd.f43 = ([32], none, false, [], none) := by kernel_rfl
theorem row44 : fnRow Tryd.prog Tryd.f44 = ([48, 58], none, false, [], none) := by kernel_rfl
theorem row45 : fnRow Tryd.prog Tryd.f45 = ([59, 60], none, false, [], none) := by kernel_rfl
theorem row46 : fnRow Tryd.prog Tryd.f46 = ([40, 30, 14, 39, 20], none, false, [], none) := by kernel_rfl
theorem row47 : fnRow Tryd.prog Tryd.f47 = ([40, 40, 40], none, false, [], none) := by kernel_rfl
theorem row48 : fnRow Tryd.prog Tryd.f48 = ([61, 62], none, true, [], none) := by kernel_rfl
theorem row49 : fnRow Tryd.prog Tryd.f49 = ([40], none, false, [], none) := by kernel_rfl
theorem row50 : fnRow Tryd.prog Tryd.f50 = ([63], none, false, [], none) := by kernel_rfl
theorem row51 : fnRow Tryd.prog Tryd.f51 = ([], none, false, [], none) := by kernel_rfl
theorem row52 : fnRow Tryd.prog Tryd.f52 = ([64], none, false, [], none) := by kernel_rfl
theorem row53 : fnRow Tryd.prog Tryd.f53 = ([35], none, false, [], none) := by kernel_rfl
theorem row54 : fnRow Tryd.prog Tryd.f54 = ([], none, false, [], none) := by kernel_rfl
theorem row55 : fnRow Tryd.prog Tryd.f55 = ([65, 56], none, false, [], none) := by kernel_rfl
theorem row56 : fnRow Tryd.prog Tryd.f56 = ([56, 56, 56, 56], none, false, [], none) := by kernel_rfl
theorem row57 : fnRow Tryd.prog Tryd.f57 = ([], none, false, [], none) := by kernel_rfl
theorem row58 : fnRow Tryd.prog Tryd.f58 = ([66], none, false, [], none) := by kernel_rfl
theorem row59 : fnRow Tryd.prog Tryd.f59 = ([], none, false, [], none) := by kernel_rfl
theorem row60 : fnRow Tryd.prog Tryd.f60 = ([56, 59, 59, 36, 37], none, false, [], none) := by kernel_rfl
theorem row61 : fnRow Tryd.prog Tryd.f61 = ([67], none, false, [], none) := by kernel_rfl
theorem row62 : fnRow Tryd.prog Tryd.f62 = ([70, 69, 71, 71, 9], none, false, [], none) := by kernel_rfl
theorem row63 : fnRow Tryd.prog Tryd.f63 = ([72], none, false, [], none) := by kernel_rfl
theorem row64 : fnRow Tryd.prog Tryd.f64 = ([73, 74, 75, 76], none, false, [], none) := by kernel_rfl
theorem row65 : fnRow Tryd.prog Tryd.f65 = ([], none, false, [], none) := by kernel_rfl
theorem row66 : fnRow Tryd.prog Tryd.f66 = ([], none, false, [], none) := by kernel_rfl
theorem row67 : fnRow Tryd.prog Tryd.f67 = ([68], none, true, [], none) := by kernel_rfl
theorem row68 : fnRow Tryd.prog Tryd.f68 = ([77], none, false, [], none) := by kernel_rfl
theorem row69 : fnRow Tryd.prog Tryd.f69 = ([78, 33], none, false, [], none) := by kernel_rfl
theorem row70 : fnRow Tryd.prog Tryd.f70 = ([79], none, false, [], none) := by kernel_rfl
theorem row71 : fnRow Tryd.prog Tryd.f71 = ([80], none, false, [], none) := by kernel_rfl
theorem row72 : fnRow Tryd.prog Tryd.f72 = ([77, 81, 77, 82, 81, 83], none, false, [0, 0, 0], none) := by kernel_rfl
theorem row73 : fnRow Tryd.prog Tryd.f73 = ([], none, false, [], none) := by kernel_rfl
theorem row74 : fnRow Tryd.prog Tryd.f74 = ([85, 84, 86], none, false, [1], none) := by kernel_rfl
theorem row75 : fnRow Tryd.prog Tryd.f75 = ([], none, false, [], none) := by kernel_rfl
theorem row76 : fnRow Tryd.prog Tryd.f76 = ([87, 88], none, false, [], none) := by kernel_rfl
theorem row77 : fnRow Tryd.prog Tryd.f77 = ([89], none, false, [], none) := by kernel_rfl
theorem row78 : fnRow Tryd.prog Tryd.f78 = ([90, 91], none, false, [], none) := by kernel_rfl
theorem row79 : fnRow Tryd.prog Tryd.f79 = ([66], none, false, [], none) := by kernel_rfl
theorem row80 : fnRow Tryd.prog Tryd.f80 = ([72], none, false, [], none) := by kernel_rfl
theorem row81 : fnRow Tryd.prog Tryd.f81 = ([], some Tryd.f81.name, false, [], entryReads.lookup Tryd.f81.name) := by kernel_rfl
theorem row82 : fnRow Tryd.prog Tryd.f82 = ([], none, false, [], none) := by kernel_rfl
theorem row83 : fnRow Tryd.prog Tryd.f83 = ([92], none, false, [], none) := by kernel_rfl
theorem row84 : fnRow Tryd.prog Tryd.f84 = ([], none, false, [], none) := by kernel_rfl
theorem row85 : fnRow Tryd.prog Tryd.f85 = ([], none, false, [], none) := by kernel_rfl
theorem row86 : fnRow Tryd.prog Tryd.f86 = ([], none, false, [], none) := by kernel_rfl
theorem row87 : fnRow Tryd.prog Tryd.f87 = ([], none, false, [], none) := by kernel_rfl
theorem row88 : fnRow Tryd.prog Tryd.f88 = ([93, 94], none, false, [], none) := by kernel_rfl
theorem row89 : fnRow Tryd.prog Tryd.f89 = ([], some Tryd.f89.name, false, [], none) := by kernel_rfl
theorem row90 : fnRow Tryd.prog Tryd.f90 = ([], none, false, [], none) := by kernel_rfl
theorem row91 : fnRow Tryd.prog Tryd.f91 = ([95], none, false, [], none) := by kernel_rfl
theorem row92 : fnRow Tryd.prog Tryd.f92 = ([], none, false, [], none) := by kernel_rfl
theorem row93 : fnRow Tryd.prog Tryd.f93 = ([], none, false, [2], none) := by kernel_rfl
theorem row94 : fnRow Tryd.prog Tryd.f94 = ([], none, false, [3], none) := by kernel_rfl
theorem row95 : fnRow Tryd.prog Tryd.f95 = ([], none, false, [], none) := by kernel_rfl
theorem row96 : fnRow Tryd.prog Tryd.f96 = ([], some Tryd.f96.name, false, [], none) := by kernel_rfl
theorem row97 : fnRow Tryd.prog Tryd.f97 = ([], some Tryd.f97.name, false, [], none) := by kernel_rfl
theorem row98 : fnRow Tryd.prog Tryd.f98 = ([], some Tryd.f98.name, false, [], none) := by kernel_rfl
theorem row99 : fnRow Tryd.prog Tryd.f99 = ([], some Tryd.f99.name, false, [], none) := by kernel_rfl
theorem row100 : fnRow Tryd.prog Tryd.f100 = ([], some Tryd.f100.name, false, [], none) := by kernel_rfl
theorem row101 : fnRow Tryd.prog Tryd.f101 = ([], some Tryd.f101.name, false, [], none) := by kernel_rfl
theorem row102 : fnRow Tryd.prog Tryd.f102 = ([], some Tryd.f102.name, false, [], none) := by kernel_rfl
theorem row103 : fnRow Tryd.prog Tryd.f103 = ([], some Tryd.f103.name, false, [], none) := by kernel_rfl
theorem row104 : fnRow Tryd.prog Tryd.f104 = ([], some Tryd.f104.name, false, [], none) := by kernel_rfl
theorem row105 : fnRow Tryd.prog Tryd.f105 = ([], some Tryd.f105.name, false, [], none) := by kernel_rfl
theorem row106 : fnRow Tryd.prog Tryd.f106 = ([], some Tryd.f106.name, false, [], none) := by kernel_rfl
theorem row107 : fnRow Tryd.prog Tryd.f107 = ([], some Tryd.f107.name, false, [], none) := by kernel_rfl
theorem row108 : fnRow Tryd.prog Tryd.f108 = ([], some Tryd.f108.name, false, [], none) := by kernel_rfl
theorem row109 : fnRow Tryd.prog Tryd.f109 = ([], some Tryd.f109.name, false, [], none) := by kernel_rfl
theorem row110 : fnRow Tryd.prog Tryd.f110 = ([], some Tryd.f110.name, false, [], none) := by kernel_rfl
theorem row111 : fnRow Tryd.prog Tryd.f111 = ([], some Tryd.f111.name, false, [], none) := by kernel_rfl
theorem row112 : fnRow Tryd.prog Tryd.f112 = ([], some Tryd.f112.name, false, [], none) := by kernel_rfl
theorem row113 : fnRow Tryd.prog Tryd.f113 = ([], some Tryd.f113.name, false, [], none) := by kernel_rfl
theorem row114 : fnRow Tryd.prog Tryd.f114 = ([], some Tryd.f114.name, false, [], none) := by kernel_rfl
theorem row115 : fnRow Tryd.prog Tryd.f115 = ([], some Tryd.f115.name, false, [], none) := by kernel_rfl
theorem row116 : fnRow Tryd.prog Tryd.f116 = ([], some Tryd.f116.name, false, [], none) := by kernel_rfl
theorem row117 : fnRow Tryd.prog Tryd.f117 = ([], some Tryd.f117.name, false, [], none) := by kernel_rfl
theorem row118 : fnRow Tryd.prog Tryd.f118 = ([], none, false, [2, 3, 1], none) := by kernel_rfl
noncomputable def rowsT : List FRow := [([], some Tryd.f0.name, false, [], none), ([], some Tryd.f1.name, false, [], none), ([1], none, false, [], none), ([5, 6, 8, 7, 9, 10, 8, 11, 8, 12, 13, 14, 15, 16, 17, 18, 19, 20, 21, 22, 23, 21, 23, 21, 17, 23], none, false, [], none), ([5, 24, 25, 26, 8, 27, 28, 29, 28, 17, 21, 21, 23], none, false, [], none), ([], none, false, [], none), ([30], none, false, [], none), ([31, 30], none, false, [], none), ([], none, false, [], none), ([32, 15, 34, 33], none, false, [], none), ([35, 36, 37], none, false, [], none), ([38], none, false, [], none), ([38, 39, 40, 14, 30], none, false, [], none), ([17, 15, 9], none, false, [], none), ([41, 36, 37], none, false, [], none), ([42, 43], none, false, [], none), ([36], none, false, [], none), ([44], none, false, [], none), ([41], none, false, [], none), ([17], none, false, [], none), ([41], none, false, [], none), ([44], none, false, [], none), ([41, 45], none, false, [], none), ([], none, false, [], none), ([38, 40, 39], none, false, [], none), ([17, 32], none, false, [], none), ([41, 35], none, false, [], none), ([46, 40, 47, 40, 40, 30, 37, 39, 40], none, false, [], none), ([48], none, false, [], none), ([45], none, false, [], none), ([49, 49, 40, 49, 49], none, false, [], none), ([40], none, false, [], none), ([], none, false, [], none), ([50, 51, 34], none, false, [], none), ([52], none, false, [], none), ([], none, false, [], none), ([53, 54, 53], none, false, [], none), ([56, 55], none, false, [], none), ([46, 40, 47], none, false, [], none), ([40], none, false, [], none), ([57, 57], none, false, [], none), ([45, 45], none, false, [], none), ([32, 43, 50], none, false, [], none), ([32], none, false, [], none), ([48, 58], none, false, [], none), ([59, 60], none, false, [], none), ([40, 30, 14, 39, 20], none, false, [], none), ([40, 40, 40], none, false, [], none), ([61, 62], none, true, [], none), ([40], none, false, [], none), ([63], none, false, [], none), ([], none, false, [], none), ([64], none, false, [], none), ([35], none, false, [], none), ([], none, false, [], none), ([65, 56], none, false, [], none), ([56, 56, 56, 56], none, false, [], none), ([], none, false, [], none), ([66], none, false, [], none), ([], none, false, [], none), ([56, 59, 59, 36, 37], none, false, [], none), ([67], none, false, [], none), ([70, 69, 71, 71, 9], none, false, [], none), ([72], none, false, [], none), ([73, 74, 75, 76], none, false, [], none), ([], none, false, [], none), ([], none, false, [], none), ([68], none, true, [], none), ([77], none, false, [], none), ([78, 33], none, false, [], none), ([79], none, false, [], none), ([80], none, false, [], none), ([77, 81, 77, 82, 81, 83], none, false, [0, 0, 0], none), ([], none, false, [], none), ([85, 84, 86], none, false, [1], none), ([], none, false, [], none), ([87, 88], none, false, [], none), ([89], none, false, [], none), ([90, 91], none, false, [], none), ([66], none, false, [], none), ([72], none, false, [], none), ([], some Tryd.f81.name, false, [], entryReads.lookup Tryd.f81.name), ([], none, false, [], none), ([92], none, false, [], none), ([], none, false, [], none), ([], none, false, [], none), ([], none, false, [], none), ([], none, false, [], none), ([93, 94], none, false, [], none), ([], some Tryd.f89.name, false, [], none), ([], none, false, [], none), ([95], none, false, [], none), ([], none, false, [], none), ([], none, false, [2], none), ([], none, false, [3], none), ([], none, false, [], none), ([], some Tryd.f96.name, false, [], none), ([], some Tryd.f97.name, false, [], none), ([], some Tryd.f98.name, false, [], none), ([], some Tryd.f99.name, false, [], none), ([], some Tryd.f100.name, false, [], none), ([], some Tryd.f101.name, false, [], none), ([], some Tryd.f102.name, false, [], none), ([], some Tryd.f103.name, false, [], none), ([], some Tryd.f104.name, false, [], none), ([], some Tryd.f105.name, false, [], none), ([], some Tryd.f106.name, false, [], none), ([], some Tryd.f107.name, false, [], none), ([], some Tryd.f108.name, false, [], none), ([], some Tryd.f109.name, false, [], none), ([], some Tryd.f110.name, false, [], none), ([], some Tryd.f111.name, false, [], none), ([], some Tryd.f112.name, false, [], none), ([], some Tryd.f113.name, false, [], none), ([], some Tryd.f114.name, false, [], none), ([], some Tryd.f115.name, false, [], none), ([], some Tryd.f116.name, false, [], none), ([], some Tryd.f117.name, false, [], none), ([], none, false, [2, 3, 1], none)]
theorem funcsL : Tryd.prog.funcs.toList = [Tryd.f0, Tryd.f1, Tryd.f2, Tryd.f3, Tryd.f4, Tryd.f5, Tryd.f6, Tryd.f7, Tryd.f8, Tryd.f9, Tryd.f10, Tryd.f11, Tryd.f12, Tryd.f13, Tryd.f14, Tryd.f15, Tryd.f16, Tryd.f17, Tryd.f18, Tryd.f19, Tryd.f20, Tryd.f21, Tryd.f22, Tryd.f23, Tryd.f24, Tryd.f25, Tryd.f26, Tryd.f27, Tryd.f28, Tryd.f29, Tryd.f30, Tryd.f31, Tryd.f32, Tryd.f33, Tryd.f34, Tryd.f35, Tryd.f36, Tryd.f37, Tryd.f38, Tryd.f39, Tryd.f40, Tryd.f41, Tryd.f42, Tryd.f43, Tryd.f44, Tryd.f45, Tryd.f46, Tryd.f47, Tryd.f48, Tryd.f49, Tryd.f50, Tryd.f51, Tryd.f52, Tryd.f53, Tryd.f54, Tryd.f55, Tryd.f56, Tryd.f57, Tryd.f58, Tryd.f59, Tryd.f60, Tryd.f61, Tryd.f62, Tryd.f63, Tryd.f64, Tryd.f65, Tryd.f66, Tryd.f67, Tryd.f68, Tryd.f69, Tryd.f70, Tryd.f71, Tryd.f72, Tryd.f73, Tryd.f74, Tryd.f75, Tryd.f76, Tryd.f77, Tryd.f78, Tryd.f79, Tryd.f80, Tryd.f81, Tryd.f82, Tryd.f83, Tryd.f84, Tryd.f85, Tryd.f86, Tryd.f87, Tryd.f88, Tryd.f89, Tryd.f90, Tryd.f91, Tryd.f92, Tryd.f93, Tryd.f94, Tryd.f95, Tryd.f96, Tryd.f97, Tryd.f98, Tryd.f99, Tryd.f100, Tryd.f101, Tryd.f102, Tryd.f103, Tryd.f104, Tryd.f105, Tryd.f106, Tryd.f107, Tryd.f108, Tryd.f109, Tryd.f110, Tryd.f111, Tryd.f112, Tryd.f113, Tryd.f114, Tryd.f115, Tryd.f116, Tryd.f117, Tryd.f118] := by kernel_rfl
theorem map_cons_of {α β : Type} {g : α → β} {a : α} {b : β} {l : List α} {m : List β} (h : g a = b) (k : l.map g = m) : (a :: l).map g = b :: m := by rw [List.map_cons, h, k]
theorem rowsAll : Tryd.prog.funcs.toList.map (fnRow Tryd.prog) = rowsT := by
  rw [funcsL]
  exact map_cons_of row0 (map_cons_of row1 (map_cons_of row2 (map_cons_of row3 (map_cons_of row4 (map_cons_of row5 (map_cons_of row6 (map_cons_of row7 (map_cons_of row8 (map_cons_of row9 (map_cons_of row10 (map_cons_of row11 (map_cons_of row12 (map_cons_of row13 (map_cons_of row14 (map_cons_of row15 (map_cons_of row16 (map_cons_of row17 (map_cons_of row18 (map_cons_of row19 (map_cons_of row20 (map_cons_of row21 (map_cons_of row22 (map_cons_of row23 (map_cons_of row24 (map_cons_of row25 (map_cons_of row26 (map_cons_of row27 (map_cons_of row28 (map_cons_of row29 (map_cons_of row30 (map_cons_of row31 (map_cons_of row32 (map_cons_of row33 (map_cons_of row34 (map_cons_of row35 (map_cons_of row36 (map_cons_of row37 (map_cons_of row38 (map_cons_of row39 (map_cons_of row40 (map_cons_of row41 (map_cons_of row42 (map_cons_of row43 (map_cons_of row44 (map_cons_of row45 (map_cons_of row46 (map_cons_of row47 (map_cons_of row48 (map_cons_of row49 (map_cons_of row50 (map_cons_of row51 (map_cons_of row52 (map_cons_of row53 (map_cons_of row54 (map_cons_of row55 (map_cons_of row56 (map_cons_of row57 (map_cons_of row58 (map_cons_of row59 (map_cons_of row60 (map_cons_of row61 (map_cons_of row62 (map_cons_of row63 (map_cons_of row64 (map_cons_of row65 (map_cons_of row66 (map_cons_of row67 (map_cons_of row68 (map_cons_of row69 (map_cons_of row70 (map_cons_of row71 (map_cons_of row72 (map_cons_of row73 (map_cons_of row74 (map_cons_of row75 (map_cons_of row76 (map_cons_of row77 (map_cons_of row78 (map_cons_of row79 (map_cons_of row80 (map_cons_of row81 (map_cons_of row82 (map_cons_of row83 (map_cons_of row84 (map_cons_of row85 (map_cons_of row86 (map_cons_of row87 (map_cons_of row88 (map_cons_of row89 (map_cons_of row90 (map_cons_of row91 (map_cons_of row92 (map_cons_of row93 (map_cons_of row94 (map_cons_of row95 (map_cons_of row96 (map_cons_of row97 (map_cons_of row98 (map_cons_of row99 (map_cons_of row100 (map_cons_of row101 (map_cons_of row102 (map_cons_of row103 (map_cons_of row104 (map_cons_of row105 (map_cons_of row106 (map_cons_of row107 (map_cons_of row108 (map_cons_of row109 (map_cons_of row110 (map_cons_of row111 (map_cons_of row112 (map_cons_of row113 (map_cons_of row114 (map_cons_of row115 (map_cons_of row116 (map_cons_of row117 (map_cons_of row118 rfl))))))))))))))))))))))))))))))))))))))))))))))))))))))))))))))))))))))))))))))))))))))))))))))))))))))))))))))))))))))
def headC : List Nat := [104, 97, 114, 110, 101, 115, 115, 32, 101, 100, 98, 100, 99, 100, 53, 56, 51, 99, 48, 99, 50, 54, 97, 55, 51, 101, 100, 55, 97, 54, 99, 48, 49, 53, 97, 55, 102, 50, 99, 98, 49, 102, 98, 48, 97, 56, 51, 99, 101, 97, 51, 98, 55, 57, 50, 97, 97, 48, 50, 99, 102, 101, 55, 52, 99, 53, 98, 54, 97, 53, 53, 97, 32, 99, 117, 116, 32, 97, 116, 32, 108, 111, 111, 112, 46, 101, 120, 97, 109, 112, 108, 101, 47, 103, 48, 49, 50, 54, 53, 47, 108, 97, 119, 115, 46, 70, 110, 76, 111, 103, 115, 32, 108, 111, 111, 112, 46, 101, 120, 97, 109, 112, 108, 101, 47, 103, 48, 49, 50, 54, 53, 47, 108, 97, 119, 115, 46, 70, 110, 67, 114, 97, 115, 104, 101, 115]
def headW : List (List Nat) := [[104, 97, 114, 110, 101, 115, 115], [101, 100, 98, 100, 99, 100, 53, 56, 51, 99, 48, 99, 50, 54, 97, 55, 51, 101, 100, 55, 97, 54, 99, 48, 49, 53, 97, 55, 102, 50, 99, 98, 49, 102, 98, 48, 97, 56, 51, 99, 101, 97, 51, 98, 55, 57, 50, 97, 97, 48, 50, 99, 102, 101, 55, 52, 99, 53, 98, 54, 97, 53, 53, 97], [99, 117, 116], [97, 116], [108, 111, 111, 112, 46, 101, 120, 97, 109, 112, 108, 101, 47, 103, 48, 49, 50, 54, 53, 47, 108, 97, 119, 115, 46, 70, 110, 76, 111, 103, 115], [108, 111, 111, 112, 46, 101, 120, 97, 109, 112, 108, 101, 47, 103, 48, 49, 50, 54, 53, 47, 108, 97, 119, 115, 46, 70, 110, 67, 114, 97, 115, 104, 101, 115]]
theorem headEq : Tryd.prog.initOrder = String.ofList (headC.map Char.ofNat) := by kernel_rfl
theorem headWords : wordsSigns Tryd.prog.initOrder.toList = headW.map (fun l => l.map Char.ofNat) := by
  rw [headEq, String.toList_ofList]; kernel_rfl
def headR : List (List Nat) := headW.drop 3
theorem headB : behindMainWord (wordsSigns Tryd.prog.initOrder.toList) = String.toList (String.ofList ([99, 117, 116].map Char.ofNat)) :: headR.map (fun l => l.map Char.ofNat) := by
  rw [headWords, String.toList_ofList]; kernel_rfl
theorem cutW : String.ofList ([99, 117, 116].map Char.ofNat) = "cut" := by kernel_rfl
theorem headCut : behindMainWord (wordsSigns Tryd.prog.initOrder.toList) = "cut".toList :: headR.map (fun l => l.map Char.ofNat) := by rw [headB, cutW]
theorem stripCut (l : List (List Char)) : stripLifts liftWords ("cut".toList :: l) = ([], "cut".toList :: l) := by
  simp [stripLifts, liftWords]
theorem make_of {P : Program} {r : List (List Char)} (h : behindMainWord (wordsSigns P.initOrder.toList) = "cut".toList :: r) : P.make = some .cut := by
  unfold Program.make; rw [h]; simp
theorem lifts_of {P : Program} {r : List (List Char)} (h : behindMainWord (wordsSigns P.initOrder.toList) = "cut".toList :: r) : P.liftsFinal = false := by
  unfold Program.liftsFinal Program.headLifts; rw [h, stripCut]; simp
theorem may_of {P : Program} {r : List (List Char)} (h : behindMainWord (wordsSigns P.initOrder.toList) = "cut".toList :: r) (h1 : P.laysLater = false) (h2 : P.bearsReflect = false) (h3 : P.doorFits [] = true) : P.mayEnter = true := by
  unfold Program.mayEnter; rw [h]; simp only [stripCut]; rw [h1, h2, h3]; simp
theorem laysNot : Tryd.prog.laysLater = false := by kernel_rfl
theorem bearsNot : Tryd.prog.bearsReflect = false := by kernel_rfl
theorem doorOk : Tryd.prog.doorFits [] = true := by kernel_rfl
theorem factMay : Tryd.prog.mayEnter = true := may_of headCut laysNot bearsNot doorOk
theorem factLifts : Tryd.prog.liftsFinal = false := lifts_of headCut
theorem factMake : Tryd.prog.make = some .cut := make_of headCut
theorem and_mk {a b : Bool} (ha : a = true) (hb : b = true) : (a && b) = true := by rw [ha, hb]; rfl
end Go.Proofs.YtbobiiodbbcodaaDoor