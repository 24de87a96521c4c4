/- What each function of the program names, a row a function: so the closed facts of a row about what its function reaches are reckoned from a small table. -/
import Derived.Test.YtfbnmkpkihfocaaProg
import Derived.JoinedOf
import Derived.KernelRfl
namespace Go.Proofs.Ytfbnmkpkihfocaa
set_option linter.unusedVariables false
set_option maxRecDepth 100000

abbrev FRow := List Nat × Option String × Bool × List Nat × Option String
def inPlaceAt (fn : Func) : Option String := if fn.ours || fn.body.isNone || fn.name == "runtime.NumGoroutine" then some fn.name else none
def fnRow (P : Program) (fn : Func) : FRow :=
  (P.leadsTo fn, inPlaceAt fn, (match fn.body with | some c => c.unfollowed | none => entryCalls fn), (fn.body.elim [] Code.globalsNamed), (if fn.body.isNone then entryReads.lookup fn.name else none))
def cvT (T : List FRow) : Nat → List Nat → List Nat → List Nat
  | 0, _, seen => seen.reverse
  | _, [], seen => seen.reverse
  | n + 1, f :: todo, seen => if seen.contains f then cvT T n todo seen else cvT T n ((T[f]?).elim [] (·.1) ++ todo) (f :: seen)
section
variable {P : Program} {T : List FRow}
theorem tab_at (hT : P.funcs.toList.map (fnRow P) = T) (k : Nat) : T[k]? = (P.funcs[k]?).map (fnRow P) := by
  rw [← hT, List.getElem?_map]; simp
theorem cvT_eq (hT : P.funcs.toList.map (fnRow P) = T) : ∀ (n : Nat) (todo seen : List Nat), P.closureVia n todo seen = cvT T n todo seen
  | 0, _, _ => by simp [Program.closureVia, cvT]
  | n + 1, [], _ => by simp [Program.closureVia, cvT]
  | n + 1, f :: todo, seen => by
    unfold Program.closureVia cvT
    rw [cvT_eq hT n, cvT_eq hT n, tab_at hT f]
    cases P.funcs[f]? <;> rfl
def closT (T : List FRow) (f : Nat) : List Nat := cvT T (1 + (T.map fun r => r.1.length + 1).sum) [f] []
theorem closT_eq (hT : P.funcs.toList.map (fnRow P) = T) (f : Nat) : P.closure f = closT T f := by
  unfold Program.closure closT
  rw [cvT_eq hT, ← hT, List.map_map]; rfl
theorem inPlaceT (hT : P.funcs.toList.map (fnRow P) = T) (f : Nat) : P.inPlace f = (closT T f).filterMap fun g => (T[g]?).bind (·.2.1) := by
  unfold Program.inPlace
  rw [closT_eq hT]
  congr 1; funext g
  rw [tab_at hT g]; cases P.funcs[g]? <;> rfl
theorem unfollowedT (hT : P.funcs.toList.map (fnRow P) = T) (f : Nat) : P.unfollowed f = (closT T f).any fun g => (T[g]?).any (·.2.2.1) := by
  unfold Program.unfollowed
  rw [closT_eq hT]
  congr 1; funext g
  rw [tab_at hT g]; cases P.funcs[g]? <;> rfl
theorem varsT (hT : P.funcs.toList.map (fnRow P) = T) (f : Nat) : P.varsNamed f =
    ((((closT T f).flatMap fun g => (T[g]?).elim [] (·.2.2.2.1)).eraseDups).filterMap (fun g => (P.globals[g]?).map (·.name)) ++ (closT T f).filterMap fun g => (T[g]?).bind (·.2.2.2.2)).eraseDups := by
  unfold Program.varsNamed
  rw [closT_eq hT]
  have e1 : (fun g : Nat => ((P.funcs[g]?).bind fun x : Func => x.body).elim [] Code.globalsNamed) = fun g : Nat => (T[g]?).elim [] fun x : FRow => x.2.2.2.1 := by
    funext g; rw [tab_at hT g]; cases P.funcs[g]? <;> rfl
  have e2 : (fun g : Nat => (P.funcs[g]?).bind fun fn : Func => if fn.body.isNone then entryReads.lookup fn.name else none) = fun g : Nat => (T[g]?).bind fun x : FRow => x.2.2.2.2 := by
    funext g; rw [tab_at hT g]; cases P.funcs[g]? <;> rfl
  rw [e1, e2]
theorem recursesEq (hT : P.funcs.toList.map (fnRow P) = T) (f : Nat) : P.recurses f = (((closT T f).any fun g => (T[g]?).any (·.2.2.1)) || (closT T f).any fun g => ((T[g]?).elim [] (·.1)).any fun h => (closT T h).contains g) := by
  unfold Program.recurses
  rw [unfollowedT hT, closT_eq hT]
  congr 1
  congr 1; funext g
  have e1 : ((P.funcs[g]?).elim [] P.leadsTo) = (T[g]?).elim [] fun x : FRow => x.1 := by
    rw [tab_at hT g]; cases P.funcs[g]? <;> rfl
  rw [e1]
  congr 1; funext h
  rw [closT_eq hT]
theorem recursesT {f : Nat} (h : P.unfollowed f = true) : P.recurses f = true := by unfold Program.recurses; rw [h]; rfl
end

theorem row0 : fnRow Try.prog Try.f0 = ([], some Try.f0.name, false, [], none) := by kernel_rfl
theorem row1 : fnRow Try.prog Try.f1 = ([], some Try.f1.name, false, [], none) := by kernel_rfl
theorem row2 : fnRow Try.prog Try.f2 = ([1], none, false, [], none) := by kernel_rfl
theorem row3 : fnRow Try.prog Try.f3 = ([5, 6, 7, 8, 9, 10, 11, 12, 13, 14, 16, 15, 17, 18, 16, 19, 20, 21, 22, 23, 22, 24, 25, 26, 24], none, false, [], none) := by kernel_rfl
theorem row4 : fnRow Try.prog Try.f4 = ([5, 27, 28, 29, 16, 30, 31, 32, 16, 33, 34, 35, 36, 37, 38, 39, 22, 22, 40, 41, 40, 40, 40, 38, 40, 42, 43, 22, 31], none, false, [], none) := by kernel_rfl
theorem row5 : fnRow Try.prog Try.f5 = ([], none, false, [], none) := by kernel_rfl
theorem row6 : fnRow Try.prog Try.f6 = ([44], none, false, [], none) := by kernel_rfl
theorem row7 : fnRow Try.prog Try.f7 = ([45, 46], none, false, [], none) := by kernel_rfl
theorem row8 : fnRow Try.prog Try.f8 = ([47, 48], none, false, [], none) := by kernel_rfl
theorem row9 : fnRow Try.prog Try.f9 = ([45, 46, 49, 50], none, false, [], none) := by kernel_rfl
theorem row10 : fnRow Try.prog Try.f10 = ([47, 48], none, false, [], none) := by kernel_rfl
theorem row11 : fnRow Try.prog Try.f11 = ([45, 46], none, false, [], none) := by kernel_rfl
theorem row12 : fnRow Try.prog Try.f12 = ([47, 48], none, false, [], none) := by kernel_rfl
theorem row13 : fnRow Try.prog Try.f13 = ([45, 51], none, false, [], none) := by kernel_rfl
theorem row14 : fnRow Try.prog Try.f14 = ([47, 48], none, false, [], none) := by kernel_rfl
theorem row15 : fnRow Try.prog Try.f15 = ([52, 47, 53, 56, 55, 54, 57], none, false, [], none) := by kernel_rfl
theorem row16 : fnRow Try.prog Try.f16 = ([], none, false, [], none) := by kernel_rfl
theorem row17 : fnRow Try.prog Try.f17 = ([45, 58, 59], none, false, [], none) := by kernel_rfl
theorem row18 : fnRow Try.prog Try.f18 = ([47, 60, 61], none, false, [], none) := by kernel_rfl
theorem row19 : fnRow Try.prog Try.f19 = ([56, 62], none, false, [], none) := by kernel_rfl
theorem row20 : fnRow Try.prog Try.f20 = ([63, 64, 65, 51], none, false, [], none) := by kernel_rfl
theorem row21 : fnRow Try.prog Try.f21 = ([66, 47, 67, 48], none, false, [], none) := by kernel_rfl
theorem row22 : fnRow Try.prog Try.f22 = ([], none, false, [], none) := by kernel_rfl
theorem row23 : fnRow Try.prog Try.f23 = ([22], none, false, [], none) := by kernel_rfl
theorem row24 : fnRow Try.prog Try.f24 = ([], none, false, [], none) := by kernel_rfl
theorem row25 : fnRow Try.prog Try.f25 = ([68, 69], none, false, [], none) := by kernel_rfl
theorem row26 : fnRow Try.prog Try.f26 = ([45, 58, 70], none, false, [], none) := by kernel_rfl
theorem row27 : fnRow Try.prog Try.f27 = ([71], none, false, [], none) := by kernel_rfl
theorem row28 : fnRow Try.prog Try.f28 = ([72], none, false, [], none) := by kernel_rfl
theorem row29 : fnRow Try.prog Try.f29 = ([73], none, false, [], none) := by kernel_rfl
theorem row30 : fnRow Try.prog Try.f30 = ([74, 75], none, false, [], none) := by kernel_rfl
theorem row31 : fnRow Try.prog Try.f31 = ([40, 76, 77], none, false, [], none) := by kernel_rfl
theorem row32 : fnRow Try.prog Try.f32 = ([78, 79], none, false, [], none) := by kernel_rfl
theorem row33 : fnRow Try.prog Try.f33 = ([74, 56, 75], none, false, [], none) := by kernel_rfl
theorem row34 : fnRow Try.prog Try.f34 = ([40, 76, 77], none, false, [], none) := by kernel_rfl
theorem row35 : fnRow Try.prog Try.f35 = ([78, 79], none, false, [], none) := by kernel_rfl
theorem row36 : fnRow Try.prog Try.f36 = ([40, 80], none, false, [], none) := by kernel_rfl
theorem row37 : fnRow Try.prog Try.f37 = ([78, 81], none, false, [], none) := by kernel_rfl
theorem row38 : fnRow Try.prog Try.f38 = ([40, 82], none, false, [], none) := by kernel_rfl
theorem row39 : fnRow Try.prog Try.f39 = ([78, 81], none, false, [], none) := by kernel_rfl
theorem row40 : fnRow Try.prog Try.f40 = ([72, 84, 83, 45, 63], none, false, [], none) := by kernel_rfl
theorem row41 : fnRow Try.prog Try.f41 = ([78], none, false, [], none) := by kernel_rfl
theorem row42 : fnRow Try.prog Try.f42 = ([72, 85, 86], none, false, [], none) := by kernel_rfl
theorem row43 : fnRow Try.prog Try.f43 = ([72, 85, 87], none, false, [], none) := by kernel_rfl
theorem row44 : fnRow Try.prog Try.f44 = ([52], none, false, [], none) := by kernel_rfl
theorem row45 : fnRow Try.prog Try.f45 = ([58, 58], none, false, [], none) := by kernel_rfl
theorem row46 : fnRow Try.prog Try.f46 = ([69, 70, 59], none, false, [], none) := by kernel_rfl
theorem row47 : fnRow Try.prog Try.f47 = ([60, 60], none, false, [], none) := by kernel_rfl
theorem row48 : fnRow Try.prog Try.f48 = ([55, 54, 61], none, false, [], none) := by kernel_rfl
theorem row49 : fnRow Try.prog Try.f49 = ([88], none, true, [], none) := by kernel_rfl
theorem row50 : fnRow Try.prog Try.f50 = ([], none, false, [], none) := by kernel_rfl
theorem row51 : fnRow Try.prog Try.f51 = ([46], none, false, [], none) := by kernel_rfl
theorem row52 : fnRow Try.prog Try.f52 = ([62, 56, 53, 56, 62, 62], none, false, [], none) := by kernel_rfl
theorem row53 : fnRow Try.prog Try.f53 = ([56], none, false, [], none) := by kernel_rfl
theorem row54 : fnRow Try.prog Try.f54 = ([], none, false, [], none) := by kernel_rfl
theorem row55 : fnRow Try.prog Try.f55 = ([], none, false, [], none) := by kernel_rfl
theorem row56 : fnRow Try.prog Try.f56 = ([89, 89], none, false, [], none) := by kernel_rfl
theorem row57 : fnRow Try.prog Try.f57 = ([56, 62, 62, 53, 56, 56, 55, 53, 56], none, false, [], none) := by kernel_rfl
theorem row58 : fnRow Try.prog Try.f58 = ([63], none, false, [], none) := by kernel_rfl
theorem row59 : fnRow Try.prog Try.f59 = ([69, 70], none, false, [], none) := by kernel_rfl
theorem row60 : fnRow Try.prog Try.f60 = ([66], none, false, [], none) := by kernel_rfl
theorem row61 : fnRow Try.prog Try.f61 = ([55, 54], none, false, [], none) := by kernel_rfl
theorem row62 : fnRow Try.prog Try.f62 = ([56], none, false, [], none) := by kernel_rfl
theorem row63 : fnRow Try.prog Try.f63 = ([], none, false, [], none) := by kernel_rfl
theorem row64 : fnRow Try.prog Try.f64 = ([], none, false, [], none) := by kernel_rfl
theorem row65 : fnRow Try.prog Try.f65 = ([90], none, false, [], none) := by kernel_rfl
theorem row66 : fnRow Try.prog Try.f66 = ([], none, false, [], none) := by kernel_rfl
theorem row67 : fnRow Try.prog Try.f67 = ([91, 91], none, false, [], none) := by kernel_rfl
theorem row68 : fnRow Try.prog Try.f68 = ([63], none, false, [], none) := by kernel_rfl
theorem row69 : fnRow Try.prog Try.f69 = ([], none, false, [], none) := by kernel_rfl
theorem row70 : fnRow Try.prog Try.f70 = ([], none, false, [], none) := by kernel_rfl
theorem row71 : fnRow Try.prog Try.f71 = ([62, 57, 53], none, false, [], none) := by kernel_rfl
theorem row72 : fnRow Try.prog Try.f72 = ([92, 58], none, false, [], none) := by kernel_rfl
theorem row73 : fnRow Try.prog Try.f73 = ([60], none, false, [], none) := by kernel_rfl
theorem row74 : fnRow Try.prog Try.f74 = ([93, 29, 56, 75, 79, 56, 62, 56, 57, 56, 62], none, false, [], none) := by kernel_rfl
theorem row75 : fnRow Try.prog Try.f75 = ([62, 56, 56, 56, 56, 56, 56, 62, 62, 62], none, false, [], none) := by kernel_rfl
theorem row76 : fnRow Try.prog Try.f76 = ([63, 68, 63, 63, 94], none, false, [], none) := by kernel_rfl
theorem row77 : fnRow Try.prog Try.f77 = ([69, 95, 86, 95, 87], none, false, [], none) := by kernel_rfl
theorem row78 : fnRow Try.prog Try.f78 = ([60, 96, 47, 66], none, false, [], none) := by kernel_rfl
theorem row79 : fnRow Try.prog Try.f79 = ([97, 78], none, false, [], none) := by kernel_rfl
theorem row80 : fnRow Try.prog Try.f80 = ([], none, false, [], none) := by kernel_rfl
theorem row81 : fnRow Try.prog Try.f81 = ([96, 54], none, false, [], none) := by kernel_rfl
theorem row82 : fnRow Try.prog Try.f82 = ([94, 70], none, false, [], none) := by kernel_rfl
theorem row83 : fnRow Try.prog Try.f83 = ([99, 98], none, false, [], none) := by kernel_rfl
theorem row84 : fnRow Try.prog Try.f84 = ([94], none, false, [], none) := by kernel_rfl
theorem row85 : fnRow Try.prog Try.f85 = ([100], none, true, [], none) := by kernel_rfl
theorem row86 : fnRow Try.prog Try.f86 = ([101], none, false, [], none) := by kernel_rfl
theorem row87 : fnRow Try.prog Try.f87 = ([101], none, false, [], none) := by kernel_rfl
theorem row88 : fnRow Try.prog Try.f88 = ([], none, true, [], none) := by kernel_rfl
theorem row89 : fnRow Try.prog Try.f89 = ([], none, false, [], none) := by kernel_rfl
theorem row90 : fnRow Try.prog Try.f90 = ([102, 103], none, false, [], none) := by kernel_rfl
theorem row91 : fnRow Try.prog Try.f91 = ([], none, false, [], none) := by kernel_rfl
theorem row92 : fnRow Try.prog Try.f92 = ([105, 104], none, false, [], none) := by kernel_rfl
theorem row93 : fnRow Try.prog Try.f93 = ([53, 71, 62, 62, 55], none, false, [], none) := by kernel_rfl
theorem row94 : fnRow Try.prog Try.f94 = ([], none, false, [], none) := by kernel_rfl
theorem row95 : fnRow Try.prog Try.f95 = ([], none, true, [], none) := by kernel_rfl
theorem row96 : fnRow Try.prog Try.f96 = ([], none, false, [], none) := by kernel_rfl
theorem row97 : fnRow Try.prog Try.f97 = ([66, 66, 55, 106, 107], none, false, [], none) := by kernel_rfl
theorem row98 : fnRow Try.prog Try.f98 = ([108], none, false, [], none) := by kernel_rfl
theorem row99 : fnRow Try.prog Try.f99 = ([], none, true, [], none) := by kernel_rfl
theorem row100 : fnRow Try.prog Try.f100 = ([], none, false, [], none) := by kernel_rfl
theorem row101 : fnRow Try.prog Try.f101 = ([], none, false, [], none) := by kernel_rfl
theorem row102 : fnRow Try.prog Try.f102 = ([], none, false, [], none) := by kernel_rfl
theorem row103 : fnRow Try.prog Try.f103 = ([], none, false, [], none) := by kernel_rfl
theorem row104 : fnRow Try.prog Try.f104 = ([109], none, false, [], none) := by kernel_rfl
theorem row105 : fnRow Try.prog Try.f105 = ([], none, true, [], none) := by kernel_rfl
theorem row106 : fnRow Try.prog Try.f106 = ([66], none, false, [], none) := by kernel_rfl
theorem row107 : fnRow Try.prog Try.f107 = ([110, 110, 110, 111, 111, 111], none, false, [], none) := by kernel_rfl
theorem row108 : fnRow Try.prog Try.f108 = ([], none, true, [], none) := by kernel_rfl
theorem row109 : fnRow Try.prog Try.f109 = ([], none, true, [], none) := by kernel_rfl
theorem row110 : fnRow Try.prog Try.f110 = ([112], none, false, [], none) := by kernel_rfl
theorem row111 : fnRow Try.prog Try.f111 = ([112], none, false, [], none) := by kernel_rfl
theorem row112 : fnRow Try.prog Try.f112 = ([], none, false, [], none) := by kernel_rfl
theorem row113 : fnRow Try.prog Try.f113 = ([], some Try.f113.name, false, [], none) := by kernel_rfl
theorem row114 : fnRow Try.prog Try.f114 = ([], some Try.f114.name, false, [], none) := by kernel_rfl
theorem row115 : fnRow Try.prog Try.f115 = ([], some Try.f115.name, false, [], none) := by kernel_rfl
theorem row116 : fnRow Try.prog Try.f116 = ([], some Try.f116.name, false, [], none) := by kernel_rfl
theorem row117 : fnRow Try.prog Try.f117 = ([], some Try.f117.name, false, [], none) := by kernel_rfl
theorem row118 : fnRow Try.prog Try.f118 = ([], some Try.f118.name, false, [], none) := by kernel_rfl
theorem row119 : fnRow Try.prog Try.f119 = ([], some Try.f119.name, false, [], none) := by kernel_rfl
theorem row120 : fnRow Try.prog Try.f120 = ([], some Try.f120.name, false, [], none) := by kernel_rfl
theorem row121 : fnRow Try.prog Try.f121 = ([], some Try.f121.name, false, [], none) := by kernel_rfl
theorem row122 : fnRow Try.prog Try.f122 = ([], some Try.f122.name, false, [], none) := by kernel_rfl
theorem row123 : fnRow Try.prog Try.f123 = ([], some Try.f123.name, false, [], none) := by kernel_rfl
theorem row124 : fnRow Try.prog Try.f124 = ([], some Try.f124.name, false, [], none) := by kernel_rfl
theorem row125 : fnRow Try.prog Try.f125 = ([], some Try.f125.name, false, [], none) := by kernel_rfl
theorem row126 : fnRow Try.prog Try.f126 = ([], some Try.f126.name, false, [], none) := by kernel_rfl
theorem row127 : fnRow Try.prog Try.f127 = ([], some Try.f127.name, false, [], none) := by kernel_rfl
theorem row128 : fnRow Try.prog Try.f128 = ([], some Try.f128.name, false, [], none) := by kernel_rfl
theorem row129 : fnRow Try.prog Try.f129 = ([], some Try.f129.name, false, [], none) := by kernel_rfl
noncomputable def rowsT : List FRow := [([], some Try.f0.name, false, [], none), ([], some Try.f1.name, false, [], none), ([1], none, false, [], none), ([5, 6, 7, 8, 9, 10, 11, 12, 13, 14, 16, 15, 17, 18, 16, 19, 20, 21, 22, 23, 22, 24, 25, 26, 24], none, false, [], none), ([5, 27, 28, 29, 16, 30, 31, 32, 16, 33, 34, 35, 36, 37, 38, 39, 22, 22, 40, 41, 40, 40, 40, 38, 40, 42, 43, 22, 31], none, false, [], none), ([], none, false, [], none), ([44], none, false, [], none), ([45, 46], none, false, [], none), ([47, 48], none, false, [], none), ([45, 46, 49, 50], none, false, [], none), ([47, 48], none, false, [], none), ([45, 46], none, false, [], none), ([47, 48], none, false, [], none), ([45, 51], none, false, [], none), ([47, 48], none, false, [], none), ([52, 47, 53, 56, 55, 54, 57], none, false, [], none), ([], none, false, [], none), ([45, 58, 59], none, false, [], none), ([47, 60, 61], none, false, [], none), ([56, 62], none, false, [], none), ([63, 64, 65, 51], none, false, [], none), ([66, 47, 67, 48], none, false, [], none), ([], none, false, [], none), ([22], none, false, [], none), ([], none, false, [], none), ([68, 69], none, false, [], none), ([45, 58, 70], none, false, [], none), ([71], none, false, [], none), ([72], none, false, [], none), ([73], none, false, [], none), ([74, 75], none, false, [], none), ([40, 76, 77], none, false, [], none), ([78, 79], none, false, [], none), ([74, 56, 75], none, false, [], none), ([40, 76, 77], none, false, [], none), ([78, 79], none, false, [], none), ([40, 80], none, false, [], none), ([78, 81], none, false, [], none), ([40, 82], none, false, [], none), ([78, 81], none, false, [], none), ([72, 84, 83, 45, 63], none, false, [], none), ([78], none, false, [], none), ([72, 85, 86], none, false, [], none), ([72, 85, 87], none, false, [], none), ([52], none, false, [], none), ([58, 58], none, false, [], none), ([69, 70, 59], none, false, [], none), ([60, 60], none, false, [], none), ([55, 54, 61], none, false, [], none), ([88], none, true, [], none), ([], none, false, [], none), ([46], none, false, [], none), ([62, 56, 53, 56, 62, 62], none, false, [], none), ([56], none, false, [], none), ([], none, false, [], none), ([], none, false, [], none), ([89, 89], none, false, [], none), ([56, 62, 62, 53, 56, 56, 55, 53, 56], none, false, [], none), ([63], none, false, [], none), ([69, 70], none, false, [], none), ([66], none, false, [], none), ([55, 54], none, false, [], none), ([56], none, false, [], none), ([], none, false, [], none), ([], none, false, [], none), ([90], none, false, [], none), ([], none, false, [], none), ([91, 91], none, false, [], none), ([63], none, false, [], none), ([], none, false, [], none), ([], none, false, [], none), ([62, 57, 53], none, false, [], none), ([92, 58], none, false, [], none), ([60], none, false, [], none), ([93, 29, 56, 75, 79, 56, 62, 56, 57, 56, 62], none, false, [], none), ([62, 56, 56, 56, 56, 56, 56, 62, 62, 62], none, false, [], none), ([63, 68, 63, 63, 94], none, false, [], none), ([69, 95, 86, 95, 87], none, false, [], none), ([60, 96, 47, 66], none, false, [], none), ([97, 78], none, false, [], none), ([], none, false, [], none), ([96, 54], none, false, [], none), ([94, 70], none, false, [], none), ([99, 98], none, false, [], none), ([94], none, false, [], none), ([100], none, true, [], none), ([101], none, false, [], none), ([101], none, false, [], none), ([], none, true, [], none), ([], none, false, [], none), ([102, 103], none, false, [], none), ([], none, false, [], none), ([105, 104], none, false, [], none), ([53, 71, 62, 62, 55], none, false, [], none), ([], none, false, [], none), ([], none, true, [], none), ([], none, false, [], none), ([66, 66, 55, 106, 107], none, false, [], none), ([108], none, false, [], none), ([], none, true, [], none), ([], none, false, [], none), ([], none, false, [], none), ([], none, false, [], none), ([], none, false, [], none), ([109], none, false, [], none), ([], none, true, [], none), ([66], none, false, [], none), ([110, 110, 110, 111, 111, 111], none, false, [], none), ([], none, true, [], none), ([], none, true, [], none), ([112], none, false, [], none), ([112], none, false, [], none), ([], none, false, [], none), ([], some Try.f113.name, false, [], none), ([], some Try.f114.name, false, [], none), ([], some Try.f115.name, false, [], none), ([], some Try.f116.name, false, [], none), ([], some Try.f117.name, false, [], none), ([], some Try.f118.name, false, [], none), ([], some Try.f119.name, false, [], none), ([], some Try.f120.name, false, [], none), ([], some Try.f121.name, false, [], none), ([], some Try.f122.name, false, [], none), ([], some Try.f123.name, false, [], none), ([], some Try.f124.name, false, [], none), ([], some Try.f125.name, false, [], none), ([], some Try.f126.name, false, [], none), ([], some Try.f127.name, false, [], none), ([], some Try.f128.name, false, [], none), ([], some Try.f129.name, false, [], none)]
theorem funcsL : Try.prog.funcs.toList = [Try.f0, Try.f1, Try.f2, Try.f3, Try.f4, Try.f5, Try.f6, Try.f7, Try.f8, Try.f9, Try.f10, Try.f11, Try.f12, Try.f13, Try.f14, Try.f15, Try.f16, Try.f17, Try.f18, Try.f19, Try.f20, Try.f21, Try.f22, Try.f23, Try.f24, Try.f25, Try.f26, Try.f27, Try.f28, Try.f29, Try.f30, Try.f31, Try.f32, Try.f33, Try.f34, Try.f35, Try.f36, Try.f37, Try.f38, Try.f39, Try.f40, Try.f41, Try.f42, Try.f43, Try.f44, Try.f45, Try.f46, Try.f47, Try.f48, Try.f49, Try.f50, Try.f51, Try.f52, Try.f53, Try.f54, Try.f55, Try.f56, Try.f57, Try.f58, Try.f59, Try.f60, Try.f61, Try.f62, Try.f63, Try.f64, Try.f65, Try.f66, Try.f67, Try.f68, Try.f69, Try.f70, Try.f71, Try.f72, Try.f73, Try.f74, Try.f75, Try.f76, Try.f77, Try.f78, Try.f79, Try.f80, Try.f81, Try.f82, Try.f83, Try.f84, Try.f85, Try.f86, Try.f87, Try.f88, Try.f89, Try.f90, Try.f91, Try.f92, Try.f93, Try.f94, Try.f95, Try.f96, Try.f97, Try.f98, Try.f99, Try.f100, Try.f101, Try.f102, Try.f103, Try.f104, Try.f105, Try.f106, Try.f107, Try.f108, Try.f109, Try.f110, Try.f111, Try.f112, Try.f113, Try.f114, Try.f115, Try.f116, Try.f117, Try.f118, Try.f119, Try.f120, Try.f121, Try.f122, Try.f123, Try.f124, Try.f125, Try.f126, Try.f127, Try.f128, Try.f129] := by kernel_rfl
theorem map_cons_of {α β : Type} {g : α → β} {a : α} {b : β} {l : List α} {m : List β} (h : g a = b) (k : l.map g = m) : (a :: l).map g = b :: m := by rw [List.map_cons, h, k]
theorem rowsAll : Try.prog.funcs.toList.map (fnRow Try.prog) = rowsT := by
  rw [funcsL]
  exact map_cons_of row0 (map_cons_of row1 (map_cons_of row2 (map_cons_of row3 (map_cons_of row4 (map_cons_of row5 (map_cons_of row6 (map_cons_of row7 (map_cons_of row8 (map_cons_of row9 (map_cons_of row10 (map_cons_of row11 (map_cons_of row12 (map_cons_of row13 (map_cons_of row14 (map_cons_of row15 (map_cons_of row16 (map_cons_of row17 (map_cons_of row18 (map_cons_of row19 (map_cons_of row20 (map_cons_of row21 (map_cons_of row22 (map_cons_of row23 (map_cons_of row24 (map_cons_of row25 (map_cons_of row26 (map_cons_of row27 (map_cons_of row28 (map_cons_of row29 (map_cons_of row30 (map_cons_of row31 (map_cons_of row32 (map_cons_of row33 (map_cons_of row34 (map_cons_of row35 (map_cons_of row36 (map_cons_of row37 (map_cons_of row38 (map_cons_of row39 (map_cons_of row40 (map_cons_of row41 (map_cons_of row42 (map_cons_of row43 (map_cons_of row44 (map_cons_of row45 (map_cons_of row46 (map_cons_of row47 (map_cons_of row48 (map_cons_of row49 (map_cons_of row50 (map_cons_of row51 (map_cons_of row52 (map_cons_of row53 (map_cons_of row54 (map_cons_of row55 (map_cons_of row56 (map_cons_of row57 (map_cons_of row58 (map_cons_of row59 (map_cons_of row60 (map_cons_of row61 (map_cons_of row62 (map_cons_of row63 (map_cons_of row64 (map_cons_of row65 (map_cons_of row66 (map_cons_of row67 (map_cons_of row68 (map_cons_of row69 (map_cons_of row70 (map_cons_of row71 (map_cons_of row72 (map_cons_of row73 (map_cons_of row74 (map_cons_of row75 (map_cons_of row76 (map_cons_of row77 (map_cons_of row78 (map_cons_of row79 (map_cons_of row80 (map_cons_of row81 (map_cons_of row82 (map_cons_of row83 (map_cons_of row84 (map_cons_of row85 (map_cons_of row86 (map_cons_of row87 (map_cons_of row88 (map_cons_of row89 (map_cons_of row90 (map_cons_of row91 (map_cons_of row92 (map_cons_of row93 (map_cons_of row94 (map_cons_of row95 (map_cons_of row96 (map_cons_of row97 (map_cons_of row98 (map_cons_of row99 (map_cons_of row100 (map_cons_of row101 (map_cons_of row102 (map_cons_of row103 (map_cons_of row104 (map_cons_of row105 (map_cons_of row106 (map_cons_of row107 (map_cons_of row108 (map_cons_of row109 (map_cons_of row110 (map_cons_of row111 (map_cons_of row112 (map_cons_of row113 (map_cons_of row114 (map_cons_of row115 (map_cons_of row116 (map_cons_of row117 (map_cons_of row118 (map_cons_of row119 (map_cons_of row120 (map_cons_of row121 (map_cons_of row122 (map_cons_of row123 (map_cons_of row124 (map_cons_of row125 (map_cons_of row126 (map_cons_of row127 (map_cons_of row128 (map_cons_of row129 rfl)))))))))))))))))))))))))))))))))))))))))))))))))))))))))))))))))))))))))))))))))))))))))))))))))))))))))))))))))))))))))))))))))
def headC : List Nat := [104, 97, 114, 110, 101, 115, 115, 32, 54, 101, 97, 102, 49, 50, 56, 97, 52, 57, 56, 102, 102, 54, 52, 97, 52, 56, 54, 97, 54, 56, 99, 50, 56, 57, 54, 54, 98, 101, 99, 54, 51, 50, 98, 57, 100, 48, 53, 56, 53, 55, 51, 98, 53, 56, 53, 56, 100, 101, 49, 98, 57, 98, 98, 97, 98, 97, 97, 98, 51, 57, 102, 97, 32, 99, 117, 116, 32, 97, 116, 32, 108, 111, 111, 112, 46, 101, 120, 97, 109, 112, 108, 101, 47, 103, 48, 49, 50, 54, 53, 47, 108, 97, 119, 115, 46, 70, 110, 84, 111, 108, 100, 32, 108, 111, 111, 112, 46, 101, 120, 97, 109, 112, 108, 101, 47, 103, 48, 49, 50, 54, 53, 47, 108, 97, 119, 115, 46, 70, 110, 66, 101, 110, 99, 104, 101, 115]
def headW : List (List Nat) := [[104, 97, 114, 110, 101, 115, 115], [54, 101, 97, 102, 49, 50, 56, 97, 52, 57, 56, 102, 102, 54, 52, 97, 52, 56, 54, 97, 54, 56, 99, 50, 56, 57, 54, 54, 98, 101, 99, 54, 51, 50, 98, 57, 100, 48, 53, 56, 53, 55, 51, 98, 53, 56, 53, 56, 100, 101, 49, 98, 57, 98, 98, 97, 98, 97, 97, 98, 51, 57, 102, 97], [99, 117, 116], [97, 116], [108, 111, 111, 112, 46, 101, 120, 97, 109, 112, 108, 101, 47, 103, 48, 49, 50, 54, 53, 47, 108, 97, 119, 115, 46, 70, 110, 84, 111, 108, 100], [108, 111, 111, 112, 46, 101, 120, 97, 109, 112, 108, 101, 47, 103, 48, 49, 50, 54, 53, 47, 108, 97, 119, 115, 46, 70, 110, 66, 101, 110, 99, 104, 101, 115]]
theorem headEq : Try.prog.initOrder = String.ofList (headC.map Char.ofNat) := by kernel_rfl
theorem headWords : wordsSigns Try.prog.initOrder.toList = headW.map (fun l => l.map Char.ofNat) := by
  rw [headEq, String.toList_ofList]; kernel_rfl
def headR : List (List Nat) := headW.drop 3
theorem headB : behindMainWord (wordsSigns Try.prog.initOrder.toList) = String.toList (String.ofList ([99, 117, 116].map Char.ofNat)) :: headR.map (fun l => l.map Char.ofNat) := by
  rw [headWords, String.toList_ofList]; kernel_rfl
theorem cutW : String.ofList ([99, 117, 116].map Char.ofNat) = "cut" := by kernel_rfl
theorem headCut : behindMainWord (wordsSigns Try.prog.initOrder.toList) = "cut".toList :: headR.map (fun l => l.map Char.ofNat) := by rw [headB, cutW]
theorem stripCut (l : List (List Char)) : stripLifts liftWords ("cut".toList :: l) = ([], "cut".toList :: l) := by
  simp [stripLifts, liftWords]
theorem make_of {P : Program} {r : List (List Char)} (h : behindMainWord (wordsSigns P.initOrder.toList) = "cut".toList :: r) : P.make = some .cut := by
  unfold Program.make; rw [h]; simp
theorem lifts_of {P : Program} {r : List (List Char)} (h : behindMainWord (wordsSigns P.initOrder.toList) = "cut".toList :: r) : P.liftsFinal = false := by
  unfold Program.liftsFinal Program.headLifts; rw [h, stripCut]; simp
theorem may_of {P : Program} {r : List (List Char)} (h : behindMainWord (wordsSigns P.initOrder.toList) = "cut".toList :: r) (h1 : P.laysLater = false) (h2 : P.bearsReflect = false) (h3 : P.doorFits [] = true) : P.mayEnter = true := by
  unfold Program.mayEnter; rw [h]; simp only [stripCut]; rw [h1, h2, h3]; simp
theorem laysNot : Try.prog.laysLater = false := by kernel_rfl
theorem bearsNot : Try.prog.bearsReflect = false := by kernel_rfl
theorem doorOk : Try.prog.doorFits [] = true := by kernel_rfl
theorem factMay : Try.prog.mayEnter = true := may_of headCut laysNot bearsNot doorOk
theorem factLifts : Try.prog.liftsFinal = false := lifts_of headCut
theorem factMake : Try.prog.make = some .cut := make_of headCut
theorem and_mk {a b : Bool} (ha : a = true) (hb : b = true) : (a && b) = true := by rw [ha, hb]; rfl
end Go.Proofs.Ytfbnmkpkihfocaa