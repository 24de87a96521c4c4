/- What each function of the program names, a row a function: so the closed facts of a row about what its function reaches are reckoned from a small table. -/
import Derived.Test.YtfflbbgipbnckaaProg
import Derived.JoinedOf
import Derived.KernelRfl
namespace Go.Proofs.Ytfflbbgipbnckaa
set_option linter.unusedVariables false
set_option maxRecDepth 100000

abbrev FRow := List Nat × Option String × Bool × List Nat × Option String
def inPlaceAt (fn : Func) : Option String := if fn.ours || fn.body.isNone || fn.name == "runtime.NumGoroutine" then some fn.name else none
def fnRow (P : Program) (fn : Func) : FRow :=
  (P.leadsTo fn, inPlaceAt fn, (match fn.body with | some c => c.unfollowed | none => entryCalls fn), (fn.body.elim [] Code.globalsNamed), (if fn.body.isNone then entryReads.lookup fn.name else none))
def cvT (T : List FRow) : Nat → List Nat → List Nat → List Nat
  | 0, _, seen => seen.reverse
  | _, [], seen => seen.reverse
  | n + 1, f :: todo, seen => if seen.contains f then cvT T n todo seen else cvT T n ((T[f]?).elim [] (·.1) ++ todo) (f :: seen)
section
variable {P : Program} {T : List FRow}
theorem tab_at (hT : P.funcs.toList.map (fnRow P) = T) (k : Nat) : T[k]? = (P.funcs[k]?).map (fnRow P) := by
  rw [← hT, List.getElem?_map]; simp
theorem cvT_eq (hT : P.funcs.toList.map (fnRow P) = T) : ∀ (n : Nat) (todo seen : List Nat), P.closureVia n todo seen = cvT T n todo seen
  | 0, _, _ => by simp [Program.closureVia, cvT]
  | n + 1, [], _ => by simp [Program.closureVia, cvT]
  | n + 1, f :: todo, seen => by
    unfold Program.closureVia cvT
    rw [cvT_eq hT n, cvT_eq hT n, tab_at hT f]
    cases P.funcs[f]? <;> rfl
def closT (T : List FRow) (f : Nat) : List Nat := cvT T (1 + (T.map fun r => r.1.length + 1).sum) [f] []
theorem closT_eq (hT : P.funcs.toList.map (fnRow P) = T) (f : Nat) : P.closure f = closT T f := by
  unfold Program.closure closT
  rw [cvT_eq hT, ← hT, List.map_map]; rfl
theorem inPlaceT (hT : P.funcs.toList.map (fnRow P) = T) (f : Nat) : P.inPlace f = (closT T f).filterMap fun g => (T[g]?).bind (·.2.1) := by
  unfold Program.inPlace
  rw [closT_eq hT]
  congr 1; funext g
  rw [tab_at hT g]; cases P.funcs[g]? <;> rfl
theorem unfollowedT (hT : P.funcs.toList.map (fnRow P) = T) (f : Nat) : P.unfollowed f = (closT T f).any fun g => (T[g]?).any (·.2.2.1) := by
  unfold Program.unfollowed
  rw [closT_eq hT]
  congr 1; funext g
  rw [tab_at hT g]; cases P.funcs[g]? <;> rfl
theorem varsT (hT : P.funcs.toList.map (fnRow P) = T) (f : Nat) : P.varsNamed f =
    ((((closT T f).flatMap fun g => (T[g]?).elim [] (·.2.2.2.1)).eraseDups).filterMap (fun g => (P.globals[g]?).map (·.name)) ++ (closT T f).filterMap fun g => (T[g]?).bind (·.2.2.2.2)).eraseDups := by
  unfold Program.varsNamed
  rw [closT_eq hT]
  have e1 : (fun g : Nat => ((P.funcs[g]?).bind fun x : Func => x.body).elim [] Code.globalsNamed) = fun g : Nat => (T[g]?).elim [] fun x : FRow => x.2.2.2.1 := by
    funext g; rw [tab_at hT g]; cases P.funcs[g]? <;> rfl
  have e2 : (fun g : Nat => (P.funcs[g]?).bind fun fn : Func => if fn.body.isNone then entryReads.lookup fn.name else none) = fun g : Nat => (T[g]?).bind fun x : FRow => x.2.2.2.2 := by
    funext g; rw [tab_at hT g]; cases P.funcs[g]? <;> rfl
  rw [e1, e2]
theorem recursesEq (hT : P.funcs.toList.map (fnRow P) = T) (f : Nat) : P.recurses f = (((closT T f).any fun g => (T[g]?).any (·.2.2.1)) || (closT T f).any fun g => ((T[g]?).elim [] (·.1)).any fun h => (closT T h).contains g) := by
  unfold Program.recurses
  rw [unfollowedT hT, closT_eq hT]
  congr 1
  congr 1; funext g
  have e1 : ((P.funcs[g]?).elim [] P.leadsTo) = (T[g]?).elim [] fun x : FRow => x.1 := by
    rw [tab_at hT g]; cases P.funcs[g]? <;> rfl
  rw [e1]
  congr 1; funext h
  rw [closT_eq hT]
theorem recursesT {f : Nat} (h : P.unfollowed f = true) : P.recurses f = true := by unfold Program.recurses; rw [h]; rfl
end

theorem row0 : fnRow Try.prog Try.f0 = ([], some Try.f0.name, false, [], none) := by kernel_rfl
theorem row1 : fnRow Try.prog Try.f1 = ([], some Try.f1.name, false, [], none) := by kernel_rfl
theorem row2 : fnRow Try.prog Try.f2 = ([1], none, false, [], none) := by kernel_rfl
theorem row3 : fnRow Try.prog Try.f3 = ([9, 8, 9, 10, 9, 11], none, false, [], none) := by kernel_rfl
theorem row4 : fnRow Try.prog Try.f4 = ([9, 12, 9, 13, 11, 9, 11, 14, 11, 14, 15, 9, 13, 11, 15], none, false, [], none) := by kernel_rfl
theorem row5 : fnRow Try.prog Try.f5 = ([16, 17, 18, 19, 20, 17, 18, 20], none, false, [], none) := by kernel_rfl
theorem row6 : fnRow Try.prog Try.f6 = ([22, 23, 21, 22, 23, 24, 25], none, false, [], none) := by kernel_rfl
theorem row7 : fnRow Try.prog Try.f7 = ([26, 22, 28, 27, 28, 22, 29, 25, 28, 30], none, false, [], none) := by kernel_rfl
theorem row8 : fnRow Try.prog Try.f8 = ([31, 33, 32], none, false, [], none) := by kernel_rfl
theorem row9 : fnRow Try.prog Try.f9 = ([], none, false, [], none) := by kernel_rfl
theorem row10 : fnRow Try.prog Try.f10 = ([34, 35], none, false, [], none) := by kernel_rfl
theorem row11 : fnRow Try.prog Try.f11 = ([], none, false, [], none) := by kernel_rfl
theorem row12 : fnRow Try.prog Try.f12 = ([31, 33, 36, 37, 38], none, false, [], none) := by kernel_rfl
theorem row13 : fnRow Try.prog Try.f13 = ([34, 40, 41, 39], none, false, [], none) := by kernel_rfl
theorem row14 : fnRow Try.prog Try.f14 = ([], none, false, [], none) := by kernel_rfl
theorem row15 : fnRow Try.prog Try.f15 = ([], none, false, [], none) := by kernel_rfl
theorem row16 : fnRow Try.prog Try.f16 = ([44, 36, 37, 32, 38], none, false, [], none) := by kernel_rfl
theorem row17 : fnRow Try.prog Try.f17 = ([45, 46, 39], none, false, [], none) := by kernel_rfl
theorem row18 : fnRow Try.prog Try.f18 = ([11], none, false, [], none) := by kernel_rfl
theorem row19 : fnRow Try.prog Try.f19 = ([14], none, false, [], none) := by kernel_rfl
theorem row20 : fnRow Try.prog Try.f20 = ([15], none, false, [], none) := by kernel_rfl
theorem row21 : fnRow Try.prog Try.f21 = ([47, 48], none, false, [], none) := by kernel_rfl
theorem row22 : fnRow Try.prog Try.f22 = ([49, 49, 49], none, false, [], none) := by kernel_rfl
theorem row23 : fnRow Try.prog Try.f23 = ([], none, false, [], none) := by kernel_rfl
theorem row24 : fnRow Try.prog Try.f24 = ([50, 51, 52], none, false, [], none) := by kernel_rfl
theorem row25 : fnRow Try.prog Try.f25 = ([53, 53, 53], none, false, [], none) := by kernel_rfl
theorem row26 : fnRow Try.prog Try.f26 = ([], none, false, [], none) := by kernel_rfl
theorem row27 : fnRow Try.prog Try.f27 = ([47, 48], none, false, [], none) := by kernel_rfl
theorem row28 : fnRow Try.prog Try.f28 = ([23], none, false, [], none) := by kernel_rfl
theorem row29 : fnRow Try.prog Try.f29 = ([50, 51, 52], none, false, [], none) := by kernel_rfl
theorem row30 : fnRow Try.prog Try.f30 = ([54], none, false, [], none) := by kernel_rfl
theorem row31 : fnRow Try.prog Try.f31 = ([55], none, false, [], none) := by kernel_rfl
theorem row32 : fnRow Try.prog Try.f32 = ([56, 37, 37], none, false, [], none) := by kernel_rfl
theorem row33 : fnRow Try.prog Try.f33 = ([57], none, false, [], none) := by kernel_rfl
theorem row34 : fnRow Try.prog Try.f34 = ([58, 59], none, false, [], none) := by kernel_rfl
theorem row35 : fnRow Try.prog Try.f35 = ([40, 43, 60, 42, 42], none, false, [], none) := by kernel_rfl
theorem row36 : fnRow Try.prog Try.f36 = ([61], none, false, [], none) := by kernel_rfl
theorem row37 : fnRow Try.prog Try.f37 = ([62], none, false, [], none) := by kernel_rfl
theorem row38 : fnRow Try.prog Try.f38 = ([], none, false, [], none) := by kernel_rfl
theorem row39 : fnRow Try.prog Try.f39 = ([63], none, true, [], none) := by kernel_rfl
theorem row40 : fnRow Try.prog Try.f40 = ([66, 65, 64], none, false, [], none) := by kernel_rfl
theorem row41 : fnRow Try.prog Try.f41 = ([42, 43], none, false, [], none) := by kernel_rfl
theorem row42 : fnRow Try.prog Try.f42 = ([67], none, false, [], none) := by kernel_rfl
theorem row43 : fnRow Try.prog Try.f43 = ([], none, false, [], none) := by kernel_rfl
theorem row44 : fnRow Try.prog Try.f44 = ([], none, false, [], none) := by kernel_rfl
theorem row45 : fnRow Try.prog Try.f45 = ([], none, false, [], none) := by kernel_rfl
theorem row46 : fnRow Try.prog Try.f46 = ([35, 43], none, false, [], none) := by kernel_rfl
theorem row47 : fnRow Try.prog Try.f47 = ([68, 70, 69, 55], none, false, [], none) := by kernel_rfl
theorem row48 : fnRow Try.prog Try.f48 = ([71, 47], none, false, [], none) := by kernel_rfl
theorem row49 : fnRow Try.prog Try.f49 = ([], none, false, [], none) := by kernel_rfl
theorem row50 : fnRow Try.prog Try.f50 = ([72, 74, 73, 75, 76], none, false, [], none) := by kernel_rfl
theorem row51 : fnRow Try.prog Try.f51 = ([76, 59, 76, 76, 77], none, false, [], none) := by kernel_rfl
theorem row52 : fnRow Try.prog Try.f52 = ([78, 79, 80, 79, 81], none, false, [], none) := by kernel_rfl
theorem row53 : fnRow Try.prog Try.f53 = ([], none, false, [], none) := by kernel_rfl
theorem row54 : fnRow Try.prog Try.f54 = ([], none, false, [], none) := by kernel_rfl
theorem row55 : fnRow Try.prog Try.f55 = ([], none, false, [], none) := by kernel_rfl
theorem row56 : fnRow Try.prog Try.f56 = ([], none, false, [], none) := by kernel_rfl
theorem row57 : fnRow Try.prog Try.f57 = ([], none, false, [], none) := by kernel_rfl
theorem row58 : fnRow Try.prog Try.f58 = ([83, 82], none, false, [], none) := by kernel_rfl
theorem row59 : fnRow Try.prog Try.f59 = ([76], none, false, [], none) := by kernel_rfl
theorem row60 : fnRow Try.prog Try.f60 = ([], none, false, [], none) := by kernel_rfl
theorem row61 : fnRow Try.prog Try.f61 = ([], none, false, [], none) := by kernel_rfl
theorem row62 : fnRow Try.prog Try.f62 = ([84, 85], none, false, [], none) := by kernel_rfl
theorem row63 : fnRow Try.prog Try.f63 = ([43], none, true, [], none) := by kernel_rfl
theorem row64 : fnRow Try.prog Try.f64 = ([], none, false, [], none) := by kernel_rfl
theorem row65 : fnRow Try.prog Try.f65 = ([86, 87], none, false, [], none) := by kernel_rfl
theorem row66 : fnRow Try.prog Try.f66 = ([88], none, false, [], none) := by kernel_rfl
theorem row67 : fnRow Try.prog Try.f67 = ([90, 89], none, false, [], none) := by kernel_rfl
theorem row68 : fnRow Try.prog Try.f68 = ([55], none, false, [], none) := by kernel_rfl
theorem row69 : fnRow Try.prog Try.f69 = ([68, 68], none, false, [], none) := by kernel_rfl
theorem row70 : fnRow Try.prog Try.f70 = ([], none, false, [], none) := by kernel_rfl
theorem row71 : fnRow Try.prog Try.f71 = ([55, 55, 92, 93, 94], none, false, [], none) := by kernel_rfl
theorem row72 : fnRow Try.prog Try.f72 = ([58, 95], none, false, [], none) := by kernel_rfl
theorem row73 : fnRow Try.prog Try.f73 = ([97, 96], none, false, [], none) := by kernel_rfl
theorem row74 : fnRow Try.prog Try.f74 = ([77], none, false, [], none) := by kernel_rfl
theorem row75 : fnRow Try.prog Try.f75 = ([95, 95], none, false, [], none) := by kernel_rfl
theorem row76 : fnRow Try.prog Try.f76 = ([], none, false, [], none) := by kernel_rfl
theorem row77 : fnRow Try.prog Try.f77 = ([], none, false, [], none) := by kernel_rfl
theorem row78 : fnRow Try.prog Try.f78 = ([], none, false, [], none) := by kernel_rfl
theorem row79 : fnRow Try.prog Try.f79 = ([], none, true, [], none) := by kernel_rfl
theorem row80 : fnRow Try.prog Try.f80 = ([98], none, false, [], none) := by kernel_rfl
theorem row81 : fnRow Try.prog Try.f81 = ([98], none, false, [], none) := by kernel_rfl
theorem row82 : fnRow Try.prog Try.f82 = ([99], none, false, [], none) := by kernel_rfl
theorem row83 : fnRow Try.prog Try.f83 = ([], none, true, [], none) := by kernel_rfl
theorem row84 : fnRow Try.prog Try.f84 = ([], none, false, [], none) := by kernel_rfl
theorem row85 : fnRow Try.prog Try.f85 = ([100, 92, 101], none, false, [], none) := by kernel_rfl
theorem row86 : fnRow Try.prog Try.f86 = ([102], none, false, [], none) := by kernel_rfl
theorem row87 : fnRow Try.prog Try.f87 = ([104, 103], none, false, [], none) := by kernel_rfl
theorem row88 : fnRow Try.prog Try.f88 = ([], none, true, [], none) := by kernel_rfl
theorem row89 : fnRow Try.prog Try.f89 = ([105], none, true, [], none) := by kernel_rfl
theorem row90 : fnRow Try.prog Try.f90 = ([91], none, false, [], none) := by kernel_rfl
theorem row91 : fnRow Try.prog Try.f91 = ([106, 107, 99], none, false, [], none) := by kernel_rfl
theorem row92 : fnRow Try.prog Try.f92 = ([], none, false, [], none) := by kernel_rfl
theorem row93 : fnRow Try.prog Try.f93 = ([55], none, false, [], none) := by kernel_rfl
theorem row94 : fnRow Try.prog Try.f94 = ([109, 109, 109, 110, 110, 110], none, false, [], none) := by kernel_rfl
theorem row95 : fnRow Try.prog Try.f95 = ([76], none, false, [], none) := by kernel_rfl
theorem row96 : fnRow Try.prog Try.f96 = ([111], none, false, [], none) := by kernel_rfl
theorem row97 : fnRow Try.prog Try.f97 = ([], none, true, [], none) := by kernel_rfl
theorem row98 : fnRow Try.prog Try.f98 = ([], none, false, [], none) := by kernel_rfl
theorem row99 : fnRow Try.prog Try.f99 = ([], none, true, [], none) := by kernel_rfl
theorem row100 : fnRow Try.prog Try.f100 = ([], none, false, [], none) := by kernel_rfl
theorem row101 : fnRow Try.prog Try.f101 = ([], none, false, [], none) := by kernel_rfl
theorem row102 : fnRow Try.prog Try.f102 = ([], none, true, [], none) := by kernel_rfl
theorem row103 : fnRow Try.prog Try.f103 = ([112, 113, 114, 115, 116, 117, 118, 119, 120, 103, 103], none, false, [], none) := by kernel_rfl
theorem row104 : fnRow Try.prog Try.f104 = ([121, 122], none, false, [], none) := by kernel_rfl
theorem row105 : fnRow Try.prog Try.f105 = ([76, 76], none, false, [], none) := by kernel_rfl
theorem row106 : fnRow Try.prog Try.f106 = ([], none, false, [], none) := by kernel_rfl
theorem row107 : fnRow Try.prog Try.f107 = ([78, 108, 78], none, false, [], none) := by kernel_rfl
theorem row108 : fnRow Try.prog Try.f108 = ([], none, false, [], none) := by kernel_rfl
theorem row109 : fnRow Try.prog Try.f109 = ([123], none, false, [], none) := by kernel_rfl
theorem row110 : fnRow Try.prog Try.f110 = ([123], none, false, [], none) := by kernel_rfl
theorem row111 : fnRow Try.prog Try.f111 = ([], none, true, [], none) := by kernel_rfl
theorem row112 : fnRow Try.prog Try.f112 = ([118], none, false, [], none) := by kernel_rfl
theorem row113 : fnRow Try.prog Try.f113 = ([124, 124], none, false, [], none) := by kernel_rfl
theorem row114 : fnRow Try.prog Try.f114 = ([125, 126], none, false, [], none) := by kernel_rfl
theorem row115 : fnRow Try.prog Try.f115 = ([127, 127, 127, 128], none, false, [], none) := by kernel_rfl
theorem row116 : fnRow Try.prog Try.f116 = ([], none, false, [], none) := by kernel_rfl
theorem row117 : fnRow Try.prog Try.f117 = ([118, 118, 118], none, false, [], none) := by kernel_rfl
theorem row118 : fnRow Try.prog Try.f118 = ([129, 129], none, false, [], none) := by kernel_rfl
theorem row119 : fnRow Try.prog Try.f119 = ([118, 118], none, false, [], none) := by kernel_rfl
theorem row120 : fnRow Try.prog Try.f120 = ([118, 118, 118, 118], none, false, [], none) := by kernel_rfl
theorem row121 : fnRow Try.prog Try.f121 = ([], none, false, [], none) := by kernel_rfl
theorem row122 : fnRow Try.prog Try.f122 = ([], none, false, [], none) := by kernel_rfl
theorem row123 : fnRow Try.prog Try.f123 = ([], none, false, [], none) := by kernel_rfl
theorem row124 : fnRow Try.prog Try.f124 = ([118, 118], none, false, [], none) := by kernel_rfl
theorem row125 : fnRow Try.prog Try.f125 = ([104], none, false, [], none) := by kernel_rfl
theorem row126 : fnRow Try.prog Try.f126 = ([], none, false, [], none) := by kernel_rfl
theorem row127 : fnRow Try.prog Try.f127 = ([128], none, false, [], none) := by kernel_rfl
theorem row128 : fnRow Try.prog Try.f128 = ([130, 130, 130], none, false, [], none) := by kernel_rfl
theorem row129 : fnRow Try.prog Try.f129 = ([], none, false, [], none) := by kernel_rfl
theorem row130 : fnRow Try.prog Try.f130 = ([118], none, false, [], none) := by kernel_rfl
theorem row131 : fnRow Try.prog Try.f131 = ([], some Try.f131.name, false, [], none) := by kernel_rfl
theorem row132 : fnRow Try.prog Try.f132 = ([], some Try.f132.name, false, [], none) := by kernel_rfl
theorem row133 : fnRow Try.prog Try.f133 = ([], some Try.f133.name, false, [], none) := by kernel_rfl
theorem row134 : fnRow Try.prog Try.f134 = ([], some Try.f134.name, false, [], none) := by kernel_rfl
theorem row135 : fnRow Try.prog Try.f135 = ([], some Try.f135.name, false, [], none) := by kernel_rfl
theorem row136 : fnRow Try.prog Try.f136 = ([], some Try.f136.name, false, [], none) := by kernel_rfl
theorem row137 : fnRow Try.prog Try.f137 = ([], some Try.f137.name, false, [], none) := by kernel_rfl
theorem row138 : fnRow Try.prog Try.f138 = ([], some Try.f138.name, false, [], none) := by kernel_rfl
theorem row139 : fnRow Try.prog Try.f139 = ([], some Try.f139.name, false, [], none) := by kernel_rfl
theorem row140 : fnRow Try.prog Try.f140 = ([], some Try.f140.name, false, [], none) := by kernel_rfl
theorem row141 : fnRow Try.prog Try.f141 = ([], some Try.f141.name, false, [], none) := by kernel_rfl
theorem row142 : fnRow Try.prog Try.f142 = ([], some Try.f142.name, false, [], none) := by kernel_rfl
theorem row143 : fnRow Try.prog Try.f143 = ([], some Try.f143.name, false, [], none) := by kernel_rfl
theorem row144 : fnRow Try.prog Try.f144 = ([], some Try.f144.name, false, [], none) := by kernel_rfl
theorem row145 : fnRow Try.prog Try.f145 = ([], some Try.f145.name, false, [], none) := by kernel_rfl
theorem row146 : fnRow Try.prog Try.f146 = ([], some Try.f146.name, false, [], none) := by kernel_rfl
theorem row147 : fnRow Try.prog Try.f147 = ([], some Try.f147.name, false, [], none) := by kernel_rfl
noncomputable def rowsT : List FRow := [([], some Try.f0.name, false, [], none), ([], some Try.f1.name, false, [], none), ([1], none, false, [], none), ([9, 8, 9, 10, 9, 11], none, false, [], none), ([9, 12, 9, 13, 11, 9, 11, 14, 11, 14, 15, 9, 13, 11, 15], none, false, [], none), ([16, 17, 18, 19, 20, 17, 18, 20], none, false, [], none), ([22, 23, 21, 22, 23, 24, 25], none, false, [], none), ([26, 22, 28, 27, 28, 22, 29, 25, 28, 30], none, false, [], none), ([31, 33, 32], none, false, [], none), ([], none, false, [], none), ([34, 35], none, false, [], none), ([], none, false, [], none), ([31, 33, 36, 37, 38], none, false, [], none), ([34, 40, 41, 39], none, false, [], none), ([], none, false, [], none), ([], none, false, [], none), ([44, 36, 37, 32, 38], none, false, [], none), ([45, 46, 39], none, false, [], none), ([11], none, false, [], none), ([14], none, false, [], none), ([15], none, false, [], none), ([47, 48], none, false, [], none), ([49, 49, 49], none, false, [], none), ([], none, false, [], none), ([50, 51, 52], none, false, [], none), ([53, 53, 53], none, false, [], none), ([], none, false, [], none), ([47, 48], none, false, [], none), ([23], none, false, [], none), ([50, 51, 52], none, false, [], none), ([54], none, false, [], none), ([55], none, false, [], none), ([56, 37, 37], none, false, [], none), ([57], none, false, [], none), ([58, 59], none, false, [], none), ([40, 43, 60, 42, 42], none, false, [], none), ([61], none, false, [], none), ([62], none, false, [], none), ([], none, false, [], none), ([63], none, true, [], none), ([66, 65, 64], none, false, [], none), ([42, 43], none, false, [], none), ([67], none, false, [], none), ([], none, false, [], none), ([], none, false, [], none), ([], none, false, [], none), ([35, 43], none, false, [], none), ([68, 70, 69, 55], none, false, [], none), ([71, 47], none, false, [], none), ([], none, false, [], none), ([72, 74, 73, 75, 76], none, false, [], none), ([76, 59, 76, 76, 77], none, false, [], none), ([78, 79, 80, 79, 81], none, false, [], none), ([], none, false, [], none), ([], none, false, [], none), ([], none, false, [], none), ([], none, false, [], none), ([], none, false, [], none), ([83, 82], none, false, [], none), ([76], none, false, [], none), ([], none, false, [], none), ([], none, false, [], none), ([84, 85], none, false, [], none), ([43], none, true, [], none), ([], none, false, [], none), ([86, 87], none, false, [], none), ([88], none, false, [], none), ([90, 89], none, false, [], none), ([55], none, false, [], none), ([68, 68], none, false, [], none), ([], none, false, [], none), ([55, 55, 92, 93, 94], none, false, [], none), ([58, 95], none, false, [], none), ([97, 96], none, false, [], none), ([77], none, false, [], none), ([95, 95], none, false, [], none), ([], none, false, [], none), ([], none, false, [], none), ([], none, false, [], none), ([], none, true, [], none), ([98], none, false, [], none), ([98], none, false, [], none), ([99], none, false, [], none), ([], none, true, [], none), ([], none, false, [], none), ([100, 92, 101], none, false, [], none), ([102], none, false, [], none), ([104, 103], none, false, [], none), ([], none, true, [], none), ([105], none, true, [], none), ([91], none, false, [], none), ([106, 107, 99], none, false, [], none), ([], none, false, [], none), ([55], none, false, [], none), ([109, 109, 109, 110, 110, 110], none, false, [], none), ([76], none, false, [], none), ([111], none, false, [], none), ([], none, true, [], none), ([], none, false, [], none), ([], none, true, [], none), ([], none, false, [], none), ([], none, false, [], none), ([], none, true, [], none), ([112, 113, 114, 115, 116, 117, 118, 119, 120, 103, 103], none, false, [], none), ([121, 122], none, false, [], none), ([76, 76], none, false, [], none), ([], none, false, [], none), ([78, 108, 78], none, false, [], none), ([], none, false, [], none), ([123], none, false, [], none), ([123], none, false, [], none), ([], none, true, [], none), ([118], none, false, [], none), ([124, 124], none, false, [], none), ([125, 126], none, false, [], none), ([127, 127, 127, 128], none, false, [], none), ([], none, false, [], none), ([118, 118, 118], none, false, [], none), ([129, 129], none, false, [], none), ([118, 118], none, false, [], none), ([118, 118, 118, 118], none, false, [], none), ([], none, false, [], none), ([], none, false, [], none), ([], none, false, [], none), ([118, 118], none, false, [], none), ([104], none, false, [], none), ([], none, false, [], none), ([128], none, false, [], none), ([130, 130, 130], none, false, [], none), ([], none, false, [], none), ([118], none, false, [], none), ([], some Try.f131.name, false, [], none), ([], some Try.f132.name, false, [], none), ([], some Try.f133.name, false, [], none), ([], some Try.f134.name, false, [], none), ([], some Try.f135.name, false, [], none), ([], some Try.f136.name, false, [], none), ([], some Try.f137.name, false, [], none), ([], some Try.f138.name, false, [], none), ([], some Try.f139.name, false, [], none), ([], some Try.f140.name, false, [], none), ([], some Try.f141.name, false, [], none), ([], some Try.f142.name, false, [], none), ([], some Try.f143.name, false, [], none), ([], some Try.f144.name, false, [], none), ([], some Try.f145.name, false, [], none), ([], some Try.f146.name, false, [], none), ([], some Try.f147.name, false, [], none)]
theorem funcsL : Try.prog.funcs.toList = [Try.f0, Try.f1, Try.f2, Try.f3, Try.f4, Try.f5, Try.f6, Try.f7, Try.f8, Try.f9, Try.f10, Try.f11, Try.f12, Try.f13, Try.f14, Try.f15, Try.f16, Try.f17, Try.f18, Try.f19, Try.f20, Try.f21, Try.f22, Try.f23, Try.f24, Try.f25, Try.f26, Try.f27, Try.f28, Try.f29, Try.f30, Try.f31, Try.f32, Try.f33, Try.f34, Try.f35, Try.f36, Try.f37, Try.f38, Try.f39, Try.f40, Try.f41, Try.f42, Try.f43, Try.f44, Try.f45, Try.f46, Try.f47, Try.f48, Try.f49, Try.f50, Try.f51, Try.f52, Try.f53, Try.f54, Try.f55, Try.f56, Try.f57, Try.f58, Try.f59, Try.f60, Try.f61, Try.f62, Try.f63, Try.f64, Try.f65, Try.f66, Try.f67, Try.f68, Try.f69, Try.f70, Try.f71, Try.f72, Try.f73, Try.f74, Try.f75, Try.f76, Try.f77, Try.f78, Try.f79, Try.f80, Try.f81, Try.f82, Try.f83, Try.f84, Try.f85, Try.f86, Try.f87, Try.f88, Try.f89, Try.f90, Try.f91, Try.f92, Try.f93, Try.f94, Try.f95, Try.f96, Try.f97, Try.f98, Try.f99, Try.f100, Try.f101, Try.f102, Try.f103, Try.f104, Try.f105, Try.f106, Try.f107, Try.f108, Try.f109, Try.f110, Try.f111, Try.f112, Try.f113, Try.f114, Try.f115, Try.f116, Try.f117, Try.f118, Try.f119, Try.f120, Try.f121, Try.f122, Try.f123, Try.f124, Try.f125, Try.f126, Try.f127, Try.f128, Try.f129, Try.f130, Try.f131, Try.f132, Try.f133, Try.f134, Try.f135, Try.f136, Try.f137, Try.f138, Try.f139, Try.f140, Try.f141, Try.f142, Try.f143, Try.f144, Try.f145, Try.f146, Try.f147] := by kernel_rfl
theorem map_cons_of {α β : Type} {g : α → β} {a : α} {b : β} {l : List α} {m : List β} (h : g a = b) (k : l.map g = m) : (a :: l).map g = b :: m := by rw [List.map_cons, h, k]
theorem rowsAll : Try.prog.funcs.toList.map (fnRow Try.prog) = rowsT := by
  rw [funcsL]
  exact map_cons_of row0 (map_cons_of row1 (map_cons_of row2 (map_cons_of row3 (map_cons_of row4 (map_cons_of row5 (map_cons_of row6 (map_cons_of row7 (map_cons_of row8 (map_cons_of row9 (map_cons_of row10 (map_cons_of row11 (map_cons_of row12 (map_cons_of row13 (map_cons_of row14 (map_cons_of row15 (map_cons_of row16 (map_cons_of row17 (map_cons_of row18 (map_cons_of row19 (map_cons_of row20 (map_cons_of row21 (map_cons_of row22 (map_cons_of row23 (map_cons_of row24 (map_cons_of row25 (map_cons_of row26 (map_cons_of row27 (map_cons_of row28 (map_cons_of row29 (map_cons_of row30 (map_cons_of row31 (map_cons_of row32 (map_cons_of row33 (map_cons_of row34 (map_cons_of row35 (map_cons_of row36 (map_cons_of row37 (map_cons_of row38 (map_cons_of row39 (map_cons_of row40 (map_cons_of row41 (map_cons_of row42 (map_cons_of row43 (map_cons_of row44 (map_cons_of row45 (map_cons_of row46 (map_cons_of row47 (map_cons_of row48 (map_cons_of row49 (map_cons_of row50 (map_cons_of row51 (map_cons_of row52 (map_cons_of row53 (map_cons_of row54 (map_cons_of row55 (map_cons_of row56 (map_cons_of row57 (map_cons_of row58 (map_cons_of row59 (map_cons_of row60 (map_cons_of row61 (map_cons_of row62 (map_cons_of row63 (map_cons_of row64 (map_cons_of row65 (map_cons_of row66 (map_cons_of row67 (map_cons_of row68 (map_cons_of row69 (map_cons_of row70 (map_cons_of row71 (map_cons_of row72 (map_cons_of row73 (map_cons_of row74 (map_cons_of row75 (map_cons_of row76 (map_cons_of row77 (map_cons_of row78 (map_cons_of row79 (map_cons_of row80 (map_cons_of row81 (map_cons_of row82 (map_cons_of row83 (map_cons_of row84 (map_cons_of row85 (map_cons_of row86 (map_cons_of row87 (map_cons_of row88 (map_cons_of row89 (map_cons_of row90 (map_cons_of row91 (map_cons_of row92 (map_cons_of row93 (map_cons_of row94 (map_cons_of row95 (map_cons_of row96 (map_cons_of row97 (map_cons_of row98 (map_cons_of row99 (map_cons_of row100 (map_cons_of row101 (map_cons_of row102 (map_cons_of row103 (map_cons_of row104 (map_cons_of row105 (map_cons_of row106 (map_cons_of row107 (map_cons_of row108 (map_cons_of row109 (map_cons_of row110 (map_cons_of row111 (map_cons_of row112 (map_cons_of row113 (map_cons_of row114 (map_cons_of row115 (map_cons_of row116 (map_cons_of row117 (map_cons_of row118 (map_cons_of row119 (map_cons_of row120 (map_cons_of row121 (map_cons_of row122 (map_cons_of row123 (map_cons_of row124 (map_cons_of row125 (map_cons_of row126 (map_cons_of row127 (map_cons_of row128 (map_cons_of row129 (map_cons_of row130 (map_cons_of row131 (map_cons_of row132 (map_cons_of row133 (map_cons_of row134 (map_cons_of row135 (map_cons_of row136 (map_cons_of row137 (map_cons_of row138 (map_cons_of row139 (map_cons_of row140 (map_cons_of row141 (map_cons_of row142 (map_cons_of row143 (map_cons_of row144 (map_cons_of row145 (map_cons_of row146 (map_cons_of row147 rfl)))))))))))))))))))))))))))))))))))))))))))))))))))))))))))))))))))))))))))))))))))))))))))))))))))))))))))))))))))))))))))))))))))))))))))))))))))
def headC : List Nat := [104, 97, 114, 110, 101, 115, 115, 32, 99, 52, 97, 97, 99, 49, 102, 56, 48, 53, 97, 98, 54, 98, 52, 51, 99, 98, 100, 50, 50, 98, 56, 54, 49, 49, 57, 50, 48, 57, 52, 101, 101, 51, 102, 100, 52, 102, 50, 102, 56, 102, 99, 57, 99, 53, 97, 102, 48, 51, 102, 50, 52, 55, 55, 50, 51, 97, 57, 100, 52, 99, 48, 49, 32, 99, 117, 116, 32, 97, 116, 32, 108, 111, 111, 112, 46, 101, 120, 97, 109, 112, 108, 101, 47, 103, 48, 49, 50, 54, 53, 47, 108, 97, 119, 115, 46, 70, 110, 69, 120, 97, 99, 116, 73, 115, 76, 101, 97, 115, 116, 84, 101, 115, 116, 32, 108, 111, 111, 112, 46, 101, 120, 97, 109, 112, 108, 101, 47, 103, 48, 49, 50, 54, 53, 47, 108, 97, 119, 115, 46, 70, 110, 69, 120, 97, 99, 116, 83, 104, 111, 114, 116, 101, 115, 116, 84, 101, 115, 116, 32, 108, 111, 111, 112, 46, 101, 120, 97, 109, 112, 108, 101, 47, 103, 48, 49, 50, 54, 53, 47, 108, 97, 119, 115, 46, 70, 110, 69, 120, 97, 99, 116, 76, 101, 97, 115, 116, 84, 101, 115, 116, 115, 32, 108, 111, 111, 112, 46, 101, 120, 97, 109, 112, 108, 101, 47, 103, 48, 49, 50, 54, 53, 47, 108, 97, 119, 115, 46, 70, 110, 69, 120, 97, 99, 116, 68, 111, 74, 111, 98, 32, 108, 111, 111, 112, 46, 101, 120, 97, 109, 112, 108, 101, 47, 103, 48, 49, 50, 54, 53, 47, 108, 97, 119, 115, 46, 70, 110, 69, 120, 97, 99, 116, 68, 111, 74, 111, 98, 115]
def headW : List (List Nat) := [[104, 97, 114, 110, 101, 115, 115], [99, 52, 97, 97, 99, 49, 102, 56, 48, 53, 97, 98, 54, 98, 52, 51, 99, 98, 100, 50, 50, 98, 56, 54, 49, 49, 57, 50, 48, 57, 52, 101, 101, 51, 102, 100, 52, 102, 50, 102, 56, 102, 99, 57, 99, 53, 97, 102, 48, 51, 102, 50, 52, 55, 55, 50, 51, 97, 57, 100, 52, 99, 48, 49], [99, 117, 116], [97, 116], [108, 111, 111, 112, 46, 101, 120, 97, 109, 112, 108, 101, 47, 103, 48, 49, 50, 54, 53, 47, 108, 97, 119, 115, 46, 70, 110, 69, 120, 97, 99, 116, 73, 115, 76, 101, 97, 115, 116, 84, 101, 115, 116], [108, 111, 111, 112, 46, 101, 120, 97, 109, 112, 108, 101, 47, 103, 48, 49, 50, 54, 53, 47, 108, 97, 119, 115, 46, 70, 110, 69, 120, 97, 99, 116, 83, 104, 111, 114, 116, 101, 115, 116, 84, 101, 115, 116], [108, 111, 111, 112, 46, 101, 120, 97, 109, 112, 108, 101, 47, 103, 48, 49, 50, 54, 53, 47, 108, 97, 119, 115, 46, 70, 110, 69, 120, 97, 99, 116, 76, 101, 97, 115, 116, 84, 101, 115, 116, 115], [108, 111, 111, 112, 46, 101, 120, 97, 109, 112, 108, 101, 47, 103, 48, 49, 50, 54, 53, 47, 108, 97, 119, 115, 46, 70, 110, 69, 120, 97, 99, 116, 68, 111, 74, 111, 98], [108, 111, 111, 112, 46, 101, 120, 97, 109, 112, 108, 101, 47, 103, 48, 49, 50, 54, 53, 47, 108, 97, 119, 115, 46, 70, 110, 69, 120, 97, 99, 116, 68, 111, 74, 111, 98, 115]]
theorem headEq : Try.prog.initOrder = String.ofList (headC.map Char.ofNat) := by kernel_rfl
theorem headWords : wordsSigns Try.prog.initOrder.toList = headW.map (fun l => l.map Char.ofNat) := by
  rw [headEq, String.toList_ofList]; kernel_rfl
def headR : List (List Nat) := headW.drop 3
theorem headB : behindMainWord (wordsSigns Try.prog.initOrder.toList) = String.toList (String.ofList ([99, 117, 116].map Char.ofNat)) :: headR.map (fun l => l.map Char.ofNat) := by
  rw [headWords, String.toList_ofList]; kernel_rfl
theorem cutW : String.ofList ([99, 117, 116].map Char.ofNat) = "cut" := by kernel_rfl
theorem headCut : behindMainWord (wordsSigns Try.prog.initOrder.toList) = "cut".toList :: headR.map (fun l => l.map Char.ofNat) := by rw [headB, cutW]
theorem stripCut (l : List (List Char)) : stripLifts liftWords ("cut".toList :: l) = ([], "cut".toList :: l) := by
  simp [stripLifts, liftWords]
theorem make_of {P : Program} {r : List (List Char)} (h : behindMainWord (wordsSigns P.initOrder.toList) = "cut".toList :: r) : P.make = some .cut := by
  unfold Program.make; rw [h]; simp
theorem lifts_of {P : Program} {r : List (List Char)} (h : behindMainWord (wordsSigns P.initOrder.toList) = "cut".toList :: r) : P.liftsFinal = false := by
  unfold Program.liftsFinal Program.headLifts; rw [h, stripCut]; simp
theorem may_of {P : Program} {r : List (List Char)} (h : behindMainWord (wordsSigns P.initOrder.toList) = "cut".toList :: r) (h1 : P.laysLater = false) (h2 : P.bearsReflect = false) (h3 : P.doorFits [] = true) : P.mayEnter = true := by
  unfold Program.mayEnter; rw [h]; simp only [stripCut]; rw [h1, h2, h3]; simp
theorem laysNot : Try.prog.laysLater = false := by kernel_rfl
theorem bearsNot : Try.prog.bearsReflect = false := by kernel_rfl
theorem doorOk : Try.prog.doorFits [] = true := by kernel_rfl
theorem factMay : Try.prog.mayEnter = true := may_of headCut laysNot bearsNot doorOk
theorem factLifts : Try.prog.liftsFinal = false := lifts_of headCut
theorem factMake : Try.prog.make = some .cut := make_of headCut
theorem and_mk {a b : Bool} (ha : a = true) (hb : b = true) : (a && b) = true := by rw [ha, hb]; rfl
end Go.Proofs.Ytfflbbgipbnckaa