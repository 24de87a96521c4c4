/- What each function of the program names, a row a function: so the closed facts of a row about what its function reaches are reckoned from a small table. -/
import Derived.Test.YtohgjfdbnkjefaaGreatDoorProg
import Derived.JoinedOf
import Derived.KernelRfl
namespace Go.Proofs.YtohgjfdbnkjefaaGreatDoor
set_option linter.unusedVariables false
set_option maxRecDepth 100000

abbrev FRow := List Nat × Option String × Bool × List Nat × Option String
def inPlaceAt (fn : Func) : Option String := if fn.ours || fn.body.isNone || fn.name == "runtime.NumGoroutine" then some fn.name else none
def fnRow (P : Program) (fn : Func) : FRow :=
  (P.leadsTo fn, inPlaceAt fn, (match fn.body with | some c => c.unfollowed | none => entryCalls fn), (fn.body.elim [] Code.globalsNamed), (if fn.body.isNone then entryReads.lookup fn.name else none))
def cvT (T : List FRow) : Nat → List Nat → List Nat → List Nat
  | 0, _, seen => seen.reverse
  | _, [], seen => seen.reverse
  | n + 1, f :: todo, seen => if seen.contains f then cvT T n todo seen else cvT T n ((T[f]?).elim [] (·.1) ++ todo) (f :: seen)
section
variable {P : Program} {T : List FRow}
theorem tab_at (hT : P.funcs.toList.map (fnRow P) = T) (k : Nat) : T[k]? = (P.funcs[k]?).map (fnRow P) := by
  rw [← hT, List.getElem?_map]; simp
theorem cvT_eq (hT : P.funcs.toList.map (fnRow P) = T) : ∀ (n : Nat) (todo seen : List Nat), P.closureVia n todo seen = cvT T n todo seen
  | 0, _, _ => by simp [Program.closureVia, cvT]
  | n + 1, [], _ => by simp [Program.closureVia, cvT]
  | n + 1, f :: todo, seen => by
    unfold Program.closureVia cvT
    rw [cvT_eq hT n, cvT_eq hT n, tab_at hT f]
    cases P.funcs[f]? <;> rfl
def closT (T : List FRow) (f : Nat) : List Nat := cvT T (1 + (T.map fun r => r.1.length + 1).sum) [f] []
theorem closT_eq (hT : P.funcs.toList.map (fnRow P) = T) (f : Nat) : P.closure f = closT T f := by
  unfold Program.closure closT
  rw [cvT_eq hT, ← hT, List.map_map]; rfl
theorem inPlaceT (hT : P.funcs.toList.map (fnRow P) = T) (f : Nat) : P.inPlace f = (closT T f).filterMap fun g => (T[g]?).bind (·.2.1) := by
  unfold Program.inPlace
  rw [closT_eq hT]
  congr 1; funext g
  rw [tab_at hT g]; cases P.funcs[g]? <;> rfl
theorem unfollowedT (hT : P.funcs.toList.map (fnRow P) = T) (f : Nat) : P.unfollowed f = (closT T f).any fun g => (T[g]?).any (·.2.2.1) := by
  unfold Program.unfollowed
  rw [closT_eq hT]
  congr 1; funext g
  rw [tab_at hT g]; cases P.funcs[g]? <;> rfl
theorem varsT (hT : P.funcs.toList.map (fnRow P) = T) (f : Nat) : P.varsNamed f =
    ((((closT T f).flatMap fun g => (T[g]?).elim [] (·.2.2.2.1)).eraseDups).filterMap (fun g => (P.globals[g]?).map (·.name)) ++ (closT T f).filterMap fun g => (T[g]?).bind (·.2.2.2.2)).eraseDups := by
  unfold Program.varsNamed
  rw [closT_eq hT]
  have e1 : (fun g : Nat => ((P.funcs[g]?).bind fun x : Func => x.body).elim [] Code.globalsNamed) = fun g : Nat => (T[g]?).elim [] fun x : FRow => x.2.2.2.1 := by
    funext g; rw [tab_at hT g]; cases P.funcs[g]? <;> rfl
  have e2 : (fun g : Nat => (P.funcs[g]?).bind fun fn : Func => if fn.body.isNone then entryReads.lookup fn.name else none) = fun g : Nat => (T[g]?).bind fun x : FRow => x.2.2.2.2 := by
    funext g; rw [tab_at hT g]; cases P.funcs[g]? <;> rfl
  rw [e1, e2]
theorem recursesEq (hT : P.funcs.toList.map (fnRow P) = T) (f : Nat) : P.recurses f = (((closT T f).any fun g => (T[g]?).any (·.2.2.1)) || (closT T f).any fun g => ((T[g]?).elim [] (·.1)).any fun h => (closT T h).contains g) := by
  unfold Program.recurses
  rw [unfollowedT hT, closT_eq hT]
  congr 1
  congr 1; funext g
  have e1 : ((P.funcs[g]?).elim [] P.leadsTo) = (T[g]?).elim [] fun x : FRow => x.1 := by
    rw [tab_at hT g]; cases P.funcs[g]? <;> rfl
  rw [e1]
  congr 1; funext h
  rw [closT_eq hT]
theorem recursesT {f : Nat} (h : P.unfollowed f = true) : P.recurses f = true := by unfold Program.recurses; rw [h]; rfl
end

theorem row0 : fnRow Tryz.prog Tryz.f0 = ([], some Tryz.f0.name, false, [], none) := by kernel_rfl
theorem row1 : fnRow Tryz.prog Tryz.f1 = ([], some Tryz.f1.name, false, [], none) := by kernel_rfl
theorem row2 : fnRow Tryz.prog Tryz.f2 = ([1], none, false, [], none) := by kernel_rfl
theorem row3 : fnRow Tryz.prog Tryz.f3 = ([9, 10, 11, 12, 13, 13, 13, 13, 13, 13, 14, 15, 16, 16, 17, 18, 19, 20, 21, 22, 21, 21, 21], none, false, [], none) := by kernel_rfl
theorem row4 : fnRow Tryz.prog Tryz.f4 = ([23, 25, 26, 24, 25, 26, 27], none, false, [], none) := by kernel_rfl
theorem row5 : fnRow Tryz.prog Tryz.f5 = ([28, 30, 29, 30, 13, 31], none, false, [], none) := by kernel_rfl
theorem row6 : fnRow Tryz.prog Tryz.f6 = ([28, 30, 32, 30, 33, 34, 35, 36, 30, 33, 34, 36], none, false, [], none) := by kernel_rfl
theorem row7 : fnRow Tryz.prog Tryz.f7 = ([9, 37, 11, 38, 40, 39, 40, 41, 13, 29, 42, 43, 44, 42, 43, 45, 43, 40, 46, 33, 32, 47, 48, 13], none, false, [], none) := by kernel_rfl
theorem row8 : fnRow Tryz.prog Tryz.f8 = ([9, 49, 27, 24, 40, 46, 11, 48, 13, 27], none, false, [], none) := by kernel_rfl
theorem row9 : fnRow Tryz.prog Tryz.f9 = ([], none, false, [], none) := by kernel_rfl
theorem row10 : fnRow Tryz.prog Tryz.f10 = ([50], none, false, [], none) := by kernel_rfl
theorem row11 : fnRow Tryz.prog Tryz.f11 = ([51], none, false, [], none) := by kernel_rfl
theorem row12 : fnRow Tryz.prog Tryz.f12 = ([52], none, false, [], none) := by kernel_rfl
theorem row13 : fnRow Tryz.prog Tryz.f13 = ([43, 53, 54, 55], none, false, [], none) := by kernel_rfl
theorem row14 : fnRow Tryz.prog Tryz.f14 = ([51, 56], none, false, [], none) := by kernel_rfl
theorem row15 : fnRow Tryz.prog Tryz.f15 = ([51, 57], none, false, [], none) := by kernel_rfl
theorem row16 : fnRow Tryz.prog Tryz.f16 = ([58, 59], none, false, [], none) := by kernel_rfl
theorem row17 : fnRow Tryz.prog Tryz.f17 = ([58, 60], none, false, [], none) := by kernel_rfl
theorem row18 : fnRow Tryz.prog Tryz.f18 = ([58, 61], none, false, [], none) := by kernel_rfl
theorem row19 : fnRow Tryz.prog Tryz.f19 = ([62, 63], none, false, [], none) := by kernel_rfl
theorem row20 : fnRow Tryz.prog Tryz.f20 = ([62, 63], none, false, [], none) := by kernel_rfl
theorem row21 : fnRow Tryz.prog Tryz.f21 = ([64], none, false, [], none) := by kernel_rfl
theorem row22 : fnRow Tryz.prog Tryz.f22 = ([65, 66], none, false, [], none) := by kernel_rfl
theorem row23 : fnRow Tryz.prog Tryz.f23 = ([], none, false, [], none) := by kernel_rfl
theorem row24 : fnRow Tryz.prog Tryz.f24 = ([38, 67, 68, 29], none, false, [], none) := by kernel_rfl
theorem row25 : fnRow Tryz.prog Tryz.f25 = ([69, 69, 69], none, false, [], none) := by kernel_rfl
theorem row26 : fnRow Tryz.prog Tryz.f26 = ([], none, false, [], none) := by kernel_rfl
theorem row27 : fnRow Tryz.prog Tryz.f27 = ([11, 70, 13], none, false, [], none) := by kernel_rfl
theorem row28 : fnRow Tryz.prog Tryz.f28 = ([23], none, false, [], none) := by kernel_rfl
theorem row29 : fnRow Tryz.prog Tryz.f29 = ([44, 71, 72, 73], none, false, [], none) := by kernel_rfl
theorem row30 : fnRow Tryz.prog Tryz.f30 = ([25, 26], none, false, [], none) := by kernel_rfl
theorem row31 : fnRow Tryz.prog Tryz.f31 = ([74, 75], none, false, [], none) := by kernel_rfl
theorem row32 : fnRow Tryz.prog Tryz.f32 = ([44, 76, 29], none, false, [], none) := by kernel_rfl
theorem row33 : fnRow Tryz.prog Tryz.f33 = ([77, 43, 13], none, false, [], none) := by kernel_rfl
theorem row34 : fnRow Tryz.prog Tryz.f34 = ([], none, false, [], none) := by kernel_rfl
theorem row35 : fnRow Tryz.prog Tryz.f35 = ([78], none, false, [], none) := by kernel_rfl
theorem row36 : fnRow Tryz.prog Tryz.f36 = ([78], none, false, [], none) := by kernel_rfl
theorem row37 : fnRow Tryz.prog Tryz.f37 = ([10], none, false, [], none) := by kernel_rfl
theorem row38 : fnRow Tryz.prog Tryz.f38 = ([52], none, false, [], none) := by kernel_rfl
theorem row39 : fnRow Tryz.prog Tryz.f39 = ([79], none, false, [], none) := by kernel_rfl
theorem row40 : fnRow Tryz.prog Tryz.f40 = ([], none, false, [], none) := by kernel_rfl
theorem row41 : fnRow Tryz.prog Tryz.f41 = ([79, 80], none, false, [], none) := by kernel_rfl
theorem row42 : fnRow Tryz.prog Tryz.f42 = ([], none, false, [], none) := by kernel_rfl
theorem row43 : fnRow Tryz.prog Tryz.f43 = ([51, 81], none, false, [], none) := by kernel_rfl
theorem row44 : fnRow Tryz.prog Tryz.f44 = ([52, 67], none, false, [], none) := by kernel_rfl
theorem row45 : fnRow Tryz.prog Tryz.f45 = ([70], none, false, [], none) := by kernel_rfl
theorem row46 : fnRow Tryz.prog Tryz.f46 = ([79, 80, 83, 82, 80], none, false, [], none) := by kernel_rfl
theorem row47 : fnRow Tryz.prog Tryz.f47 = ([], none, false, [], none) := by kernel_rfl
theorem row48 : fnRow Tryz.prog Tryz.f48 = ([77], none, false, [], none) := by kernel_rfl
theorem row49 : fnRow Tryz.prog Tryz.f49 = ([50, 38, 83, 80, 29, 84, 85, 73, 84, 86], none, false, [], none) := by kernel_rfl
theorem row50 : fnRow Tryz.prog Tryz.f50 = ([88, 87, 83, 90, 89, 83, 82, 83, 91, 83, 82], none, false, [], none) := by kernel_rfl
theorem row51 : fnRow Tryz.prog Tryz.f51 = ([58, 93, 92, 62, 94], none, false, [], none) := by kernel_rfl
theorem row52 : fnRow Tryz.prog Tryz.f52 = ([95, 97, 96, 98], none, false, [], none) := by kernel_rfl
theorem row53 : fnRow Tryz.prog Tryz.f53 = ([94, 99, 65], none, false, [], none) := by kernel_rfl
theorem row54 : fnRow Tryz.prog Tryz.f54 = ([77, 100, 101, 102, 103, 104, 56, 59], none, false, [], none) := by kernel_rfl
theorem row55 : fnRow Tryz.prog Tryz.f55 = ([81, 105, 106], none, false, [], none) := by kernel_rfl
theorem row56 : fnRow Tryz.prog Tryz.f56 = ([107, 108], none, false, [], none) := by kernel_rfl
theorem row57 : fnRow Tryz.prog Tryz.f57 = ([], none, false, [], none) := by kernel_rfl
theorem row58 : fnRow Tryz.prog Tryz.f58 = ([109, 110], none, false, [], none) := by kernel_rfl
theorem row59 : fnRow Tryz.prog Tryz.f59 = ([111, 66], none, false, [], none) := by kernel_rfl
theorem row60 : fnRow Tryz.prog Tryz.f60 = ([112, 113], none, false, [], none) := by kernel_rfl
theorem row61 : fnRow Tryz.prog Tryz.f61 = ([114], none, false, [], none) := by kernel_rfl
theorem row62 : fnRow Tryz.prog Tryz.f62 = ([110, 110], none, false, [], none) := by kernel_rfl
theorem row63 : fnRow Tryz.prog Tryz.f63 = ([112, 108, 115], none, false, [], none) := by kernel_rfl
theorem row64 : fnRow Tryz.prog Tryz.f64 = ([94, 116], none, false, [], none) := by kernel_rfl
theorem row65 : fnRow Tryz.prog Tryz.f65 = ([117], none, false, [], none) := by kernel_rfl
theorem row66 : fnRow Tryz.prog Tryz.f66 = ([118, 119, 119, 119, 120], none, false, [], none) := by kernel_rfl
theorem row67 : fnRow Tryz.prog Tryz.f67 = ([68, 68], none, false, [], none) := by kernel_rfl
theorem row68 : fnRow Tryz.prog Tryz.f68 = ([76, 121], none, false, [], none) := by kernel_rfl
theorem row69 : fnRow Tryz.prog Tryz.f69 = ([], none, false, [], none) := by kernel_rfl
theorem row70 : fnRow Tryz.prog Tryz.f70 = ([122, 123], none, false, [], none) := by kernel_rfl
theorem row71 : fnRow Tryz.prog Tryz.f71 = ([124, 125, 124], none, false, [], none) := by kernel_rfl
theorem row72 : fnRow Tryz.prog Tryz.f72 = ([76, 126, 127, 128, 129, 130], none, false, [], none) := by kernel_rfl
theorem row73 : fnRow Tryz.prog Tryz.f73 = ([67, 71, 131], none, false, [], none) := by kernel_rfl
theorem row74 : fnRow Tryz.prog Tryz.f74 = ([132, 132, 132], none, false, [], none) := by kernel_rfl
theorem row75 : fnRow Tryz.prog Tryz.f75 = ([], none, false, [], none) := by kernel_rfl
theorem row76 : fnRow Tryz.prog Tryz.f76 = ([], none, false, [], none) := by kernel_rfl
theorem row77 : fnRow Tryz.prog Tryz.f77 = ([133], none, false, [], none) := by kernel_rfl
theorem row78 : fnRow Tryz.prog Tryz.f78 = ([], none, false, [], none) := by kernel_rfl
theorem row79 : fnRow Tryz.prog Tryz.f79 = ([50, 38, 83, 80, 29, 83, 83, 73], none, false, [], none) := by kernel_rfl
theorem row80 : fnRow Tryz.prog Tryz.f80 = ([83, 134, 83, 134, 83, 134, 135, 84, 136], none, false, [], none) := by kernel_rfl
theorem row81 : fnRow Tryz.prog Tryz.f81 = ([70], none, false, [], none) := by kernel_rfl
theorem row82 : fnRow Tryz.prog Tryz.f82 = ([83], none, false, [], none) := by kernel_rfl
theorem row83 : fnRow Tryz.prog Tryz.f83 = ([137, 137], none, false, [], none) := by kernel_rfl
theorem row84 : fnRow Tryz.prog Tryz.f84 = ([83], none, false, [], none) := by kernel_rfl
theorem row85 : fnRow Tryz.prog Tryz.f85 = ([135, 135, 83, 135, 135], none, false, [], none) := by kernel_rfl
theorem row86 : fnRow Tryz.prog Tryz.f86 = ([138, 83, 136], none, false, [], none) := by kernel_rfl
theorem row87 : fnRow Tryz.prog Tryz.f87 = ([139], none, false, [], none) := by kernel_rfl
theorem row88 : fnRow Tryz.prog Tryz.f88 = ([84, 140, 82, 82, 141], none, false, [], none) := by kernel_rfl
theorem row89 : fnRow Tryz.prog Tryz.f89 = ([142, 52], none, false, [], none) := by kernel_rfl
theorem row90 : fnRow Tryz.prog Tryz.f90 = ([82, 83, 83, 83, 83, 83, 83, 82, 82, 82], none, false, [], none) := by kernel_rfl
theorem row91 : fnRow Tryz.prog Tryz.f91 = ([83, 82, 82, 84, 83, 83, 141, 84, 83], none, false, [], none) := by kernel_rfl
theorem row92 : fnRow Tryz.prog Tryz.f92 = ([144, 143], none, false, [], none) := by kernel_rfl
theorem row93 : fnRow Tryz.prog Tryz.f93 = ([107], none, false, [], none) := by kernel_rfl
theorem row94 : fnRow Tryz.prog Tryz.f94 = ([], none, false, [], none) := by kernel_rfl
theorem row95 : fnRow Tryz.prog Tryz.f95 = ([98], none, false, [], none) := by kernel_rfl
theorem row96 : fnRow Tryz.prog Tryz.f96 = ([95, 95], none, false, [], none) := by kernel_rfl
theorem row97 : fnRow Tryz.prog Tryz.f97 = ([], none, false, [], none) := by kernel_rfl
theorem row98 : fnRow Tryz.prog Tryz.f98 = ([], none, false, [], none) := by kernel_rfl
theorem row99 : fnRow Tryz.prog Tryz.f99 = ([94], none, false, [], none) := by kernel_rfl
theorem row100 : fnRow Tryz.prog Tryz.f100 = ([145, 94, 116], none, false, [], none) := by kernel_rfl
theorem row101 : fnRow Tryz.prog Tryz.f101 = ([146], none, false, [], none) := by kernel_rfl
theorem row102 : fnRow Tryz.prog Tryz.f102 = ([147, 148, 149, 150, 151, 152], none, false, [], none) := by kernel_rfl
theorem row103 : fnRow Tryz.prog Tryz.f103 = ([94, 153, 94, 94, 107], none, false, [], none) := by kernel_rfl
theorem row104 : fnRow Tryz.prog Tryz.f104 = ([112, 154, 155, 154, 156], none, false, [], none) := by kernel_rfl
theorem row105 : fnRow Tryz.prog Tryz.f105 = ([53, 99], none, false, [], none) := by kernel_rfl
theorem row106 : fnRow Tryz.prog Tryz.f106 = ([94, 105, 116, 157], none, false, [], none) := by kernel_rfl
theorem row107 : fnRow Tryz.prog Tryz.f107 = ([], none, false, [], none) := by kernel_rfl
theorem row108 : fnRow Tryz.prog Tryz.f108 = ([], none, false, [], none) := by kernel_rfl
theorem row109 : fnRow Tryz.prog Tryz.f109 = ([159, 158], none, false, [], none) := by kernel_rfl
theorem row110 : fnRow Tryz.prog Tryz.f110 = ([94], none, false, [], none) := by kernel_rfl
theorem row111 : fnRow Tryz.prog Tryz.f111 = ([], none, false, [], none) := by kernel_rfl
theorem row112 : fnRow Tryz.prog Tryz.f112 = ([], none, false, [], none) := by kernel_rfl
theorem row113 : fnRow Tryz.prog Tryz.f113 = ([], none, false, [], none) := by kernel_rfl
theorem row114 : fnRow Tryz.prog Tryz.f114 = ([160, 161], none, false, [], none) := by kernel_rfl
theorem row115 : fnRow Tryz.prog Tryz.f115 = ([112, 108], none, false, [], none) := by kernel_rfl
theorem row116 : fnRow Tryz.prog Tryz.f116 = ([162], none, false, [], none) := by kernel_rfl
theorem row117 : fnRow Tryz.prog Tryz.f117 = ([163], none, false, [], none) := by kernel_rfl
theorem row118 : fnRow Tryz.prog Tryz.f118 = ([164, 165], none, false, [], none) := by kernel_rfl
theorem row119 : fnRow Tryz.prog Tryz.f119 = ([164], none, false, [], none) := by kernel_rfl
theorem row120 : fnRow Tryz.prog Tryz.f120 = ([], none, false, [], none) := by kernel_rfl
theorem row121 : fnRow Tryz.prog Tryz.f121 = ([134, 76, 76, 71, 131], none, false, [], none) := by kernel_rfl
theorem row122 : fnRow Tryz.prog Tryz.f122 = ([166, 167], none, true, [], none) := by kernel_rfl
theorem row123 : fnRow Tryz.prog Tryz.f123 = ([168], none, false, [], none) := by kernel_rfl
theorem row124 : fnRow Tryz.prog Tryz.f124 = ([98], none, false, [], none) := by kernel_rfl
theorem row125 : fnRow Tryz.prog Tryz.f125 = ([], none, false, [], none) := by kernel_rfl
theorem row126 : fnRow Tryz.prog Tryz.f126 = ([169], none, false, [], none) := by kernel_rfl
theorem row127 : fnRow Tryz.prog Tryz.f127 = ([170], none, false, [], none) := by kernel_rfl
theorem row128 : fnRow Tryz.prog Tryz.f128 = ([89, 172, 171], none, false, [], none) := by kernel_rfl
theorem row129 : fnRow Tryz.prog Tryz.f129 = ([172, 171, 172, 171, 174, 173, 175, 173, 97, 177, 176, 178, 134], none, false, [], none) := by kernel_rfl
theorem row130 : fnRow Tryz.prog Tryz.f130 = ([180, 179, 182, 181, 183], none, false, [], none) := by kernel_rfl
theorem row131 : fnRow Tryz.prog Tryz.f131 = ([134, 184], none, false, [], none) := by kernel_rfl
theorem row132 : fnRow Tryz.prog Tryz.f132 = ([], none, false, [], none) := by kernel_rfl
theorem row133 : fnRow Tryz.prog Tryz.f133 = ([185, 186, 117], none, false, [], none) := by kernel_rfl
theorem row134 : fnRow Tryz.prog Tryz.f134 = ([134, 134, 134, 134], none, false, [], none) := by kernel_rfl
theorem row135 : fnRow Tryz.prog Tryz.f135 = ([83], none, false, [], none) := by kernel_rfl
theorem row136 : fnRow Tryz.prog Tryz.f136 = ([83, 83, 83], none, false, [], none) := by kernel_rfl
theorem row137 : fnRow Tryz.prog Tryz.f137 = ([], none, false, [], none) := by kernel_rfl
theorem row138 : fnRow Tryz.prog Tryz.f138 = ([83, 85, 73, 84, 187], none, false, [], none) := by kernel_rfl
theorem row139 : fnRow Tryz.prog Tryz.f139 = ([95], none, false, [], none) := by kernel_rfl
theorem row140 : fnRow Tryz.prog Tryz.f140 = ([82, 91, 84], none, false, [], none) := by kernel_rfl
theorem row141 : fnRow Tryz.prog Tryz.f141 = ([], none, false, [], none) := by kernel_rfl
theorem row142 : fnRow Tryz.prog Tryz.f142 = ([98, 98, 141, 188, 189], none, false, [], none) := by kernel_rfl
theorem row143 : fnRow Tryz.prog Tryz.f143 = ([190], none, false, [], none) := by kernel_rfl
theorem row144 : fnRow Tryz.prog Tryz.f144 = ([], none, true, [], none) := by kernel_rfl
theorem row145 : fnRow Tryz.prog Tryz.f145 = ([191, 192], none, false, [], none) := by kernel_rfl
theorem row146 : fnRow Tryz.prog Tryz.f146 = ([57], none, false, [], none) := by kernel_rfl
theorem row147 : fnRow Tryz.prog Tryz.f147 = ([56, 59, 59, 17, 116, 18, 116, 93, 193, 194, 195, 116], none, false, [], none) := by kernel_rfl
theorem row148 : fnRow Tryz.prog Tryz.f148 = ([196, 197], none, false, [], none) := by kernel_rfl
theorem row149 : fnRow Tryz.prog Tryz.f149 = ([], none, false, [], none) := by kernel_rfl
theorem row150 : fnRow Tryz.prog Tryz.f150 = ([94, 198, 18, 199], none, false, [], none) := by kernel_rfl
theorem row151 : fnRow Tryz.prog Tryz.f151 = ([116, 116], none, false, [], none) := by kernel_rfl
theorem row152 : fnRow Tryz.prog Tryz.f152 = ([94, 107, 56, 115, 194, 19, 194, 63, 116, 200, 149, 112, 201, 194, 202, 151], none, false, [], none) := by kernel_rfl
theorem row153 : fnRow Tryz.prog Tryz.f153 = ([94], none, false, [], none) := by kernel_rfl
theorem row154 : fnRow Tryz.prog Tryz.f154 = ([], none, true, [], none) := by kernel_rfl
theorem row155 : fnRow Tryz.prog Tryz.f155 = ([203], none, false, [], none) := by kernel_rfl
theorem row156 : fnRow Tryz.prog Tryz.f156 = ([203], none, false, [], none) := by kernel_rfl
theorem row157 : fnRow Tryz.prog Tryz.f157 = ([65, 204, 116], none, false, [], none) := by kernel_rfl
theorem row158 : fnRow Tryz.prog Tryz.f158 = ([205], none, false, [], none) := by kernel_rfl
theorem row159 : fnRow Tryz.prog Tryz.f159 = ([], none, true, [], none) := by kernel_rfl
theorem row160 : fnRow Tryz.prog Tryz.f160 = ([], none, false, [], none) := by kernel_rfl
theorem row161 : fnRow Tryz.prog Tryz.f161 = ([], none, false, [], none) := by kernel_rfl
theorem row162 : fnRow Tryz.prog Tryz.f162 = ([206], none, false, [], none) := by kernel_rfl
theorem row163 : fnRow Tryz.prog Tryz.f163 = ([207, 208, 207, 209, 208, 210], none, false, [0, 0, 0], none) := by kernel_rfl
theorem row164 : fnRow Tryz.prog Tryz.f164 = ([211], none, false, [], none) := by kernel_rfl
theorem row165 : fnRow Tryz.prog Tryz.f165 = ([212], none, false, [], none) := by kernel_rfl
theorem row166 : fnRow Tryz.prog Tryz.f166 = ([213], none, false, [], none) := by kernel_rfl
theorem row167 : fnRow Tryz.prog Tryz.f167 = ([216, 215, 217, 217, 106], none, false, [], none) := by kernel_rfl
theorem row168 : fnRow Tryz.prog Tryz.f168 = ([], none, false, [], none) := by kernel_rfl
theorem row169 : fnRow Tryz.prog Tryz.f169 = ([98, 134], none, false, [], none) := by kernel_rfl
theorem row170 : fnRow Tryz.prog Tryz.f170 = ([], none, false, [], none) := by kernel_rfl
theorem row171 : fnRow Tryz.prog Tryz.f171 = ([218], none, false, [], none) := by kernel_rfl
theorem row172 : fnRow Tryz.prog Tryz.f172 = ([97, 219], none, false, [], none) := by kernel_rfl
theorem row173 : fnRow Tryz.prog Tryz.f173 = ([134], none, false, [], none) := by kernel_rfl
theorem row174 : fnRow Tryz.prog Tryz.f174 = ([139, 220], none, false, [], none) := by kernel_rfl
theorem row175 : fnRow Tryz.prog Tryz.f175 = ([139, 221], none, false, [], none) := by kernel_rfl
theorem row176 : fnRow Tryz.prog Tryz.f176 = ([134, 134], none, false, [], none) := by kernel_rfl
theorem row177 : fnRow Tryz.prog Tryz.f177 = ([222, 223], none, false, [], none) := by kernel_rfl
theorem row178 : fnRow Tryz.prog Tryz.f178 = ([225, 224, 226, 227, 228], none, false, [], none) := by kernel_rfl
theorem row179 : fnRow Tryz.prog Tryz.f179 = ([134, 134], none, false, [], none) := by kernel_rfl
theorem row180 : fnRow Tryz.prog Tryz.f180 = ([98, 141, 221, 229], none, false, [], none) := by kernel_rfl
theorem row181 : fnRow Tryz.prog Tryz.f181 = ([], none, false, [], none) := by kernel_rfl
theorem row182 : fnRow Tryz.prog Tryz.f182 = ([230, 226], none, false, [], none) := by kernel_rfl
theorem row183 : fnRow Tryz.prog Tryz.f183 = ([98, 97, 219, 231, 176, 232, 176, 233, 173, 234, 181, 225, 235, 236, 176, 237, 179], none, false, [], none) := by kernel_rfl
theorem row184 : fnRow Tryz.prog Tryz.f184 = ([238, 134], none, false, [], none) := by kernel_rfl
theorem row185 : fnRow Tryz.prog Tryz.f185 = ([239, 240], none, false, [], none) := by kernel_rfl
theorem row186 : fnRow Tryz.prog Tryz.f186 = ([239, 241, 117], none, false, [], none) := by kernel_rfl
theorem row187 : fnRow Tryz.prog Tryz.f187 = ([67], none, false, [], none) := by kernel_rfl
theorem row188 : fnRow Tryz.prog Tryz.f188 = ([98], none, false, [], none) := by kernel_rfl
theorem row189 : fnRow Tryz.prog Tryz.f189 = ([242, 242, 242, 243, 243, 243], none, false, [], none) := by kernel_rfl
theorem row190 : fnRow Tryz.prog Tryz.f190 = ([], none, true, [], none) := by kernel_rfl
theorem row191 : fnRow Tryz.prog Tryz.f191 = ([244], none, false, [], none) := by kernel_rfl
theorem row192 : fnRow Tryz.prog Tryz.f192 = ([245, 246, 247, 248], none, false, [], none) := by kernel_rfl
theorem row193 : fnRow Tryz.prog Tryz.f193 = ([249, 115], none, false, [], none) := by kernel_rfl
theorem row194 : fnRow Tryz.prog Tryz.f194 = ([116, 66], none, false, [], none) := by kernel_rfl
theorem row195 : fnRow Tryz.prog Tryz.f195 = ([251, 252, 250], none, false, [], none) := by kernel_rfl
theorem row196 : fnRow Tryz.prog Tryz.f196 = ([109, 153], none, false, [], none) := by kernel_rfl
theorem row197 : fnRow Tryz.prog Tryz.f197 = ([254], none, false, [], none) := by kernel_rfl
theorem row198 : fnRow Tryz.prog Tryz.f198 = ([116, 112], none, false, [], none) := by kernel_rfl
theorem row199 : fnRow Tryz.prog Tryz.f199 = ([], none, false, [], none) := by kernel_rfl
theorem row200 : fnRow Tryz.prog Tryz.f200 = ([63], none, false, [], none) := by kernel_rfl
theorem row201 : fnRow Tryz.prog Tryz.f201 = ([255, 110, 256, 61], none, false, [], none) := by kernel_rfl
theorem row202 : fnRow Tryz.prog Tryz.f202 = ([62, 63, 199], none, false, [], none) := by kernel_rfl
theorem row203 : fnRow Tryz.prog Tryz.f203 = ([], none, false, [], none) := by kernel_rfl
theorem row204 : fnRow Tryz.prog Tryz.f204 = ([], none, false, [], none) := by kernel_rfl
theorem row205 : fnRow Tryz.prog Tryz.f205 = ([], none, true, [], none) := by kernel_rfl
theorem row206 : fnRow Tryz.prog Tryz.f206 = ([257, 258, 259, 260], none, false, [], none) := by kernel_rfl
theorem row207 : fnRow Tryz.prog Tryz.f207 = ([261], none, false, [], none) := by kernel_rfl
theorem row208 : fnRow Tryz.prog Tryz.f208 = ([], some Tryz.f208.name, false, [], entryReads.lookup Tryz.f208.name) := by kernel_rfl
theorem row209 : fnRow Tryz.prog Tryz.f209 = ([], none, false, [], none) := by kernel_rfl
theorem row210 : fnRow Tryz.prog Tryz.f210 = ([262], none, false, [], none) := by kernel_rfl
theorem row211 : fnRow Tryz.prog Tryz.f211 = ([], some Tryz.f211.name, false, [], none) := by kernel_rfl
theorem row212 : fnRow Tryz.prog Tryz.f212 = ([], some Tryz.f212.name, false, [], none) := by kernel_rfl
theorem row213 : fnRow Tryz.prog Tryz.f213 = ([214], none, true, [], none) := by kernel_rfl
theorem row214 : fnRow Tryz.prog Tryz.f214 = ([207], none, false, [], none) := by kernel_rfl
theorem row215 : fnRow Tryz.prog Tryz.f215 = ([263, 157], none, false, [], none) := by kernel_rfl
theorem row216 : fnRow Tryz.prog Tryz.f216 = ([264], none, false, [], none) := by kernel_rfl
theorem row217 : fnRow Tryz.prog Tryz.f217 = ([265], none, false, [], none) := by kernel_rfl
theorem row218 : fnRow Tryz.prog Tryz.f218 = ([], none, false, [], none) := by kernel_rfl
theorem row219 : fnRow Tryz.prog Tryz.f219 = ([], none, false, [], none) := by kernel_rfl
theorem row220 : fnRow Tryz.prog Tryz.f220 = ([266], none, false, [], none) := by kernel_rfl
theorem row221 : fnRow Tryz.prog Tryz.f221 = ([], none, false, [], none) := by kernel_rfl
theorem row222 : fnRow Tryz.prog Tryz.f222 = ([139, 96], none, false, [], none) := by kernel_rfl
theorem row223 : fnRow Tryz.prog Tryz.f223 = ([141, 219], none, false, [], none) := by kernel_rfl
theorem row224 : fnRow Tryz.prog Tryz.f224 = ([267], none, false, [], none) := by kernel_rfl
theorem row225 : fnRow Tryz.prog Tryz.f225 = ([], none, false, [], none) := by kernel_rfl
theorem row226 : fnRow Tryz.prog Tryz.f226 = ([268], none, false, [], none) := by kernel_rfl
theorem row227 : fnRow Tryz.prog Tryz.f227 = ([170, 226, 226], none, false, [], none) := by kernel_rfl
theorem row228 : fnRow Tryz.prog Tryz.f228 = ([], none, false, [], none) := by kernel_rfl
theorem row229 : fnRow Tryz.prog Tryz.f229 = ([269, 269], none, false, [], none) := by kernel_rfl
theorem row230 : fnRow Tryz.prog Tryz.f230 = ([98], none, false, [], none) := by kernel_rfl
theorem row231 : fnRow Tryz.prog Tryz.f231 = ([96, 95, 223], none, false, [], none) := by kernel_rfl
theorem row232 : fnRow Tryz.prog Tryz.f232 = ([96, 270], none, false, [], none) := by kernel_rfl
theorem row233 : fnRow Tryz.prog Tryz.f233 = ([96, 270], none, false, [], none) := by kernel_rfl
theorem row234 : fnRow Tryz.prog Tryz.f234 = ([96, 270], none, false, [], none) := by kernel_rfl
theorem row235 : fnRow Tryz.prog Tryz.f235 = ([98, 98, 271, 141], none, false, [], none) := by kernel_rfl
theorem row236 : fnRow Tryz.prog Tryz.f236 = ([272], none, false, [], none) := by kernel_rfl
theorem row237 : fnRow Tryz.prog Tryz.f237 = ([96, 270, 229], none, false, [], none) := by kernel_rfl
theorem row238 : fnRow Tryz.prog Tryz.f238 = ([], none, false, [], none) := by kernel_rfl
theorem row239 : fnRow Tryz.prog Tryz.f239 = ([], none, false, [], none) := by kernel_rfl
theorem row240 : fnRow Tryz.prog Tryz.f240 = ([273], none, false, [], none) := by kernel_rfl
theorem row241 : fnRow Tryz.prog Tryz.f241 = ([], some Tryz.f241.name, false, [], none) := by kernel_rfl
theorem row242 : fnRow Tryz.prog Tryz.f242 = ([274], none, false, [], none) := by kernel_rfl
theorem row243 : fnRow Tryz.prog Tryz.f243 = ([274], none, false, [], none) := by kernel_rfl
theorem row244 : fnRow Tryz.prog Tryz.f244 = ([275], none, false, [], none) := by kernel_rfl
theorem row245 : fnRow Tryz.prog Tryz.f245 = ([276], none, false, [1], none) := by kernel_rfl
theorem row246 : fnRow Tryz.prog Tryz.f246 = ([276], none, false, [2], none) := by kernel_rfl
theorem row247 : fnRow Tryz.prog Tryz.f247 = ([276, 116, 277], none, false, [], none) := by kernel_rfl
theorem row248 : fnRow Tryz.prog Tryz.f248 = ([276, 116, 277], none, false, [], none) := by kernel_rfl
theorem row249 : fnRow Tryz.prog Tryz.f249 = ([278, 115], none, false, [], none) := by kernel_rfl
theorem row250 : fnRow Tryz.prog Tryz.f250 = ([279], none, true, [], none) := by kernel_rfl
theorem row251 : fnRow Tryz.prog Tryz.f251 = ([], none, false, [], none) := by kernel_rfl
theorem row252 : fnRow Tryz.prog Tryz.f252 = ([253, 57], none, false, [], none) := by kernel_rfl
theorem row253 : fnRow Tryz.prog Tryz.f253 = ([280, 57, 281, 197, 197], none, false, [], none) := by kernel_rfl
theorem row254 : fnRow Tryz.prog Tryz.f254 = ([283, 282], none, false, [], none) := by kernel_rfl
theorem row255 : fnRow Tryz.prog Tryz.f255 = ([94, 110, 285], none, false, [], none) := by kernel_rfl
theorem row256 : fnRow Tryz.prog Tryz.f256 = ([61], none, false, [], none) := by kernel_rfl
theorem row257 : fnRow Tryz.prog Tryz.f257 = ([], none, false, [], none) := by kernel_rfl
theorem row258 : fnRow Tryz.prog Tryz.f258 = ([287, 286, 288], none, false, [3], none) := by kernel_rfl
theorem row259 : fnRow Tryz.prog Tryz.f259 = ([], none, false, [], none) := by kernel_rfl
theorem row260 : fnRow Tryz.prog Tryz.f260 = ([289, 290], none, false, [], none) := by kernel_rfl
theorem row261 : fnRow Tryz.prog Tryz.f261 = ([], some Tryz.f261.name, false, [], none) := by kernel_rfl
theorem row262 : fnRow Tryz.prog Tryz.f262 = ([], none, false, [], none) := by kernel_rfl
theorem row263 : fnRow Tryz.prog Tryz.f263 = ([291, 292], none, false, [], none) := by kernel_rfl
theorem row264 : fnRow Tryz.prog Tryz.f264 = ([168], none, false, [], none) := by kernel_rfl
theorem row265 : fnRow Tryz.prog Tryz.f265 = ([163], none, false, [], none) := by kernel_rfl
theorem row266 : fnRow Tryz.prog Tryz.f266 = ([141], none, false, [], none) := by kernel_rfl
theorem row267 : fnRow Tryz.prog Tryz.f267 = ([], none, false, [], none) := by kernel_rfl
theorem row268 : fnRow Tryz.prog Tryz.f268 = ([293, 294], none, false, [], none) := by kernel_rfl
theorem row269 : fnRow Tryz.prog Tryz.f269 = ([], none, false, [], none) := by kernel_rfl
theorem row270 : fnRow Tryz.prog Tryz.f270 = ([141, 219, 223], none, false, [], none) := by kernel_rfl
theorem row271 : fnRow Tryz.prog Tryz.f271 = ([], none, false, [], none) := by kernel_rfl
theorem row272 : fnRow Tryz.prog Tryz.f272 = ([221], none, false, [], none) := by kernel_rfl
theorem row273 : fnRow Tryz.prog Tryz.f273 = ([], none, false, [4, 5], none) := by kernel_rfl
theorem row274 : fnRow Tryz.prog Tryz.f274 = ([], none, false, [], none) := by kernel_rfl
theorem row275 : fnRow Tryz.prog Tryz.f275 = ([295, 295, 295, 295, 295, 295, 296], none, false, [], none) := by kernel_rfl
theorem row276 : fnRow Tryz.prog Tryz.f276 = ([], none, false, [], none) := by kernel_rfl
theorem row277 : fnRow Tryz.prog Tryz.f277 = ([], none, false, [], none) := by kernel_rfl
theorem row278 : fnRow Tryz.prog Tryz.f278 = ([58, 92, 62], none, false, [], none) := by kernel_rfl
theorem row279 : fnRow Tryz.prog Tryz.f279 = ([57], none, true, [], none) := by kernel_rfl
theorem row280 : fnRow Tryz.prog Tryz.f280 = ([299, 298, 297], none, false, [], none) := by kernel_rfl
theorem row281 : fnRow Tryz.prog Tryz.f281 = ([], none, false, [], none) := by kernel_rfl
theorem row282 : fnRow Tryz.prog Tryz.f282 = ([300], none, true, [], none) := by kernel_rfl
theorem row283 : fnRow Tryz.prog Tryz.f283 = ([284], none, false, [], none) := by kernel_rfl
theorem row284 : fnRow Tryz.prog Tryz.f284 = ([301, 302, 205], none, false, [], none) := by kernel_rfl
theorem row285 : fnRow Tryz.prog Tryz.f285 = ([113], none, false, [], none) := by kernel_rfl
theorem row286 : fnRow Tryz.prog Tryz.f286 = ([], none, false, [], none) := by kernel_rfl
theorem row287 : fnRow Tryz.prog Tryz.f287 = ([], none, false, [], none) := by kernel_rfl
theorem row288 : fnRow Tryz.prog Tryz.f288 = ([], none, false, [], none) := by kernel_rfl
theorem row289 : fnRow Tryz.prog Tryz.f289 = ([], none, false, [], none) := by kernel_rfl
theorem row290 : fnRow Tryz.prog Tryz.f290 = ([303, 304], none, false, [], none) := by kernel_rfl
theorem row291 : fnRow Tryz.prog Tryz.f291 = ([], none, false, [], none) := by kernel_rfl
theorem row292 : fnRow Tryz.prog Tryz.f292 = ([305], none, false, [], none) := by kernel_rfl
theorem row293 : fnRow Tryz.prog Tryz.f293 = ([], none, false, [], none) := by kernel_rfl
theorem row294 : fnRow Tryz.prog Tryz.f294 = ([306, 141, 219], none, false, [], none) := by kernel_rfl
theorem row295 : fnRow Tryz.prog Tryz.f295 = ([], none, false, [], none) := by kernel_rfl
theorem row296 : fnRow Tryz.prog Tryz.f296 = ([295, 295, 295, 295, 295, 295], none, false, [], none) := by kernel_rfl
theorem row297 : fnRow Tryz.prog Tryz.f297 = ([], none, false, [], none) := by kernel_rfl
theorem row298 : fnRow Tryz.prog Tryz.f298 = ([307, 308], none, false, [], none) := by kernel_rfl
theorem row299 : fnRow Tryz.prog Tryz.f299 = ([309], none, false, [], none) := by kernel_rfl
theorem row300 : fnRow Tryz.prog Tryz.f300 = ([94, 94], none, false, [], none) := by kernel_rfl
theorem row301 : fnRow Tryz.prog Tryz.f301 = ([], none, false, [], none) := by kernel_rfl
theorem row302 : fnRow Tryz.prog Tryz.f302 = ([112, 108, 112], none, false, [], none) := by kernel_rfl
theorem row303 : fnRow Tryz.prog Tryz.f303 = ([], none, false, [6], none) := by kernel_rfl
theorem row304 : fnRow Tryz.prog Tryz.f304 = ([], none, false, [7], none) := by kernel_rfl
theorem row305 : fnRow Tryz.prog Tryz.f305 = ([], none, false, [], none) := by kernel_rfl
theorem row306 : fnRow Tryz.prog Tryz.f306 = ([], none, false, [], none) := by kernel_rfl
theorem row307 : fnRow Tryz.prog Tryz.f307 = ([310], none, false, [], none) := by kernel_rfl
theorem row308 : fnRow Tryz.prog Tryz.f308 = ([312, 311], none, false, [], none) := by kernel_rfl
theorem row309 : fnRow Tryz.prog Tryz.f309 = ([], none, true, [], none) := by kernel_rfl
theorem row310 : fnRow Tryz.prog Tryz.f310 = ([], none, true, [], none) := by kernel_rfl
theorem row311 : fnRow Tryz.prog Tryz.f311 = ([313, 314, 315, 316, 317, 318, 319, 320, 321, 311, 311], none, false, [], none) := by kernel_rfl
theorem row312 : fnRow Tryz.prog Tryz.f312 = ([322, 287], none, false, [], none) := by kernel_rfl
theorem row313 : fnRow Tryz.prog Tryz.f313 = ([319], none, false, [], none) := by kernel_rfl
theorem row314 : fnRow Tryz.prog Tryz.f314 = ([323, 323], none, false, [], none) := by kernel_rfl
theorem row315 : fnRow Tryz.prog Tryz.f315 = ([324, 325], none, false, [], none) := by kernel_rfl
theorem row316 : fnRow Tryz.prog Tryz.f316 = ([326, 326, 326, 327], none, false, [], none) := by kernel_rfl
theorem row317 : fnRow Tryz.prog Tryz.f317 = ([], none, false, [], none) := by kernel_rfl
theorem row318 : fnRow Tryz.prog Tryz.f318 = ([319, 319, 319], none, false, [], none) := by kernel_rfl
theorem row319 : fnRow Tryz.prog Tryz.f319 = ([328, 328], none, false, [], none) := by kernel_rfl
theorem row320 : fnRow Tryz.prog Tryz.f320 = ([319, 319], none, false, [], none) := by kernel_rfl
theorem row321 : fnRow Tryz.prog Tryz.f321 = ([319, 319, 319, 319], none, false, [], none) := by kernel_rfl
theorem row322 : fnRow Tryz.prog Tryz.f322 = ([], none, false, [], none) := by kernel_rfl
theorem row323 : fnRow Tryz.prog Tryz.f323 = ([319, 319], none, false, [], none) := by kernel_rfl
theorem row324 : fnRow Tryz.prog Tryz.f324 = ([312], none, false, [], none) := by kernel_rfl
theorem row325 : fnRow Tryz.prog Tryz.f325 = ([], none, false, [], none) := by kernel_rfl
theorem row326 : fnRow Tryz.prog Tryz.f326 = ([327], none, false, [], none) := by kernel_rfl
theorem row327 : fnRow Tryz.prog Tryz.f327 = ([329, 329, 329], none, false, [], none) := by kernel_rfl
theorem row328 : fnRow Tryz.prog Tryz.f328 = ([], none, false, [], none) := by kernel_rfl
theorem row329 : fnRow Tryz.prog Tryz.f329 = ([319], none, false, [], none) := by kernel_rfl
theorem row330 : fnRow Tryz.prog Tryz.f330 = ([], some Tryz.f330.name, false, [], none) := by kernel_rfl
theorem row331 : fnRow Tryz.prog Tryz.f331 = ([], some Tryz.f331.name, false, [], none) := by kernel_rfl
theorem row332 : fnRow Tryz.prog Tryz.f332 = ([], some Tryz.f332.name, false, [], none) := by kernel_rfl
theorem row333 : fnRow Tryz.prog Tryz.f333 = ([], some Tryz.f333.name, false, [], none) := by kernel_rfl
theorem row334 : fnRow Tryz.prog Tryz.f334 = ([], some Tryz.f334.name, false, [], none) := by kernel_rfl
theorem row335 : fnRow Tryz.prog Tryz.f335 = ([], some Tryz.f335.name, false, [], none) := by kernel_rfl
theorem row336 : fnRow Tryz.prog Tryz.f336 = ([], some Tryz.f336.name, false, [], none) := by kernel_rfl
theorem row337 : fnRow Tryz.prog Tryz.f337 = ([], some Tryz.f337.name, false, [], none) := by kernel_rfl
theorem row338 : fnRow Tryz.prog Tryz.f338 = ([], some Tryz.f338.name, false, [], none) := by kernel_rfl
theorem row339 : fnRow Tryz.prog Tryz.f339 = ([], some Tryz.f339.name, false, [], none) := by kernel_rfl
theorem row340 : fnRow Tryz.prog Tryz.f340 = ([], some Tryz.f340.name, false, [], none) := by kernel_rfl
theorem row341 : fnRow Tryz.prog Tryz.f341 = ([], some Tryz.f341.name, false, [], none) := by kernel_rfl
theorem row342 : fnRow Tryz.prog Tryz.f342 = ([], some Tryz.f342.name, false, [], none) := by kernel_rfl
theorem row343 : fnRow Tryz.prog Tryz.f343 = ([], some Tryz.f343.name, false, [], none) := by kernel_rfl
theorem row344 : fnRow Tryz.prog Tryz.f344 = ([], some Tryz.f344.name, false, [], none) := by kernel_rfl
theorem row345 : fnRow Tryz.prog Tryz.f345 = ([], some Tryz.f345.name, false, [], none) := by kernel_rfl
theorem row346 : fnRow Tryz.prog Tryz.f346 = ([], some Tryz.f346.name, false, [], none) := by kernel_rfl
theorem row347 : fnRow Tryz.prog Tryz.f347 = ([], some Tryz.f347.name, false, [], none) := by kernel_rfl
theorem row348 : fnRow Tryz.prog Tryz.f348 = ([], some Tryz.f348.name, false, [], none) := by kernel_rfl
theorem row349 : fnRow Tryz.prog Tryz.f349 = ([], some Tryz.f349.name, false, [], none) := by kernel_rfl
theorem row350 : fnRow Tryz.prog Tryz.f350 = ([], some Tryz.f350.name, false, [], none) := by kernel_rfl
theorem row351 : fnRow Tryz.prog Tryz.f351 = ([], some Tryz.f351.name, false, [], none) := by kernel_rfl
theorem row352 : fnRow Tryz.prog Tryz.f352 = ([], some Tryz.f352.name, false, [], none) := by kernel_rfl
theorem row353 : fnRow Tryz.prog Tryz.f353 = ([], some Tryz.f353.name, false, [], none) := by kernel_rfl
theorem row354 : fnRow Tryz.prog Tryz.f354 = ([], some Tryz.f354.name, false, [], none) := by kernel_rfl
theorem row355 : fnRow Tryz.prog Tryz.f355 = ([], some Tryz.f355.name, false, [], none) := by kernel_rfl
theorem row356 : fnRow Tryz.prog Tryz.f356 = ([], some Tryz.f356.name, false, [], none) := by kernel_rfl
theorem row357 : fnRow Tryz.prog Tryz.f357 = ([], some Tryz.f357.name, false, [], none) := by kernel_rfl
theorem row358 : fnRow Tryz.prog Tryz.f358 = ([], some Tryz.f358.name, false, [], none) := by kernel_rfl
theorem row359 : fnRow Tryz.prog Tryz.f359 = ([], some Tryz.f359.name, false, [], none) := by kernel_rfl
theorem row360 : fnRow Tryz.prog Tryz.f360 = ([277, 277], none, false, [6, 7, 3, 5, 2, 1], none) := by kernel_rfl
noncomputable def rowsT : List FRow := [([], some Tryz.f0.name, false, [], none), ([], some Tryz.f1.name, false, [], none), ([1], none, false, [], none), ([9, 10, 11, 12, 13, 13, 13, 13, 13, 13, 14, 15, 16, 16, 17, 18, 19, 20, 21, 22, 21, 21, 21], none, false, [], none), ([23, 25, 26, 24, 25, 26, 27], none, false, [], none), ([28, 30, 29, 30, 13, 31], none, false, [], none), ([28, 30, 32, 30, 33, 34, 35, 36, 30, 33, 34, 36], none, false, [], none), ([9, 37, 11, 38, 40, 39, 40, 41, 13, 29, 42, 43, 44, 42, 43, 45, 43, 40, 46, 33, 32, 47, 48, 13], none, false, [], none), ([9, 49, 27, 24, 40, 46, 11, 48, 13, 27], none, false, [], none), ([], none, false, [], none), ([50], none, false, [], none), ([51], none, false, [], none), ([52], none, false, [], none), ([43, 53, 54, 55], none, false, [], none), ([51, 56], none, false, [], none), ([51, 57], none, false, [], none), ([58, 59], none, false, [], none), ([58, 60], none, false, [], none), ([58, 61], none, false, [], none), ([62, 63], none, false, [], none), ([62, 63], none, false, [], none), ([64], none, false, [], none), ([65, 66], none, false, [], none), ([], none, false, [], none), ([38, 67, 68, 29], none, false, [], none), ([69, 69, 69], none, false, [], none), ([], none, false, [], none), ([11, 70, 13], none, false, [], none), ([23], none, false, [], none), ([44, 71, 72, 73], none, false, [], none), ([25, 26], none, false, [], none), ([74, 75], none, false, [], none), ([44, 76, 29], none, false, [], none), ([77, 43, 13], none, false, [], none), ([], none, false, [], none), ([78], none, false, [], none), ([78], none, false, [], none), ([10], none, false, [], none), ([52], none, false, [], none), ([79], none, false, [], none), ([], none, false, [], none), ([79, 80], none, false, [], none), ([], none, false, [], none), ([51, 81], none, false, [], none), ([52, 67], none, false, [], none), ([70], none, false, [], none), ([79, 80, 83, 82, 80], none, false, [], none), ([], none, false, [], none), ([77], none, false, [], none), ([50, 38, 83, 80, 29, 84, 85, 73, 84, 86], none, false, [], none), ([88, 87, 83, 90, 89, 83, 82, 83, 91, 83, 82], none, false, [], none), ([58, 93, 92, 62, 94], none, false, [], none), ([95, 97, 96, 98], none, false, [], none), ([94, 99, 65], none, false, [], none), ([77, 100, 101, 102, 103, 104, 56, 59], none, false, [], none), ([81, 105, 106], none, false, [], none), ([107, 108], none, false, [], none), ([], none, false, [], none), ([109, 110], none, false, [], none), ([111, 66], none, false, [], none), ([112, 113], none, false, [], none), ([114], none, false, [], none), ([110, 110], none, false, [], none), ([112, 108, 115], none, false, [], none), ([94, 116], none, false, [], none), ([117], none, false, [], none), ([118, 119, 119, 119, 120], none, false, [], none), ([68, 68], none, false, [], none), ([76, 121], none, false, [], none), ([], none, false, [], none), ([122, 123], none, false, [], none), ([124, 125, 124], none, false, [], none), ([76, 126, 127, 128, 129, 130], none, false, [], none), ([67, 71, 131], none, false, [], none), ([132, 132, 132], none, false, [], none), ([], none, false, [], none), ([], none, false, [], none), ([133], none, false, [], none), ([], none, false, [], none), ([50, 38, 83, 80, 29, 83, 83, 73], none, false, [], none), ([83, 134, 83, 134, 83, 134, 135, 84, 136], none, false, [], none), ([70], none, false, [], none), ([83], none, false, [], none), ([137, 137], none, false, [], none), ([83], none, false, [], none), ([135, 135, 83, 135, 135], none, false, [], none), ([138, 83, 136], none, false, [], none), ([139], none, false, [], none), ([84, 140, 82, 82, 141], none, false, [], none), ([142, 52], none, false, [], none), ([82, 83, 83, 83, 83, 83, 83, 82, 82, 82], none, false, [], none), ([83, 82, 82, 84, 83, 83, 141, 84, 83], none, false, [], none), ([144, 143], none, false, [], none), ([107], none, false, [], none), ([], none, false, [], none), ([98], none, false, [], none), ([95, 95], none, false, [], none), ([], none, false, [], none), ([], none, false, [], none), ([94], none, false, [], none), ([145, 94, 116], none, false, [], none), ([146], none, false, [], none), ([147, 148, 149, 150, 151, 152], none, false, [], none), ([94, 153, 94, 94, 107], none, false, [], none), ([112, 154, 155, 154, 156], none, false, [], none), ([53, 99], none, false, [], none), ([94, 105, 116, 157], none, false, [], none), ([], none, false, [], none), ([], none, false, [], none), ([159, 158], none, false, [], none), ([94], none, false, [], none), ([], none, false, [], none), ([], none, false, [], none), ([], none, false, [], none), ([160, 161], none, false, [], none), ([112, 108], none, false, [], none), ([162], none, false, [], none), ([163], none, false, [], none), ([164, 165], none, false, [], none), ([164], none, false, [], none), ([], none, false, [], none), ([134, 76, 76, 71, 131], none, false, [], none), ([166, 167], none, true, [], none), ([168], none, false, [], none), ([98], none, false, [], none), ([], none, false, [], none), ([169], none, false, [], none), ([170], none, false, [], none), ([89, 172, 171], none, false, [], none), ([172, 171, 172, 171, 174, 173, 175, 173, 97, 177, 176, 178, 134], none, false, [], none), ([180, 179, 182, 181, 183], none, false, [], none), ([134, 184], none, false, [], none), ([], none, false, [], none), ([185, 186, 117], none, false, [], none), ([134, 134, 134, 134], none, false, [], none), ([83], none, false, [], none), ([83, 83, 83], none, false, [], none), ([], none, false, [], none), ([83, 85, 73, 84, 187], none, false, [], none), ([95], none, false, [], none), ([82, 91, 84], none, false, [], none), ([], none, false, [], none), ([98, 98, 141, 188, 189], none, false, [], none), ([190], none, false, [], none), ([], none, true, [], none), ([191, 192], none, false, [], none), ([57], none, false, [], none), ([56, 59, 59, 17, 116, 18, 116, 93, 193, 194, 195, 116], none, false, [], none), ([196, 197], none, false, [], none), ([], none, false, [], none), ([94, 198, 18, 199], none, false, [], none), ([116, 116], none, false, [], none), ([94, 107, 56, 115, 194, 19, 194, 63, 116, 200, 149, 112, 201, 194, 202, 151], none, false, [], none), ([94], none, false, [], none), ([], none, true, [], none), ([203], none, false, [], none), ([203], none, false, [], none), ([65, 204, 116], none, false, [], none), ([205], none, false, [], none), ([], none, true, [], none), ([], none, false, [], none), ([], none, false, [], none), ([206], none, false, [], none), ([207, 208, 207, 209, 208, 210], none, false, [0, 0, 0], none), ([211], none, false, [], none), ([212], none, false, [], none), ([213], none, false, [], none), ([216, 215, 217, 217, 106], none, false, [], none), ([], none, false, [], none), ([98, 134], none, false, [], none), ([], none, false, [], none), ([218], none, false, [], none), ([97, 219], none, false, [], none), ([134], none, false, [], none), ([139, 220], none, false, [], none), ([139, 221], none, false, [], none), ([134, 134], none, false, [], none), ([222, 223], none, false, [], none), ([225, 224, 226, 227, 228], none, false, [], none), ([134, 134], none, false, [], none), ([98, 141, 221, 229], none, false, [], none), ([], none, false, [], none), ([230, 226], none, false, [], none), ([98, 97, 219, 231, 176, 232, 176, 233, 173, 234, 181, 225, 235, 236, 176, 237, 179], none, false, [], none), ([238, 134], none, false, [], none), ([239, 240], none, false, [], none), ([239, 241, 117], none, false, [], none), ([67], none, false, [], none), ([98], none, false, [], none), ([242, 242, 242, 243, 243, 243], none, false, [], none), ([], none, true, [], none), ([244], none, false, [], none), ([245, 246, 247, 248], none, false, [], none), ([249, 115], none, false, [], none), ([116, 66], none, false, [], none), ([251, 252, 250], none, false, [], none), ([109, 153], none, false, [], none), ([254], none, false, [], none), ([116, 112], none, false, [], none), ([], none, false, [], none), ([63], none, false, [], none), ([255, 110, 256, 61], none, false, [], none), ([62, 63, 199], none, false, [], none), ([], none, false, [], none), ([], none, false, [], none), ([], none, true, [], none), ([257, 258, 259, 260], none, false, [], none), ([261], none, false, [], none), ([], some Tryz.f208.name, false, [], entryReads.lookup Tryz.f208.name), ([], none, false, [], none), ([262], none, false, [], none), ([], some Tryz.f211.name, false, [], none), ([], some Tryz.f212.name, false, [], none), ([214], none, true, [], none), ([207], none, false, [], none), ([263, 157], none, false, [], none), ([264], none, false, [], none), ([265], none, false, [], none), ([], none, false, [], none), ([], none, false, [], none), ([266], none, false, [], none), ([], none, false, [], none), ([139, 96], none, false, [], none), ([141, 219], none, false, [], none), ([267], none, false, [], none), ([], none, false, [], none), ([268], none, false, [], none), ([170, 226, 226], none, false, [], none), ([], none, false, [], none), ([269, 269], none, false, [], none), ([98], none, false, [], none), ([96, 95, 223], none, false, [], none), ([96, 270], none, false, [], none), ([96, 270], none, false, [], none), ([96, 270], none, false, [], none), ([98, 98, 271, 141], none, false, [], none), ([272], none, false, [], none), ([96, 270, 229], none, false, [], none), ([], none, false, [], none), ([], none, false, [], none), ([273], none, false, [], none), ([], some Tryz.f241.name, false, [], none), ([274], none, false, [], none), ([274], none, false, [], none), ([275], none, false, [], none), ([276], none, false, [1], none), ([276], none, false, [2], none), ([276, 116, 277], none, false, [], none), ([276, 116, 277], none, false, [], none), ([278, 115], none, false, [], none), ([279], none, true, [], none), ([], none, false, [], none), ([253, 57], none, false, [], none), ([280, 57, 281, 197, 197], none, false, [], none), ([283, 282], none, false, [], none), ([94, 110, 285], none, false, [], none), ([61], none, false, [], none), ([], none, false, [], none), ([287, 286, 288], none, false, [3], none), ([], none, false, [], none), ([289, 290], none, false, [], none), ([], some Tryz.f261.name, false, [], none), ([], none, false, [], none), ([291, 292], none, false, [], none), ([168], none, false, [], none), ([163], none, false, [], none), ([141], none, false, [], none), ([], none, false, [], none), ([293, 294], none, false, [], none), ([], none, false, [], none), ([141, 219, 223], none, false, [], none), ([], none, false, [], none), ([221], none, false, [], none), ([], none, false, [4, 5], none), ([], none, false, [], none), ([295, 295, 295, 295, 295, 295, 296], none, false, [], none), ([], none, false, [], none), ([], none, false, [], none), ([58, 92, 62], none, false, [], none), ([57], none, true, [], none), ([299, 298, 297], none, false, [], none), ([], none, false, [], none), ([300], none, true, [], none), ([284], none, false, [], none), ([301, 302, 205], none, false, [], none), ([113], none, false, [], none), ([], none, false, [], none), ([], none, false, [], none), ([], none, false, [], none), ([], none, false, [], none), ([303, 304], none, false, [], none), ([], none, false, [], none), ([305], none, false, [], none), ([], none, false, [], none), ([306, 141, 219], none, false, [], none), ([], none, false, [], none), ([295, 295, 295, 295, 295, 295], none, false, [], none), ([], none, false, [], none), ([307, 308], none, false, [], none), ([309], none, false, [], none), ([94, 94], none, false, [], none), ([], none, false, [], none), ([112, 108, 112], none, false, [], none), ([], none, false, [6], none), ([], none, false, [7], none), ([], none, false, [], none), ([], none, false, [], none), ([310], none, false, [], none), ([312, 311], none, false, [], none), ([], none, true, [], none), ([], none, true, [], none), ([313, 314, 315, 316, 317, 318, 319, 320, 321, 311, 311], none, false, [], none), ([322, 287], none, false, [], none), ([319], none, false, [], none), ([323, 323], none, false, [], none), ([324, 325], none, false, [], none), ([326, 326, 326, 327], none, false, [], none), ([], none, false, [], none), ([319, 319, 319], none, false, [], none), ([328, 328], none, false, [], none), ([319, 319], none, false, [], none), ([319, 319, 319, 319], none, false, [], none), ([], none, false, [], none), ([319, 319], none, false, [], none), ([312], none, false, [], none), ([], none, false, [], none), ([327], none, false, [], none), ([329, 329, 329], none, false, [], none), ([], none, false, [], none), ([319], none, false, [], none), ([], some Tryz.f330.name, false, [], none), ([], some Tryz.f331.name, false, [], none), ([], some Tryz.f332.name, false, [], none), ([], some Tryz.f333.name, false, [], none), ([], some Tryz.f334.name, false, [], none), ([], some Tryz.f335.name, false, [], none), ([], some Tryz.f336.name, false, [], none), ([], some Tryz.f337.name, false, [], none), ([], some Tryz.f338.name, false, [], none), ([], some Tryz.f339.name, false, [], none), ([], some Tryz.f340.name, false, [], none), ([], some Tryz.f341.name, false, [], none), ([], some Tryz.f342.name, false, [], none), ([], some Tryz.f343.name, false, [], none), ([], some Tryz.f344.name, false, [], none), ([], some Tryz.f345.name, false, [], none), ([], some Tryz.f346.name, false, [], none), ([], some Tryz.f347.name, false, [], none), ([], some Tryz.f348.name, false, [], none), ([], some Tryz.f349.name, false, [], none), ([], some Tryz.f350.name, false, [], none), ([], some Tryz.f351.name, false, [], none), ([], some Tryz.f352.name, false, [], none), ([], some Tryz.f353.name, false, [], none), ([], some Tryz.f354.name, false, [], none), ([], some Tryz.f355.name, false, [], none), ([], some Tryz.f356.name, false, [], none), ([], some Tryz.f357.name, false, [], none), ([], some Tryz.f358.name, false, [], none), ([], some Tryz.f359.name, false, [], none), ([277, 277], none, false, [6, 7, 3, 5, 2, 1], none)]
theorem funcsL : Tryz.prog.funcs.toList = [Tryz.f0, Tryz.f1, Tryz.f2, Tryz.f3, Tryz.f4, Tryz.f5, Tryz.f6, Tryz.f7, Tryz.f8, Tryz.f9, Tryz.f10, Tryz.f11, Tryz.f12, Tryz.f13, Tryz.f14, Tryz.f15, Tryz.f16, Tryz.f17, Tryz.f18, Tryz.f19, Tryz.f20, Tryz.f21, Tryz.f22, Tryz.f23, Tryz.f24, Tryz.f25, Tryz.f26, Tryz.f27, Tryz.f28, Tryz.f29, Tryz.f30, Tryz.f31, Tryz.f32, Tryz.f33, Tryz.f34, Tryz.f35, Tryz.f36, Tryz.f37, Tryz.f38, Tryz.f39, Tryz.f40, Tryz.f41, Tryz.f42, Tryz.f43, Tryz.f44, Tryz.f45, Tryz.f46, Tryz.f47, Tryz.f48, Tryz.f49, Tryz.f50, Tryz.f51, Tryz.f52, Tryz.f53, Tryz.f54, Tryz.f55, Tryz.f56, Tryz.f57, Tryz.f58, Tryz.f59, Tryz.f60, Tryz.f61, Tryz.f62, Tryz.f63, Tryz.f64, Tryz.f65, Tryz.f66, Tryz.f67, Tryz.f68, Tryz.f69, Tryz.f70, Tryz.f71, Tryz.f72, Tryz.f73, Tryz.f74, Tryz.f75, Tryz.f76, Tryz.f77, Tryz.f78, Tryz.f79, Tryz.f80, Tryz.f81, Tryz.f82, Tryz.f83, Tryz.f84, Tryz.f85, Tryz.f86, Tryz.f87, Tryz.f88, Tryz.f89, Tryz.f90, Tryz.f91, Tryz.f92, Tryz.f93, Tryz.f94, Tryz.f95, Tryz.f96, Tryz.f97, Tryz.f98, Tryz.f99, Tryz.f100, Tryz.f101, Tryz.f102, Tryz.f103, Tryz.f104, Tryz.f105, Tryz.f106, Tryz.f107, Tryz.f108, Tryz.f109, Tryz.f110, Tryz.f111, Tryz.f112, Tryz.f113, Tryz.f114, Tryz.f115, Tryz.f116, Tryz.f117, Tryz.f118, Tryz.f119, Tryz.f120, Tryz.f121, Tryz.f122, Tryz.f123, Tryz.f124, Tryz.f125, Tryz.f126, Tryz.f127, Tryz.f128, Tryz.f129, Tryz.f130, Tryz.f131, Tryz.f132, Tryz.f133, Tryz.f134, Tryz.f135, Tryz.f136, Tryz.f137, Tryz.f138, Tryz.f139, Tryz.f140, Tryz.f141, Tryz.f142, Tryz.f143, Tryz.f144, Tryz.f145, Tryz.f146, Tryz.f147, Tryz.f148, Tryz.f149, Tryz.f150, Tryz.f151, Tryz.f152, Tryz.f153, Tryz.f154, Tryz.f155, Tryz.f156, Tryz.f157, Tryz.f158, Tryz.f159, Tryz.f160, Tryz.f161, Tryz.f162, Tryz.f163, Tryz.f164, Tryz.f165, Tryz.f166, Tryz.f167, Tryz.f168, Tryz.f169, Tryz.f170, Tryz.f171, Tryz.f172, Tryz.f173, Tryz.f174, Tryz.f175, Tryz.f176, Tryz.f177, Tryz.f178, Tryz.f179, Tryz.f180, Tryz.f181, Tryz.f182, Tryz.f183, Tryz.f184, Tryz.f185, Tryz.f186, Tryz.f187, Tryz.f188, Tryz.f189, Tryz.f190, Tryz.f191, Tryz.f192, Tryz.f193, Tryz.f194, Tryz.f195, Tryz.f196, Tryz.f197, Tryz.f198, Tryz.f199, Tryz.f200, Tryz.f201, Tryz.f202, Tryz.f203, Tryz.f204, Tryz.f205, Tryz.f206, Tryz.f207, Tryz.f208, Tryz.f209, Tryz.f210, Tryz.f211, Tryz.f212, Tryz.f213, Tryz.f214, Tryz.f215, Tryz.f216, Tryz.f217, Tryz.f218, Tryz.f219, Tryz.f220, Tryz.f221, Tryz.f222, Tryz.f223, Tryz.f224, Tryz.f225, Tryz.f226, Tryz.f227, Tryz.f228, Tryz.f229, Tryz.f230, Tryz.f231, Tryz.f232, Tryz.f233, Tryz.f234, Tryz.f235, Tryz.f236, Tryz.f237, Tryz.f238, Tryz.f239, Tryz.f240, Tryz.f241, Tryz.f242, Tryz.f243, Tryz.f244, Tryz.f245, Tryz.f246, Tryz.f247, Tryz.f248, Tryz.f249, Tryz.f250, Tryz.f251, Tryz.f252, Tryz.f253, Tryz.f254, Tryz.f255, Tryz.f256, Tryz.f257, Tryz.f258, Tryz.f259, Tryz.f260, Tryz.f261, Tryz.f262, Tryz.f263, Tryz.f264, Tryz.f265, Tryz.f266, Tryz.f267, Tryz.f268, Tryz.f269, Tryz.f270, Tryz.f271, Tryz.f272, Tryz.f273, Tryz.f274, Tryz.f275, Tryz.f276, Tryz.f277, Tryz.f278, Tryz.f279, Tryz.f280, Tryz.f281, Tryz.f282, Tryz.f283, Tryz.f284, Tryz.f285, Tryz.f286, Tryz.f287, Tryz.f288, Tryz.f289, Tryz.f290, Tryz.f291, Tryz.f292, Tryz.f293, Tryz.f294, Tryz.f295, Tryz.f296, Tryz.f297, Tryz.f298, Tryz.f299, Tryz.f300, Tryz.f301, Tryz.f302, Tryz.f303, Tryz.f304, Tryz.f305, Tryz.f306, Tryz.f307, Tryz.f308, Tryz.f309, Tryz.f310, Tryz.f311, Tryz.f312, Tryz.f313, Tryz.f314, Tryz.f315, Tryz.f316, Tryz.f317, Tryz.f318, Tryz.f319, Tryz.f320, Tryz.f321, Tryz.f322, Tryz.f323, Tryz.f324, Tryz.f325, Tryz.f326, Tryz.f327, Tryz.f328, Tryz.f329, Tryz.f330, Tryz.f331, Tryz.f332, Tryz.f333, Tryz.f334, Tryz.f335, Tryz.f336, Tryz.f337, Tryz.f338, Tryz.f339, Tryz.f340, Tryz.f341, Tryz.f342, Tryz.f343, Tryz.f344, Tryz.f345, Tryz.f346, Tryz.f347, Tryz.f348, Tryz.f349, Tryz.f350, Tryz.f351, Tryz.f352, Tryz.f353, Tryz.f354, Tryz.f355, Tryz.f356, Tryz.f357, Tryz.f358, Tryz.f359, Tryz.f360] := by kernel_rfl
theorem mc {α β : Type} {g : α → β} {a : α} {b : β} {l : List α} {m : List β} (h : g a = b) (k : l.map g = m) : (a :: l).map g = b :: m := by rw [List.map_cons, h, k]
theorem rowsAll : Tryz.prog.funcs.toList.map (fnRow Tryz.prog) = rowsT := by
  rw [funcsL]
  exact mc row0 (mc row1 (mc row2 (mc row3 (mc row4 (mc row5 (mc row6 (mc row7 (mc row8 (mc row9 (mc row10 (mc row11 (mc row12 (mc row13 (mc row14 (mc row15 (mc row16 (mc row17 (mc row18 (mc row19 (mc row20 (mc row21 (mc row22 (mc row23 (mc row24 (mc row25 (mc row26 (mc row27 (mc row28 (mc row29 (mc row30 (mc row31 (mc row32 (mc row33 (mc row34 (mc row35 (mc row36 (mc row37 (mc row38 (mc row39 (mc row40 (mc row41 (mc row42 (mc row43 (mc row44 (mc row45 (mc row46 (mc row47 (mc row48 (mc row49 (mc row50 (mc row51 (mc row52 (mc row53 (mc row54 (mc row55 (mc row56 (mc row57 (mc row58 (mc row59 (mc row60 (mc row61 (mc row62 (mc row63 (mc row64 (mc row65 (mc row66 (mc row67 (mc row68 (mc row69 (mc row70 (mc row71 (mc row72 (mc row73 (mc row74 (mc row75 (mc row76 (mc row77 (mc row78 (mc row79 (mc row80 (mc row81 (mc row82 (mc row83 (mc row84 (mc row85 (mc row86 (mc row87 (mc row88 (mc row89 (mc row90 (mc row91 (mc row92 (mc row93 (mc row94 (mc row95 (mc row96 (mc row97 (mc row98 (mc row99 (mc row100 (mc row101 (mc row102 (mc row103 (mc row104 (mc row105 (mc row106 (mc row107 (mc row108 (mc row109 (mc row110 (mc row111 (mc row112 (mc row113 (mc row114 (mc row115 (mc row116 (mc row117 (mc row118 (mc row119 (mc row120 (mc row121 (mc row122 (mc row123 (mc row124 (mc row125 (mc row126 (mc row127 (mc row128 (mc row129 (mc row130 (mc row131 (mc row132 (mc row133 (mc row134 (mc row135 (mc row136 (mc row137 (mc row138 (mc row139 (mc row140 (mc row141 (mc row142 (mc row143 (mc row144 (mc row145 (mc row146 (mc row147 (mc row148 (mc row149 (mc row150 (mc row151 (mc row152 (mc row153 (mc row154 (mc row155 (mc row156 (mc row157 (mc row158 (mc row159 (mc row160 (mc row161 (mc row162 (mc row163 (mc row164 (mc row165 (mc row166 (mc row167 (mc row168 (mc row169 (mc row170 (mc row171 (mc row172 (mc row173 (mc row174 (mc row175 (mc row176 (mc row177 (mc row178 (mc row179 (mc row180 (mc row181 (mc row182 (mc row183 (mc row184 (mc row185 (mc row186 (mc row187 (mc row188 (mc row189 (mc row190 (mc row191 (mc row192 (mc row193 (mc row194 (mc row195 (mc row196 (mc row197 (mc row198 (mc row199 (mc row200 (mc row201 (mc row202 (mc row203 (mc row204 (mc row205 (mc row206 (mc row207 (mc row208 (mc row209 (mc row210 (mc row211 (mc row212 (mc row213 (mc row214 (mc row215 (mc row216 (mc row217 (mc row218 (mc row219 (mc row220 (mc row221 (mc row222 (mc row223 (mc row224 (mc row225 (mc row226 (mc row227 (mc row228 (mc row229 (mc row230 (mc row231 (mc row232 (mc row233 (mc row234 (mc row235 (mc row236 (mc row237 (mc row238 (mc row239 (mc row240 (mc row241 (mc row242 (mc row243 (mc row244 (mc row245 (mc row246 (mc row247 (mc row248 (mc row249 (mc row250 (mc row251 (mc row252 (mc row253 (mc row254 (mc row255 (mc row256 (mc row257 (mc row258 (mc row259 (mc row260 (mc row261 (mc row262 (mc row263 (mc row264 (mc row265 (mc row266 (mc row267 (mc row268 (mc row269 (mc row270 (mc row271 (mc row272 (mc row273 (mc row274 (mc row275 (mc row276 (mc row277 (mc row278 (mc row279 (mc row280 (mc row281 (mc row282 (mc row283 (mc row284 (mc row285 (mc row286 (mc row287 (mc row288 (mc row289 (mc row290 (mc row291 (mc row292 (mc row293 (mc row294 (mc row295 (mc row296 (mc row297 (mc row298 (mc row299 (mc row300 (mc row301 (mc row302 (mc row303 (mc row304 (mc row305 (mc row306 (mc row307 (mc row308 (mc row309 (mc row310 (mc row311 (mc row312 (mc row313 (mc row314 (mc row315 (mc row316 (mc row317 (mc row318 (mc row319 (mc row320 (mc row321 (mc row322 (mc row323 (mc row324 (mc row325 (mc row326 (mc row327 (mc row328 (mc row329 (mc row330 (mc row331 (mc row332 (mc row333 (mc row334 (mc row335 (mc row336 (mc row337 (mc row338 (mc row339 (mc row340 (mc row341 (mc row342 (mc row343 (mc row344 (mc row345 (mc row346 (mc row347 (mc row348 (mc row349 (mc row350 (mc row351 (mc row352 (mc row353 (mc row354 (mc row355 (mc row356 (mc row357 (mc row358 (mc row359 (mc row360 rfl))))))))))))))))))))))))))))))))))))))))))))))))))))))))))))))))))))))))))))))))))))))))))))))))))))))))))))))))))))))))))))))))))))))))))))))))))))))))))))))))))))))))))))))))))))))))))))))))))))))))))))))))))))))))))))))))))))))))))))))))))))))))))))))))))))))))))))))))))))))))))))))))))))))))))))))))))))))))))))))))))))))))))))))))))))))))))))))))))))))))
def headC : List Nat := [104, 97, 114, 110, 101, 115, 115, 32, 97, 53, 55, 53, 48, 98, 98, 50, 48, 49, 102, 56, 102, 51, 56, 54, 98, 102, 102, 57, 53, 52, 54, 49, 51, 100, 57, 54, 50, 57, 57, 50, 101, 54, 55, 55, 100, 55, 48, 102, 53, 49, 97, 98, 53, 56, 51, 51, 99, 50, 55, 55, 53, 52, 100, 52, 57, 50, 98, 100, 48, 102, 98, 53, 32, 99, 117, 116, 32, 97, 116, 32, 108, 111, 111, 112, 46, 101, 120, 97, 109, 112, 108, 101, 47, 103, 48, 49, 50, 54, 53, 47, 108, 97, 119, 115, 46, 70, 110, 67, 111, 110, 115, 111, 108, 101, 87, 111, 114, 100, 115, 32, 108, 111, 111, 112, 46, 101, 120, 97, 109, 112, 108, 101, 47, 103, 48, 49, 50, 54, 53, 47, 108, 97, 119, 115, 46, 70, 110, 69, 120, 97, 99, 116, 82, 101, 112, 108, 97, 121, 76, 111, 103, 32, 108, 111, 111, 112, 46, 101, 120, 97, 109, 112, 108, 101, 47, 103, 48, 49, 50, 54, 53, 47, 108, 97, 119, 115, 46, 70, 110, 69, 120, 97, 99, 116, 69, 120, 101, 99, 117, 116, 101, 67, 111, 109, 109, 97, 110, 100, 32, 108, 111, 111, 112, 46, 101, 120, 97, 109, 112, 108, 101, 47, 103, 48, 49, 50, 54, 53, 47, 108, 97, 119, 115, 46, 70, 110, 69, 120, 97, 99, 116, 82, 117, 110, 83, 99, 114, 105, 112, 116, 32, 108, 111, 111, 112, 46, 101, 120, 97, 109, 112, 108, 101, 47, 103, 48, 49, 50, 54, 53, 47, 108, 97, 119, 115, 46, 70, 110, 67, 111, 110, 115, 111, 108, 101, 32, 108, 111, 111, 112, 46, 101, 120, 97, 109, 112, 108, 101, 47, 103, 48, 49, 50, 54, 53, 47, 108, 97, 119, 115, 46, 70, 110, 82, 101, 112, 108, 97, 121]
def headW : List (List Nat) := [[104, 97, 114, 110, 101, 115, 115], [97, 53, 55, 53, 48, 98, 98, 50, 48, 49, 102, 56, 102, 51, 56, 54, 98, 102, 102, 57, 53, 52, 54, 49, 51, 100, 57, 54, 50, 57, 57, 50, 101, 54, 55, 55, 100, 55, 48, 102, 53, 49, 97, 98, 53, 56, 51, 51, 99, 50, 55, 55, 53, 52, 100, 52, 57, 50, 98, 100, 48, 102, 98, 53], [99, 117, 116], [97, 116], [108, 111, 111, 112, 46, 101, 120, 97, 109, 112, 108, 101, 47, 103, 48, 49, 50, 54, 53, 47, 108, 97, 119, 115, 46, 70, 110, 67, 111, 110, 115, 111, 108, 101, 87, 111, 114, 100, 115], [108, 111, 111, 112, 46, 101, 120, 97, 109, 112, 108, 101, 47, 103, 48, 49, 50, 54, 53, 47, 108, 97, 119, 115, 46, 70, 110, 69, 120, 97, 99, 116, 82, 101, 112, 108, 97, 121, 76, 111, 103], [108, 111, 111, 112, 46, 101, 120, 97, 109, 112, 108, 101, 47, 103, 48, 49, 50, 54, 53, 47, 108, 97, 119, 115, 46, 70, 110, 69, 120, 97, 99, 116, 69, 120, 101, 99, 117, 116, 101, 67, 111, 109, 109, 97, 110, 100], [108, 111, 111, 112, 46, 101, 120, 97, 109, 112, 108, 101, 47, 103, 48, 49, 50, 54, 53, 47, 108, 97, 119, 115, 46, 70, 110, 69, 120, 97, 99, 116, 82, 117, 110, 83, 99, 114, 105, 112, 116], [108, 111, 111, 112, 46, 101, 120, 97, 109, 112, 108, 101, 47, 103, 48, 49, 50, 54, 53, 47, 108, 97, 119, 115, 46, 70, 110, 67, 111, 110, 115, 111, 108, 101], [108, 111, 111, 112, 46, 101, 120, 97, 109, 112, 108, 101, 47, 103, 48, 49, 50, 54, 53, 47, 108, 97, 119, 115, 46, 70, 110, 82, 101, 112, 108, 97, 121]]
theorem headEq : Tryz.prog.initOrder = String.ofList (headC.map Char.ofNat) := by kernel_rfl
theorem headWords : wordsSigns Tryz.prog.initOrder.toList = headW.map (fun l => l.map Char.ofNat) := by
  rw [headEq, String.toList_ofList]; kernel_rfl
def headR : List (List Nat) := headW.drop 3
theorem headB : behindMainWord (wordsSigns Tryz.prog.initOrder.toList) = String.toList (String.ofList ([99, 117, 116].map Char.ofNat)) :: headR.map (fun l => l.map Char.ofNat) := by
  rw [headWords, String.toList_ofList]; kernel_rfl
theorem cutW : String.ofList ([99, 117, 116].map Char.ofNat) = "cut" := by kernel_rfl
theorem headCut : behindMainWord (wordsSigns Tryz.prog.initOrder.toList) = "cut".toList :: headR.map (fun l => l.map Char.ofNat) := by rw [headB, cutW]
theorem stripCut (l : List (List Char)) : stripLifts liftWords ("cut".toList :: l) = ([], "cut".toList :: l) := by
  simp [stripLifts, liftWords]
theorem make_of {P : Program} {r : List (List Char)} (h : behindMainWord (wordsSigns P.initOrder.toList) = "cut".toList :: r) : P.make = some .cut := by
  unfold Program.make; rw [h]; simp
theorem lifts_of {P : Program} {r : List (List Char)} (h : behindMainWord (wordsSigns P.initOrder.toList) = "cut".toList :: r) : P.liftsFinal = false := by
  unfold Program.liftsFinal Program.headLifts; rw [h, stripCut]; simp
theorem may_of {P : Program} {r : List (List Char)} (h : behindMainWord (wordsSigns P.initOrder.toList) = "cut".toList :: r) (h1 : P.laysLater = false) (h2 : P.bearsReflect = false) (h3 : P.doorFits [] = true) : P.mayEnter = true := by
  unfold Program.mayEnter; rw [h]; simp only [stripCut]; rw [h1, h2, h3]; simp
theorem laysNot : Tryz.prog.laysLater = false := by kernel_rfl
theorem bearsNot : Tryz.prog.bearsReflect = false := by kernel_rfl
theorem doorOk : Tryz.prog.doorFits [] = true := by kernel_rfl
theorem factMay : Tryz.prog.mayEnter = true := may_of headCut laysNot bearsNot doorOk
theorem factLifts : Tryz.prog.liftsFinal = false := lifts_of headCut
theorem factMake : Tryz.prog.make = some .cut := make_of headCut
theorem and_mk {a b : Bool} (ha : a = true) (hb : b = true) : (a && b) = true := by rw [ha, hb]; rfl
end Go.Proofs.YtohgjfdbnkjefaaGreatDoor