/- What each function of the program names, a row a function: so the closed facts of a row about what its function reaches are reckoned from a small table. -/
import Derived.Test.YtahpknjligaliaaProg
import Derived.JoinedOf
import Derived.KernelRfl
namespace Go.Proofs.Ytahpknjligaliaa
set_option linter.unusedVariables false
set_option maxRecDepth 100000

abbrev FRow := List Nat × Option String × Bool × List Nat × Option String
def inPlaceAt (fn : Func) : Option String := if fn.ours || fn.body.isNone || fn.name == "runtime.NumGoroutine" then some fn.name else none
def fnRow (P : Program) (fn : Func) : FRow :=
  (P.leadsTo fn, inPlaceAt fn, (match fn.body with | some c => c.unfollowed | none => entryCalls fn), (fn.body.elim [] Code.globalsNamed), (if fn.body.isNone then entryReads.lookup fn.name else none))
def cvT (T : List FRow) : Nat → List Nat → List Nat → List Nat
  | 0, _, seen => seen.reverse
  | _, [], seen => seen.reverse
  | n + 1, f :: todo, seen => if seen.contains f then cvT T n todo seen else cvT T n ((T[f]?).elim [] (·.1) ++ todo) (f :: seen)
section
variable {P : Program} {T : List FRow}
theorem tab_at (hT : P.funcs.toList.map (fnRow P) = T) (k : Nat) : T[k]? = (P.funcs[k]?).map (fnRow P) := by
  rw [← hT, List.getElem?_map]; simp
theorem cvT_eq (hT : P.funcs.toList.map (fnRow P) = T) : ∀ (n : Nat) (todo seen : List Nat), P.closureVia n todo seen = cvT T n todo seen
  | 0, _, _ => by simp [Program.closureVia, cvT]
  | n + 1, [], _ => by simp [Program.closureVia, cvT]
  | n + 1, f :: todo, seen => by
    unfold Program.closureVia cvT
    rw [cvT_eq hT n, cvT_eq hT n, tab_at hT f]
    cases P.funcs[f]? <;> rfl
def closT (T : List FRow) (f : Nat) : List Nat := cvT T (1 + (T.map fun r => r.1.length + 1).sum) [f] []
theorem closT_eq (hT : P.funcs.toList.map (fnRow P) = T) (f : Nat) : P.closure f = closT T f := by
  unfold Program.closure closT
  rw [cvT_eq hT, ← hT, List.map_map]; rfl
theorem inPlaceT (hT : P.funcs.toList.map (fnRow P) = T) (f : Nat) : P.inPlace f = (closT T f).filterMap fun g => (T[g]?).bind (·.2.1) := by
  unfold Program.inPlace
  rw [closT_eq hT]
  congr 1; funext g
  rw [tab_at hT g]; cases P.funcs[g]? <;> rfl
theorem unfollowedT (hT : P.funcs.toList.map (fnRow P) = T) (f : Nat) : P.unfollowed f = (closT T f).any fun g => (T[g]?).any (·.2.2.1) := by
  unfold Program.unfollowed
  rw [closT_eq hT]
  congr 1; funext g
  rw [tab_at hT g]; cases P.funcs[g]? <;> rfl
theorem varsT (hT : P.funcs.toList.map (fnRow P) = T) (f : Nat) : P.varsNamed f =
    ((((closT T f).flatMap fun g => (T[g]?).elim [] (·.2.2.2.1)).eraseDups).filterMap (fun g => (P.globals[g]?).map (·.name)) ++ (closT T f).filterMap fun g => (T[g]?).bind (·.2.2.2.2)).eraseDups := by
  unfold Program.varsNamed
  rw [closT_eq hT]
  have e1 : (fun g : Nat => ((P.funcs[g]?).bind fun x : Func => x.body).elim [] Code.globalsNamed) = fun g : Nat => (T[g]?).elim [] fun x : FRow => x.2.2.2.1 := by
    funext g; rw [tab_at hT g]; cases P.funcs[g]? <;> rfl
  have e2 : (fun g : Nat => (P.funcs[g]?).bind fun fn : Func => if fn.body.isNone then entryReads.lookup fn.name else none) = fun g : Nat => (T[g]?).bind fun x : FRow => x.2.2.2.2 := by
    funext g; rw [tab_at hT g]; cases P.funcs[g]? <;> rfl
  rw [e1, e2]
theorem recursesEq (hT : P.funcs.toList.map (fnRow P) = T) (f : Nat) : P.recurses f = (((closT T f).any fun g => (T[g]?).any (·.2.2.1)) || (closT T f).any fun g => ((T[g]?).elim [] (·.1)).any fun h => (closT T h).contains g) := by
  unfold Program.recurses
  rw [unfollowedT hT, closT_eq hT]
  congr 1
  congr 1; funext g
  have e1 : ((P.funcs[g]?).elim [] P.leadsTo) = (T[g]?).elim [] fun x : FRow => x.1 := by
    rw [tab_at hT g]; cases P.funcs[g]? <;> rfl
  rw [e1]
  congr 1; funext h
  rw [closT_eq hT]
theorem recursesT {f : Nat} (h : P.unfollowed f = true) : P.recurses f = true := by unfold Program.recurses; rw [h]; rfl
end

theorem row0 : fnRow Try.prog Try.f0 = ([], some Try.f0.name, false, [], none) := by kernel_rfl
theorem row1 : fnRow Try.prog Try.f1 = ([], some Try.f1.name, false, [], none) := by kernel_rfl
theorem row2 : fnRow Try.prog Try.f2 = ([1], none, false, [], none) := by kernel_rfl
theorem row3 : fnRow Try.prog Try.f3 = ([27, 26, 27, 28, 29], none, false, [], none) := by kernel_rfl
theorem row4 : fnRow Try.prog Try.f4 = ([31, 32, 30, 31, 32, 33, 31, 34], none, false, [], none) := by kernel_rfl
theorem row5 : fnRow Try.prog Try.f5 = ([27, 35, 27, 36, 34, 37, 38, 27, 36, 34, 38], none, false, [], none) := by kernel_rfl
theorem row6 : fnRow Try.prog Try.f6 = ([27, 39, 27, 40, 34, 37, 38, 27, 40, 34, 38], none, false, [], none) := by kernel_rfl
theorem row7 : fnRow Try.prog Try.f7 = ([31, 41, 31, 42, 31, 34], none, false, [], none) := by kernel_rfl
theorem row8 : fnRow Try.prog Try.f8 = ([43, 44], none, false, [], none) := by kernel_rfl
theorem row9 : fnRow Try.prog Try.f9 = ([45, 46], none, false, [], none) := by kernel_rfl
theorem row10 : fnRow Try.prog Try.f10 = ([47, 49, 31, 48, 49, 31, 50, 49, 51, 31, 34], none, false, [], none) := by kernel_rfl
theorem row11 : fnRow Try.prog Try.f11 = ([53, 52, 53, 54, 55, 56, 57, 53, 54, 55, 57], none, false, [], none) := by kernel_rfl
theorem row12 : fnRow Try.prog Try.f12 = ([47, 49, 31, 58, 49, 31, 59, 34, 49, 51, 31, 34, 60, 37, 34, 37, 38, 49, 31, 59, 34, 38], none, false, [], none) := by kernel_rfl
theorem row13 : fnRow Try.prog Try.f13 = ([61, 63, 62, 63, 64], none, false, [], none) := by kernel_rfl
theorem row14 : fnRow Try.prog Try.f14 = ([65, 66, 67], none, false, [], none) := by kernel_rfl
theorem row15 : fnRow Try.prog Try.f15 = ([68, 69, 67], none, false, [], none) := by kernel_rfl
theorem row16 : fnRow Try.prog Try.f16 = ([31, 31, 70, 31, 31, 71, 51, 31, 34, 31, 34, 37, 37, 51, 60, 72, 31, 31, 71, 51, 72], none, false, [], none) := by kernel_rfl
theorem row17 : fnRow Try.prog Try.f17 = ([73, 74, 67], none, false, [], none) := by kernel_rfl
theorem row18 : fnRow Try.prog Try.f18 = ([75, 76, 67], none, false, [], none) := by kernel_rfl
theorem row19 : fnRow Try.prog Try.f19 = ([31, 77, 31, 78, 79, 31, 34, 37, 79, 80, 81, 31, 78, 79, 81], none, false, [], none) := by kernel_rfl
theorem row20 : fnRow Try.prog Try.f20 = ([31, 82, 31, 83, 79, 31, 34, 37, 79, 80, 81, 31, 83, 79, 81], none, false, [], none) := by kernel_rfl
theorem row21 : fnRow Try.prog Try.f21 = ([84, 85, 67], none, false, [], none) := by kernel_rfl
theorem row22 : fnRow Try.prog Try.f22 = ([31, 31, 86, 31, 31, 87, 79, 31, 34, 31, 34, 37, 37, 79, 80, 81, 31, 31, 87, 79, 81], none, false, [], none) := by kernel_rfl
theorem row23 : fnRow Try.prog Try.f23 = ([47, 49, 31, 88, 49, 31, 89, 34, 49, 51, 31, 34, 60, 37, 34, 37, 38, 49, 31, 89, 34, 38], none, false, [], none) := by kernel_rfl
theorem row24 : fnRow Try.prog Try.f24 = ([27, 91, 90, 27, 91, 92, 93], none, false, [], none) := by kernel_rfl
theorem row25 : fnRow Try.prog Try.f25 = ([94, 27, 96, 95, 96, 27, 97, 93, 96, 98], none, false, [], none) := by kernel_rfl
theorem row26 : fnRow Try.prog Try.f26 = ([99], none, false, [], none) := by kernel_rfl
theorem row27 : fnRow Try.prog Try.f27 = ([100, 100, 100], none, false, [], none) := by kernel_rfl
theorem row28 : fnRow Try.prog Try.f28 = ([101], none, false, [], none) := by kernel_rfl
theorem row29 : fnRow Try.prog Try.f29 = ([93, 102], none, false, [], none) := by kernel_rfl
theorem row30 : fnRow Try.prog Try.f30 = ([103, 104, 105, 106], none, false, [], none) := by kernel_rfl
theorem row31 : fnRow Try.prog Try.f31 = ([], none, false, [], none) := by kernel_rfl
theorem row32 : fnRow Try.prog Try.f32 = ([], none, false, [], none) := by kernel_rfl
theorem row33 : fnRow Try.prog Try.f33 = ([107, 108, 109], none, false, [], none) := by kernel_rfl
theorem row34 : fnRow Try.prog Try.f34 = ([], none, false, [], none) := by kernel_rfl
theorem row35 : fnRow Try.prog Try.f35 = ([99, 110], none, false, [], none) := by kernel_rfl
theorem row36 : fnRow Try.prog Try.f36 = ([101, 111], none, false, [], none) := by kernel_rfl
theorem row37 : fnRow Try.prog Try.f37 = ([], none, false, [], none) := by kernel_rfl
theorem row38 : fnRow Try.prog Try.f38 = ([], none, false, [], none) := by kernel_rfl
theorem row39 : fnRow Try.prog Try.f39 = ([99, 110], none, false, [], none) := by kernel_rfl
theorem row40 : fnRow Try.prog Try.f40 = ([101, 112], none, false, [], none) := by kernel_rfl
theorem row41 : fnRow Try.prog Try.f41 = ([103, 113], none, false, [], none) := by kernel_rfl
theorem row42 : fnRow Try.prog Try.f42 = ([107, 114], none, false, [], none) := by kernel_rfl
theorem row43 : fnRow Try.prog Try.f43 = ([115, 116, 117, 118], none, false, [], none) := by kernel_rfl
theorem row44 : fnRow Try.prog Try.f44 = ([119, 120, 121, 122], none, false, [], none) := by kernel_rfl
theorem row45 : fnRow Try.prog Try.f45 = ([115, 124, 123, 113], none, false, [], none) := by kernel_rfl
theorem row46 : fnRow Try.prog Try.f46 = ([119, 126, 127, 125], none, false, [], none) := by kernel_rfl
theorem row47 : fnRow Try.prog Try.f47 = ([], none, false, [], none) := by kernel_rfl
theorem row48 : fnRow Try.prog Try.f48 = ([128, 129], none, false, [], none) := by kernel_rfl
theorem row49 : fnRow Try.prog Try.f49 = ([53], none, false, [], none) := by kernel_rfl
theorem row50 : fnRow Try.prog Try.f50 = ([130, 131], none, false, [], none) := by kernel_rfl
theorem row51 : fnRow Try.prog Try.f51 = ([132], none, false, [], none) := by kernel_rfl
theorem row52 : fnRow Try.prog Try.f52 = ([116, 118], none, false, [], none) := by kernel_rfl
theorem row53 : fnRow Try.prog Try.f53 = ([], none, false, [], none) := by kernel_rfl
theorem row54 : fnRow Try.prog Try.f54 = ([133, 135, 134, 136], none, false, [], none) := by kernel_rfl
theorem row55 : fnRow Try.prog Try.f55 = ([34], none, false, [], none) := by kernel_rfl
theorem row56 : fnRow Try.prog Try.f56 = ([37], none, false, [], none) := by kernel_rfl
theorem row57 : fnRow Try.prog Try.f57 = ([38], none, false, [], none) := by kernel_rfl
theorem row58 : fnRow Try.prog Try.f58 = ([128, 137], none, false, [], none) := by kernel_rfl
theorem row59 : fnRow Try.prog Try.f59 = ([130, 138], none, false, [], none) := by kernel_rfl
theorem row60 : fnRow Try.prog Try.f60 = ([], none, false, [], none) := by kernel_rfl
theorem row61 : fnRow Try.prog Try.f61 = ([], none, false, [], none) := by kernel_rfl
theorem row62 : fnRow Try.prog Try.f62 = ([139], none, false, [], none) := by kernel_rfl
theorem row63 : fnRow Try.prog Try.f63 = ([], none, false, [], none) := by kernel_rfl
theorem row64 : fnRow Try.prog Try.f64 = ([140, 141], none, false, [], none) := by kernel_rfl
theorem row65 : fnRow Try.prog Try.f65 = ([115, 142, 143], none, false, [], none) := by kernel_rfl
theorem row66 : fnRow Try.prog Try.f66 = ([144, 145, 146], none, false, [], none) := by kernel_rfl
theorem row67 : fnRow Try.prog Try.f67 = ([], none, false, [], none) := by kernel_rfl
theorem row68 : fnRow Try.prog Try.f68 = ([115, 147, 149, 148, 143], none, false, [], none) := by kernel_rfl
theorem row69 : fnRow Try.prog Try.f69 = ([150, 151, 146], none, false, [], none) := by kernel_rfl
theorem row70 : fnRow Try.prog Try.f70 = ([153, 116, 154], none, false, [], none) := by kernel_rfl
theorem row71 : fnRow Try.prog Try.f71 = ([119, 155, 156, 155, 157, 158, 120, 160, 159], none, false, [], none) := by kernel_rfl
theorem row72 : fnRow Try.prog Try.f72 = ([], none, false, [], none) := by kernel_rfl
theorem row73 : fnRow Try.prog Try.f73 = ([115, 142, 143], none, false, [], none) := by kernel_rfl
theorem row74 : fnRow Try.prog Try.f74 = ([144, 161, 146], none, false, [], none) := by kernel_rfl
theorem row75 : fnRow Try.prog Try.f75 = ([115, 147, 149, 113, 143], none, false, [], none) := by kernel_rfl
theorem row76 : fnRow Try.prog Try.f76 = ([150, 162, 146], none, false, [], none) := by kernel_rfl
theorem row77 : fnRow Try.prog Try.f77 = ([103, 148], none, false, [], none) := by kernel_rfl
theorem row78 : fnRow Try.prog Try.f78 = ([107, 164, 163], none, false, [], none) := by kernel_rfl
theorem row79 : fnRow Try.prog Try.f79 = ([165], none, false, [], none) := by kernel_rfl
theorem row80 : fnRow Try.prog Try.f80 = ([], none, false, [], none) := by kernel_rfl
theorem row81 : fnRow Try.prog Try.f81 = ([], none, false, [], none) := by kernel_rfl
theorem row82 : fnRow Try.prog Try.f82 = ([103, 148], none, false, [], none) := by kernel_rfl
theorem row83 : fnRow Try.prog Try.f83 = ([107, 152], none, false, [], none) := by kernel_rfl
theorem row84 : fnRow Try.prog Try.f84 = ([115, 142, 143], none, false, [], none) := by kernel_rfl
theorem row85 : fnRow Try.prog Try.f85 = ([144, 166, 146], none, false, [], none) := by kernel_rfl
theorem row86 : fnRow Try.prog Try.f86 = ([103, 168, 169, 170, 154], none, false, [], none) := by kernel_rfl
theorem row87 : fnRow Try.prog Try.f87 = ([107, 155, 157, 171, 163], none, false, [], none) := by kernel_rfl
theorem row88 : fnRow Try.prog Try.f88 = ([128, 129], none, false, [], none) := by kernel_rfl
theorem row89 : fnRow Try.prog Try.f89 = ([50, 131], none, false, [], none) := by kernel_rfl
theorem row90 : fnRow Try.prog Try.f90 = ([99, 173], none, false, [], none) := by kernel_rfl
theorem row91 : fnRow Try.prog Try.f91 = ([], none, false, [], none) := by kernel_rfl
theorem row92 : fnRow Try.prog Try.f92 = ([101, 174, 175], none, false, [], none) := by kernel_rfl
theorem row93 : fnRow Try.prog Try.f93 = ([176, 176, 176], none, false, [], none) := by kernel_rfl
theorem row94 : fnRow Try.prog Try.f94 = ([], none, false, [], none) := by kernel_rfl
theorem row95 : fnRow Try.prog Try.f95 = ([99, 173], none, false, [], none) := by kernel_rfl
theorem row96 : fnRow Try.prog Try.f96 = ([91], none, false, [], none) := by kernel_rfl
theorem row97 : fnRow Try.prog Try.f97 = ([101, 174, 175], none, false, [], none) := by kernel_rfl
theorem row98 : fnRow Try.prog Try.f98 = ([177], none, false, [], none) := by kernel_rfl
theorem row99 : fnRow Try.prog Try.f99 = ([168, 178, 116, 115], none, false, [], none) := by kernel_rfl
theorem row100 : fnRow Try.prog Try.f100 = ([], none, false, [], none) := by kernel_rfl
theorem row101 : fnRow Try.prog Try.f101 = ([179, 181, 180, 133, 119], none, false, [], none) := by kernel_rfl
theorem row102 : fnRow Try.prog Try.f102 = ([], none, false, [], none) := by kernel_rfl
theorem row103 : fnRow Try.prog Try.f103 = ([115], none, false, [], none) := by kernel_rfl
theorem row104 : fnRow Try.prog Try.f104 = ([115, 115], none, false, [], none) := by kernel_rfl
theorem row105 : fnRow Try.prog Try.f105 = ([170, 182, 137], none, false, [], none) := by kernel_rfl
theorem row106 : fnRow Try.prog Try.f106 = ([], none, false, [], none) := by kernel_rfl
theorem row107 : fnRow Try.prog Try.f107 = ([155, 156], none, false, [], none) := by kernel_rfl
theorem row108 : fnRow Try.prog Try.f108 = ([119, 119], none, false, [], none) := by kernel_rfl
theorem row109 : fnRow Try.prog Try.f109 = ([172, 184, 183], none, false, [], none) := by kernel_rfl
theorem row110 : fnRow Try.prog Try.f110 = ([178, 137], none, false, [], none) := by kernel_rfl
theorem row111 : fnRow Try.prog Try.f111 = ([185, 138], none, false, [], none) := by kernel_rfl
theorem row112 : fnRow Try.prog Try.f112 = ([], none, false, [], none) := by kernel_rfl
theorem row113 : fnRow Try.prog Try.f113 = ([148], none, false, [], none) := by kernel_rfl
theorem row114 : fnRow Try.prog Try.f114 = ([152], none, false, [], none) := by kernel_rfl
theorem row115 : fnRow Try.prog Try.f115 = ([], none, false, [], none) := by kernel_rfl
theorem row116 : fnRow Try.prog Try.f116 = ([168, 168], none, false, [], none) := by kernel_rfl
theorem row117 : fnRow Try.prog Try.f117 = ([186, 186], none, false, [], none) := by kernel_rfl
theorem row118 : fnRow Try.prog Try.f118 = ([182, 137, 129], none, false, [], none) := by kernel_rfl
theorem row119 : fnRow Try.prog Try.f119 = ([], none, false, [], none) := by kernel_rfl
theorem row120 : fnRow Try.prog Try.f120 = ([], none, false, [], none) := by kernel_rfl
theorem row121 : fnRow Try.prog Try.f121 = ([187], none, false, [], none) := by kernel_rfl
theorem row122 : fnRow Try.prog Try.f122 = ([135], none, false, [], none) := by kernel_rfl
theorem row123 : fnRow Try.prog Try.f123 = ([188], none, false, [], none) := by kernel_rfl
theorem row124 : fnRow Try.prog Try.f124 = ([], none, false, [], none) := by kernel_rfl
theorem row125 : fnRow Try.prog Try.f125 = ([189], none, true, [], none) := by kernel_rfl
theorem row126 : fnRow Try.prog Try.f126 = ([], none, false, [], none) := by kernel_rfl
theorem row127 : fnRow Try.prog Try.f127 = ([114], none, false, [], none) := by kernel_rfl
theorem row128 : fnRow Try.prog Try.f128 = ([190, 116], none, false, [], none) := by kernel_rfl
theorem row129 : fnRow Try.prog Try.f129 = ([182, 137], none, false, [], none) := by kernel_rfl
theorem row130 : fnRow Try.prog Try.f130 = ([179, 180, 133], none, false, [], none) := by kernel_rfl
theorem row131 : fnRow Try.prog Try.f131 = ([158, 138], none, false, [], none) := by kernel_rfl
theorem row132 : fnRow Try.prog Try.f132 = ([], none, false, [], none) := by kernel_rfl
theorem row133 : fnRow Try.prog Try.f133 = ([157, 157], none, false, [], none) := by kernel_rfl
theorem row134 : fnRow Try.prog Try.f134 = ([191], none, true, [], none) := by kernel_rfl
theorem row135 : fnRow Try.prog Try.f135 = ([158, 138, 131], none, false, [], none) := by kernel_rfl
theorem row136 : fnRow Try.prog Try.f136 = ([], none, false, [], none) := by kernel_rfl
theorem row137 : fnRow Try.prog Try.f137 = ([], none, false, [], none) := by kernel_rfl
theorem row138 : fnRow Try.prog Try.f138 = ([], none, false, [], none) := by kernel_rfl
theorem row139 : fnRow Try.prog Try.f139 = ([192, 193, 192], none, false, [], none) := by kernel_rfl
theorem row140 : fnRow Try.prog Try.f140 = ([119, 141, 194], none, false, [], none) := by kernel_rfl
theorem row141 : fnRow Try.prog Try.f141 = ([119], none, false, [], none) := by kernel_rfl
theorem row142 : fnRow Try.prog Try.f142 = ([186, 118], none, false, [], none) := by kernel_rfl
theorem row143 : fnRow Try.prog Try.f143 = ([106, 106], none, false, [], none) := by kernel_rfl
theorem row144 : fnRow Try.prog Try.f144 = ([121, 119], none, true, [], none) := by kernel_rfl
theorem row145 : fnRow Try.prog Try.f145 = ([135], none, false, [], none) := by kernel_rfl
theorem row146 : fnRow Try.prog Try.f146 = ([], none, false, [], none) := by kernel_rfl
theorem row147 : fnRow Try.prog Try.f147 = ([], none, false, [], none) := by kernel_rfl
theorem row148 : fnRow Try.prog Try.f148 = ([169, 105], none, false, [], none) := by kernel_rfl
theorem row149 : fnRow Try.prog Try.f149 = ([], none, false, [], none) := by kernel_rfl
theorem row150 : fnRow Try.prog Try.f150 = ([119, 195], none, true, [], none) := by kernel_rfl
theorem row151 : fnRow Try.prog Try.f151 = ([152], none, false, [], none) := by kernel_rfl
theorem row152 : fnRow Try.prog Try.f152 = ([196, 163], none, false, [], none) := by kernel_rfl
theorem row153 : fnRow Try.prog Try.f153 = ([115, 115, 168], none, false, [], none) := by kernel_rfl
theorem row154 : fnRow Try.prog Try.f154 = ([182, 137], none, false, [], none) := by kernel_rfl
theorem row155 : fnRow Try.prog Try.f155 = ([198, 197], none, false, [], none) := by kernel_rfl
theorem row156 : fnRow Try.prog Try.f156 = ([119], none, false, [], none) := by kernel_rfl
theorem row157 : fnRow Try.prog Try.f157 = ([119], none, false, [], none) := by kernel_rfl
theorem row158 : fnRow Try.prog Try.f158 = ([], none, false, [], none) := by kernel_rfl
theorem row159 : fnRow Try.prog Try.f159 = ([199], none, true, [], none) := by kernel_rfl
theorem row160 : fnRow Try.prog Try.f160 = ([138], none, false, [], none) := by kernel_rfl
theorem row161 : fnRow Try.prog Try.f161 = ([122], none, false, [], none) := by kernel_rfl
theorem row162 : fnRow Try.prog Try.f162 = ([114], none, false, [], none) := by kernel_rfl
theorem row163 : fnRow Try.prog Try.f163 = ([108], none, true, [], none) := by kernel_rfl
theorem row164 : fnRow Try.prog Try.f164 = ([109], none, false, [], none) := by kernel_rfl
theorem row165 : fnRow Try.prog Try.f165 = ([], none, false, [], none) := by kernel_rfl
theorem row166 : fnRow Try.prog Try.f166 = ([167], none, false, [], none) := by kernel_rfl
theorem row167 : fnRow Try.prog Try.f167 = ([133, 135], none, false, [], none) := by kernel_rfl
theorem row168 : fnRow Try.prog Try.f168 = ([115], none, false, [], none) := by kernel_rfl
theorem row169 : fnRow Try.prog Try.f169 = ([], none, false, [], none) := by kernel_rfl
theorem row170 : fnRow Try.prog Try.f170 = ([], none, false, [], none) := by kernel_rfl
theorem row171 : fnRow Try.prog Try.f171 = ([172, 158, 138], none, false, [], none) := by kernel_rfl
theorem row172 : fnRow Try.prog Try.f172 = ([], none, false, [], none) := by kernel_rfl
theorem row173 : fnRow Try.prog Try.f173 = ([200, 99], none, false, [], none) := by kernel_rfl
theorem row174 : fnRow Try.prog Try.f174 = ([119, 156, 119, 119, 185], none, false, [], none) := by kernel_rfl
theorem row175 : fnRow Try.prog Try.f175 = ([158, 201, 202, 201, 203], none, false, [], none) := by kernel_rfl
theorem row176 : fnRow Try.prog Try.f176 = ([], none, false, [], none) := by kernel_rfl
theorem row177 : fnRow Try.prog Try.f177 = ([], none, false, [], none) := by kernel_rfl
theorem row178 : fnRow Try.prog Try.f178 = ([], none, false, [], none) := by kernel_rfl
theorem row179 : fnRow Try.prog Try.f179 = ([155, 157], none, false, [], none) := by kernel_rfl
theorem row180 : fnRow Try.prog Try.f180 = ([205, 204], none, false, [], none) := by kernel_rfl
theorem row181 : fnRow Try.prog Try.f181 = ([185], none, false, [], none) := by kernel_rfl
theorem row182 : fnRow Try.prog Try.f182 = ([], none, false, [], none) := by kernel_rfl
theorem row183 : fnRow Try.prog Try.f183 = ([], none, true, [], none) := by kernel_rfl
theorem row184 : fnRow Try.prog Try.f184 = ([158, 138, 158], none, false, [], none) := by kernel_rfl
theorem row185 : fnRow Try.prog Try.f185 = ([], none, false, [], none) := by kernel_rfl
theorem row186 : fnRow Try.prog Try.f186 = ([], none, false, [], none) := by kernel_rfl
theorem row187 : fnRow Try.prog Try.f187 = ([206, 207], none, false, [], none) := by kernel_rfl
theorem row188 : fnRow Try.prog Try.f188 = ([], none, false, [], none) := by kernel_rfl
theorem row189 : fnRow Try.prog Try.f189 = ([112], none, true, [], none) := by kernel_rfl
theorem row190 : fnRow Try.prog Try.f190 = ([168], none, false, [], none) := by kernel_rfl
theorem row191 : fnRow Try.prog Try.f191 = ([], none, true, [], none) := by kernel_rfl
theorem row192 : fnRow Try.prog Try.f192 = ([115], none, false, [], none) := by kernel_rfl
theorem row193 : fnRow Try.prog Try.f193 = ([], none, false, [], none) := by kernel_rfl
theorem row194 : fnRow Try.prog Try.f194 = ([208], none, false, [], none) := by kernel_rfl
theorem row195 : fnRow Try.prog Try.f195 = ([], none, false, [], none) := by kernel_rfl
theorem row196 : fnRow Try.prog Try.f196 = ([109], none, false, [], none) := by kernel_rfl
theorem row197 : fnRow Try.prog Try.f197 = ([183], none, false, [], none) := by kernel_rfl
theorem row198 : fnRow Try.prog Try.f198 = ([], none, true, [], none) := by kernel_rfl
theorem row199 : fnRow Try.prog Try.f199 = ([], none, true, [], none) := by kernel_rfl
theorem row200 : fnRow Try.prog Try.f200 = ([115, 115, 182, 209, 210], none, false, [], none) := by kernel_rfl
theorem row201 : fnRow Try.prog Try.f201 = ([], none, true, [], none) := by kernel_rfl
theorem row202 : fnRow Try.prog Try.f202 = ([211], none, false, [], none) := by kernel_rfl
theorem row203 : fnRow Try.prog Try.f203 = ([211], none, false, [], none) := by kernel_rfl
theorem row204 : fnRow Try.prog Try.f204 = ([199], none, false, [], none) := by kernel_rfl
theorem row205 : fnRow Try.prog Try.f205 = ([], none, true, [], none) := by kernel_rfl
theorem row206 : fnRow Try.prog Try.f206 = ([], none, false, [], none) := by kernel_rfl
theorem row207 : fnRow Try.prog Try.f207 = ([], none, false, [], none) := by kernel_rfl
theorem row208 : fnRow Try.prog Try.f208 = ([212], none, false, [], none) := by kernel_rfl
theorem row209 : fnRow Try.prog Try.f209 = ([115], none, false, [], none) := by kernel_rfl
theorem row210 : fnRow Try.prog Try.f210 = ([213, 213, 213, 214, 214, 214], none, false, [], none) := by kernel_rfl
theorem row211 : fnRow Try.prog Try.f211 = ([], none, false, [], none) := by kernel_rfl
theorem row212 : fnRow Try.prog Try.f212 = ([215, 216, 215, 217, 216, 218], none, false, [0, 0, 0], none) := by kernel_rfl
theorem row213 : fnRow Try.prog Try.f213 = ([219], none, false, [], none) := by kernel_rfl
theorem row214 : fnRow Try.prog Try.f214 = ([219], none, false, [], none) := by kernel_rfl
theorem row215 : fnRow Try.prog Try.f215 = ([220], none, false, [], none) := by kernel_rfl
theorem row216 : fnRow Try.prog Try.f216 = ([], some Try.f216.name, false, [], entryReads.lookup Try.f216.name) := by kernel_rfl
theorem row217 : fnRow Try.prog Try.f217 = ([], none, false, [], none) := by kernel_rfl
theorem row218 : fnRow Try.prog Try.f218 = ([221], none, false, [], none) := by kernel_rfl
theorem row219 : fnRow Try.prog Try.f219 = ([], none, false, [], none) := by kernel_rfl
theorem row220 : fnRow Try.prog Try.f220 = ([], some Try.f220.name, false, [], none) := by kernel_rfl
theorem row221 : fnRow Try.prog Try.f221 = ([], none, false, [], none) := by kernel_rfl
theorem row222 : fnRow Try.prog Try.f222 = ([], some Try.f222.name, false, [], none) := by kernel_rfl
theorem row223 : fnRow Try.prog Try.f223 = ([], some Try.f223.name, false, [], none) := by kernel_rfl
theorem row224 : fnRow Try.prog Try.f224 = ([], some Try.f224.name, false, [], none) := by kernel_rfl
theorem row225 : fnRow Try.prog Try.f225 = ([], some Try.f225.name, false, [], none) := by kernel_rfl
theorem row226 : fnRow Try.prog Try.f226 = ([], some Try.f226.name, false, [], none) := by kernel_rfl
theorem row227 : fnRow Try.prog Try.f227 = ([], some Try.f227.name, false, [], none) := by kernel_rfl
theorem row228 : fnRow Try.prog Try.f228 = ([], some Try.f228.name, false, [], none) := by kernel_rfl
theorem row229 : fnRow Try.prog Try.f229 = ([], some Try.f229.name, false, [], none) := by kernel_rfl
theorem row230 : fnRow Try.prog Try.f230 = ([], some Try.f230.name, false, [], none) := by kernel_rfl
theorem row231 : fnRow Try.prog Try.f231 = ([], some Try.f231.name, false, [], none) := by kernel_rfl
theorem row232 : fnRow Try.prog Try.f232 = ([], some Try.f232.name, false, [], none) := by kernel_rfl
theorem row233 : fnRow Try.prog Try.f233 = ([], some Try.f233.name, false, [], none) := by kernel_rfl
theorem row234 : fnRow Try.prog Try.f234 = ([], some Try.f234.name, false, [], none) := by kernel_rfl
theorem row235 : fnRow Try.prog Try.f235 = ([], some Try.f235.name, false, [], none) := by kernel_rfl
theorem row236 : fnRow Try.prog Try.f236 = ([], some Try.f236.name, false, [], none) := by kernel_rfl
theorem row237 : fnRow Try.prog Try.f237 = ([], some Try.f237.name, false, [], none) := by kernel_rfl
noncomputable def rowsT : List FRow := [([], some Try.f0.name, false, [], none), ([], some Try.f1.name, false, [], none), ([1], none, false, [], none), ([27, 26, 27, 28, 29], none, false, [], none), ([31, 32, 30, 31, 32, 33, 31, 34], none, false, [], none), ([27, 35, 27, 36, 34, 37, 38, 27, 36, 34, 38], none, false, [], none), ([27, 39, 27, 40, 34, 37, 38, 27, 40, 34, 38], none, false, [], none), ([31, 41, 31, 42, 31, 34], none, false, [], none), ([43, 44], none, false, [], none), ([45, 46], none, false, [], none), ([47, 49, 31, 48, 49, 31, 50, 49, 51, 31, 34], none, false, [], none), ([53, 52, 53, 54, 55, 56, 57, 53, 54, 55, 57], none, false, [], none), ([47, 49, 31, 58, 49, 31, 59, 34, 49, 51, 31, 34, 60, 37, 34, 37, 38, 49, 31, 59, 34, 38], none, false, [], none), ([61, 63, 62, 63, 64], none, false, [], none), ([65, 66, 67], none, false, [], none), ([68, 69, 67], none, false, [], none), ([31, 31, 70, 31, 31, 71, 51, 31, 34, 31, 34, 37, 37, 51, 60, 72, 31, 31, 71, 51, 72], none, false, [], none), ([73, 74, 67], none, false, [], none), ([75, 76, 67], none, false, [], none), ([31, 77, 31, 78, 79, 31, 34, 37, 79, 80, 81, 31, 78, 79, 81], none, false, [], none), ([31, 82, 31, 83, 79, 31, 34, 37, 79, 80, 81, 31, 83, 79, 81], none, false, [], none), ([84, 85, 67], none, false, [], none), ([31, 31, 86, 31, 31, 87, 79, 31, 34, 31, 34, 37, 37, 79, 80, 81, 31, 31, 87, 79, 81], none, false, [], none), ([47, 49, 31, 88, 49, 31, 89, 34, 49, 51, 31, 34, 60, 37, 34, 37, 38, 49, 31, 89, 34, 38], none, false, [], none), ([27, 91, 90, 27, 91, 92, 93], none, false, [], none), ([94, 27, 96, 95, 96, 27, 97, 93, 96, 98], none, false, [], none), ([99], none, false, [], none), ([100, 100, 100], none, false, [], none), ([101], none, false, [], none), ([93, 102], none, false, [], none), ([103, 104, 105, 106], none, false, [], none), ([], none, false, [], none), ([], none, false, [], none), ([107, 108, 109], none, false, [], none), ([], none, false, [], none), ([99, 110], none, false, [], none), ([101, 111], none, false, [], none), ([], none, false, [], none), ([], none, false, [], none), ([99, 110], none, false, [], none), ([101, 112], none, false, [], none), ([103, 113], none, false, [], none), ([107, 114], none, false, [], none), ([115, 116, 117, 118], none, false, [], none), ([119, 120, 121, 122], none, false, [], none), ([115, 124, 123, 113], none, false, [], none), ([119, 126, 127, 125], none, false, [], none), ([], none, false, [], none), ([128, 129], none, false, [], none), ([53], none, false, [], none), ([130, 131], none, false, [], none), ([132], none, false, [], none), ([116, 118], none, false, [], none), ([], none, false, [], none), ([133, 135, 134, 136], none, false, [], none), ([34], none, false, [], none), ([37], none, false, [], none), ([38], none, false, [], none), ([128, 137], none, false, [], none), ([130, 138], none, false, [], none), ([], none, false, [], none), ([], none, false, [], none), ([139], none, false, [], none), ([], none, false, [], none), ([140, 141], none, false, [], none), ([115, 142, 143], none, false, [], none), ([144, 145, 146], none, false, [], none), ([], none, false, [], none), ([115, 147, 149, 148, 143], none, false, [], none), ([150, 151, 146], none, false, [], none), ([153, 116, 154], none, false, [], none), ([119, 155, 156, 155, 157, 158, 120, 160, 159], none, false, [], none), ([], none, false, [], none), ([115, 142, 143], none, false, [], none), ([144, 161, 146], none, false, [], none), ([115, 147, 149, 113, 143], none, false, [], none), ([150, 162, 146], none, false, [], none), ([103, 148], none, false, [], none), ([107, 164, 163], none, false, [], none), ([165], none, false, [], none), ([], none, false, [], none), ([], none, false, [], none), ([103, 148], none, false, [], none), ([107, 152], none, false, [], none), ([115, 142, 143], none, false, [], none), ([144, 166, 146], none, false, [], none), ([103, 168, 169, 170, 154], none, false, [], none), ([107, 155, 157, 171, 163], none, false, [], none), ([128, 129], none, false, [], none), ([50, 131], none, false, [], none), ([99, 173], none, false, [], none), ([], none, false, [], none), ([101, 174, 175], none, false, [], none), ([176, 176, 176], none, false, [], none), ([], none, false, [], none), ([99, 173], none, false, [], none), ([91], none, false, [], none), ([101, 174, 175], none, false, [], none), ([177], none, false, [], none), ([168, 178, 116, 115], none, false, [], none), ([], none, false, [], none), ([179, 181, 180, 133, 119], none, false, [], none), ([], none, false, [], none), ([115], none, false, [], none), ([115, 115], none, false, [], none), ([170, 182, 137], none, false, [], none), ([], none, false, [], none), ([155, 156], none, false, [], none), ([119, 119], none, false, [], none), ([172, 184, 183], none, false, [], none), ([178, 137], none, false, [], none), ([185, 138], none, false, [], none), ([], none, false, [], none), ([148], none, false, [], none), ([152], none, false, [], none), ([], none, false, [], none), ([168, 168], none, false, [], none), ([186, 186], none, false, [], none), ([182, 137, 129], none, false, [], none), ([], none, false, [], none), ([], none, false, [], none), ([187], none, false, [], none), ([135], none, false, [], none), ([188], none, false, [], none), ([], none, false, [], none), ([189], none, true, [], none), ([], none, false, [], none), ([114], none, false, [], none), ([190, 116], none, false, [], none), ([182, 137], none, false, [], none), ([179, 180, 133], none, false, [], none), ([158, 138], none, false, [], none), ([], none, false, [], none), ([157, 157], none, false, [], none), ([191], none, true, [], none), ([158, 138, 131], none, false, [], none), ([], none, false, [], none), ([], none, false, [], none), ([], none, false, [], none), ([192, 193, 192], none, false, [], none), ([119, 141, 194], none, false, [], none), ([119], none, false, [], none), ([186, 118], none, false, [], none), ([106, 106], none, false, [], none), ([121, 119], none, true, [], none), ([135], none, false, [], none), ([], none, false, [], none), ([], none, false, [], none), ([169, 105], none, false, [], none), ([], none, false, [], none), ([119, 195], none, true, [], none), ([152], none, false, [], none), ([196, 163], none, false, [], none), ([115, 115, 168], none, false, [], none), ([182, 137], none, false, [], none), ([198, 197], none, false, [], none), ([119], none, false, [], none), ([119], none, false, [], none), ([], none, false, [], none), ([199], none, true, [], none), ([138], none, false, [], none), ([122], none, false, [], none), ([114], none, false, [], none), ([108], none, true, [], none), ([109], none, false, [], none), ([], none, false, [], none), ([167], none, false, [], none), ([133, 135], none, false, [], none), ([115], none, false, [], none), ([], none, false, [], none), ([], none, false, [], none), ([172, 158, 138], none, false, [], none), ([], none, false, [], none), ([200, 99], none, false, [], none), ([119, 156, 119, 119, 185], none, false, [], none), ([158, 201, 202, 201, 203], none, false, [], none), ([], none, false, [], none), ([], none, false, [], none), ([], none, false, [], none), ([155, 157], none, false, [], none), ([205, 204], none, false, [], none), ([185], none, false, [], none), ([], none, false, [], none), ([], none, true, [], none), ([158, 138, 158], none, false, [], none), ([], none, false, [], none), ([], none, false, [], none), ([206, 207], none, false, [], none), ([], none, false, [], none), ([112], none, true, [], none), ([168], none, false, [], none), ([], none, true, [], none), ([115], none, false, [], none), ([], none, false, [], none), ([208], none, false, [], none), ([], none, false, [], none), ([109], none, false, [], none), ([183], none, false, [], none), ([], none, true, [], none), ([], none, true, [], none), ([115, 115, 182, 209, 210], none, false, [], none), ([], none, true, [], none), ([211], none, false, [], none), ([211], none, false, [], none), ([199], none, false, [], none), ([], none, true, [], none), ([], none, false, [], none), ([], none, false, [], none), ([212], none, false, [], none), ([115], none, false, [], none), ([213, 213, 213, 214, 214, 214], none, false, [], none), ([], none, false, [], none), ([215, 216, 215, 217, 216, 218], none, false, [0, 0, 0], none), ([219], none, false, [], none), ([219], none, false, [], none), ([220], none, false, [], none), ([], some Try.f216.name, false, [], entryReads.lookup Try.f216.name), ([], none, false, [], none), ([221], none, false, [], none), ([], none, false, [], none), ([], some Try.f220.name, false, [], none), ([], none, false, [], none), ([], some Try.f222.name, false, [], none), ([], some Try.f223.name, false, [], none), ([], some Try.f224.name, false, [], none), ([], some Try.f225.name, false, [], none), ([], some Try.f226.name, false, [], none), ([], some Try.f227.name, false, [], none), ([], some Try.f228.name, false, [], none), ([], some Try.f229.name, false, [], none), ([], some Try.f230.name, false, [], none), ([], some Try.f231.name, false, [], none), ([], some Try.f232.name, false, [], none), ([], some Try.f233.name, false, [], none), ([], some Try.f234.name, false, [], none), ([], some Try.f235.name, false, [], none), ([], some Try.f236.name, false, [], none), ([], some Try.f237.name, false, [], none)]
theorem funcsL : Try.prog.funcs.toList = [Try.f0, Try.f1, Try.f2, Try.f3, Try.f4, Try.f5, Try.f6, Try.f7, Try.f8, Try.f9, Try.f10, Try.f11, Try.f12, Try.f13, Try.f14, Try.f15, Try.f16, Try.f17, Try.f18, Try.f19, Try.f20, Try.f21, Try.f22, Try.f23, Try.f24, Try.f25, Try.f26, Try.f27, Try.f28, Try.f29, Try.f30, Try.f31, Try.f32, Try.f33, Try.f34, Try.f35, Try.f36, Try.f37, Try.f38, Try.f39, Try.f40, Try.f41, Try.f42, Try.f43, Try.f44, Try.f45, Try.f46, Try.f47, Try.f48, Try.f49, Try.f50, Try.f51, Try.f52, Try.f53, Try.f54, Try.f55, Try.f56, Try.f57, Try.f58, Try.f59, Try.f60, Try.f61, Try.f62, Try.f63, Try.f64, Try.f65, Try.f66, Try.f67, Try.f68, Try.f69, Try.f70, Try.f71, Try.f72, Try.f73, Try.f74, Try.f75, Try.f76, Try.f77, Try.f78, Try.f79, Try.f80, Try.f81, Try.f82, Try.f83, Try.f84, Try.f85, Try.f86, Try.f87, Try.f88, Try.f89, Try.f90, Try.f91, Try.f92, Try.f93, Try.f94, Try.f95, Try.f96, Try.f97, Try.f98, Try.f99, Try.f100, Try.f101, Try.f102, Try.f103, Try.f104, Try.f105, Try.f106, Try.f107, Try.f108, Try.f109, Try.f110, Try.f111, Try.f112, Try.f113, Try.f114, Try.f115, Try.f116, Try.f117, Try.f118, Try.f119, Try.f120, Try.f121, Try.f122, Try.f123, Try.f124, Try.f125, Try.f126, Try.f127, Try.f128, Try.f129, Try.f130, Try.f131, Try.f132, Try.f133, Try.f134, Try.f135, Try.f136, Try.f137, Try.f138, Try.f139, Try.f140, Try.f141, Try.f142, Try.f143, Try.f144, Try.f145, Try.f146, Try.f147, Try.f148, Try.f149, Try.f150, Try.f151, Try.f152, Try.f153, Try.f154, Try.f155, Try.f156, Try.f157, Try.f158, Try.f159, Try.f160, Try.f161, Try.f162, Try.f163, Try.f164, Try.f165, Try.f166, Try.f167, Try.f168, Try.f169, Try.f170, Try.f171, Try.f172, Try.f173, Try.f174, Try.f175, Try.f176, Try.f177, Try.f178, Try.f179, Try.f180, Try.f181, Try.f182, Try.f183, Try.f184, Try.f185, Try.f186, Try.f187, Try.f188, Try.f189, Try.f190, Try.f191, Try.f192, Try.f193, Try.f194, Try.f195, Try.f196, Try.f197, Try.f198, Try.f199, Try.f200, Try.f201, Try.f202, Try.f203, Try.f204, Try.f205, Try.f206, Try.f207, Try.f208, Try.f209, Try.f210, Try.f211, Try.f212, Try.f213, Try.f214, Try.f215, Try.f216, Try.f217, Try.f218, Try.f219, Try.f220, Try.f221, Try.f222, Try.f223, Try.f224, Try.f225, Try.f226, Try.f227, Try.f228, Try.f229, Try.f230, Try.f231, Try.f232, Try.f233, Try.f234, Try.f235, Try.f236, Try.f237] := by kernel_rfl
theorem map_cons_of {α β : Type} {g : α → β} {a : α} {b : β} {l : List α} {m : List β} (h : g a = b) (k : l.map g = m) : (a :: l).map g = b :: m := by rw [List.map_cons, h, k]
theorem rowsAll : Try.prog.funcs.toList.map (fnRow Try.prog) = rowsT := by
  rw [funcsL]
  exact map_cons_of row0 (map_cons_of row1 (map_cons_of row2 (map_cons_of row3 (map_cons_of row4 (map_cons_of row5 (map_cons_of row6 (map_cons_of row7 (map_cons_of row8 (map_cons_of row9 (map_cons_of row10 (map_cons_of row11 (map_cons_of row12 (map_cons_of row13 (map_cons_of row14 (map_cons_of row15 (map_cons_of row16 (map_cons_of row17 (map_cons_of row18 (map_cons_of row19 (map_cons_of row20 (map_cons_of row21 (map_cons_of row22 (map_cons_of row23 (map_cons_of row24 (map_cons_of row25 (map_cons_of row26 (map_cons_of row27 (map_cons_of row28 (map_cons_of row29 (map_cons_of row30 (map_cons_of row31 (map_cons_of row32 (map_cons_of row33 (map_cons_of row34 (map_cons_of row35 (map_cons_of row36 (map_cons_of row37 (map_cons_of row38 (map_cons_of row39 (map_cons_of row40 (map_cons_of row41 (map_cons_of row42 (map_cons_of row43 (map_cons_of row44 (map_cons_of row45 (map_cons_of row46 (map_cons_of row47 (map_cons_of row48 (map_cons_of row49 (map_cons_of row50 (map_cons_of row51 (map_cons_of row52 (map_cons_of row53 (map_cons_of row54 (map_cons_of row55 (map_cons_of row56 (map_cons_of row57 (map_cons_of row58 (map_cons_of row59 (map_cons_of row60 (map_cons_of row61 (map_cons_of row62 (map_cons_of row63 (map_cons_of row64 (map_cons_of row65 (map_cons_of row66 (map_cons_of row67 (map_cons_of row68 (map_cons_of row69 (map_cons_of row70 (map_cons_of row71 (map_cons_of row72 (map_cons_of row73 (map_cons_of row74 (map_cons_of row75 (map_cons_of row76 (map_cons_of row77 (map_cons_of row78 (map_cons_of row79 (map_cons_of row80 (map_cons_of row81 (map_cons_of row82 (map_cons_of row83 (map_cons_of row84 (map_cons_of row85 (map_cons_of row86 (map_cons_of row87 (map_cons_of row88 (map_cons_of row89 (map_cons_of row90 (map_cons_of row91 (map_cons_of row92 (map_cons_of row93 (map_cons_of row94 (map_cons_of row95 (map_cons_of row96 (map_cons_of row97 (map_cons_of row98 (map_cons_of row99 (map_cons_of row100 (map_cons_of row101 (map_cons_of row102 (map_cons_of row103 (map_cons_of row104 (map_cons_of row105 (map_cons_of row106 (map_cons_of row107 (map_cons_of row108 (map_cons_of row109 (map_cons_of row110 (map_cons_of row111 (map_cons_of row112 (map_cons_of row113 (map_cons_of row114 (map_cons_of row115 (map_cons_of row116 (map_cons_of row117 (map_cons_of row118 (map_cons_of row119 (map_cons_of row120 (map_cons_of row121 (map_cons_of row122 (map_cons_of row123 (map_cons_of row124 (map_cons_of row125 (map_cons_of row126 (map_cons_of row127 (map_cons_of row128 (map_cons_of row129 (map_cons_of row130 (map_cons_of row131 (map_cons_of row132 (map_cons_of row133 (map_cons_of row134 (map_cons_of row135 (map_cons_of row136 (map_cons_of row137 (map_cons_of row138 (map_cons_of row139 (map_cons_of row140 (map_cons_of row141 (map_cons_of row142 (map_cons_of row143 (map_cons_of row144 (map_cons_of row145 (map_cons_of row146 (map_cons_of row147 (map_cons_of row148 (map_cons_of row149 (map_cons_of row150 (map_cons_of row151 (map_cons_of row152 (map_cons_of row153 (map_cons_of row154 (map_cons_of row155 (map_cons_of row156 (map_cons_of row157 (map_cons_of row158 (map_cons_of row159 (map_cons_of row160 (map_cons_of row161 (map_cons_of row162 (map_cons_of row163 (map_cons_of row164 (map_cons_of row165 (map_cons_of row166 (map_cons_of row167 (map_cons_of row168 (map_cons_of row169 (map_cons_of row170 (map_cons_of row171 (map_cons_of row172 (map_cons_of row173 (map_cons_of row174 (map_cons_of row175 (map_cons_of row176 (map_cons_of row177 (map_cons_of row178 (map_cons_of row179 (map_cons_of row180 (map_cons_of row181 (map_cons_of row182 (map_cons_of row183 (map_cons_of row184 (map_cons_of row185 (map_cons_of row186 (map_cons_of row187 (map_cons_of row188 (map_cons_of row189 (map_cons_of row190 (map_cons_of row191 (map_cons_of row192 (map_cons_of row193 (map_cons_of row194 (map_cons_of row195 (map_cons_of row196 (map_cons_of row197 (map_cons_of row198 (map_cons_of row199 (map_cons_of row200 (map_cons_of row201 (map_cons_of row202 (map_cons_of row203 (map_cons_of row204 (map_cons_of row205 (map_cons_of row206 (map_cons_of row207 (map_cons_of row208 (map_cons_of row209 (map_cons_of row210 (map_cons_of row211 (map_cons_of row212 (map_cons_of row213 (map_cons_of row214 (map_cons_of row215 (map_cons_of row216 (map_cons_of row217 (map_cons_of row218 (map_cons_of row219 (map_cons_of row220 (map_cons_of row221 (map_cons_of row222 (map_cons_of row223 (map_cons_of row224 (map_cons_of row225 (map_cons_of row226 (map_cons_of row227 (map_cons_of row228 (map_cons_of row229 (map_cons_of row230 (map_cons_of row231 (map_cons_of row232 (map_cons_of row233 (map_cons_of row234 (map_cons_of row235 (map_cons_of row236 (map_cons_of row237 rfl)))))))))))))))))))))))))))))))))))))))))))))))))))))))))))))))))))))))))))))))))))))))))))))))))))))))))))))))))))))))))))))))))))))))))))))))))))))))))))))))))))))))))))))))))))))))))))))))))))))))))))))))))))))))))))))))))))))))))))))
def headC : List Nat := [104, 97, 114, 110, 101, 115, 115, 32, 57, 99, 51, 100, 57, 102, 56, 53, 52, 50, 99, 52, 98, 54, 97, 48, 100, 49, 101, 57, 97, 55, 98, 48, 57, 49, 97, 99, 57, 100, 101, 100, 55, 49, 55, 50, 99, 54, 99, 101, 101, 57, 100, 49, 98, 54, 51, 51, 51, 57, 49, 99, 50, 54, 50, 56, 99, 100, 97, 54, 97, 57, 55, 53, 32, 99, 117, 116, 32, 97, 116, 32, 108, 111, 111, 112, 46, 101, 120, 97, 109, 112, 108, 101, 47, 103, 48, 49, 50, 54, 53, 47, 108, 97, 119, 115, 46, 70, 110, 69, 120, 97, 99, 116, 78, 101, 119, 67, 111, 110, 115, 111, 108, 101, 32, 108, 111, 111, 112, 46, 101, 120, 97, 109, 112, 108, 101, 47, 103, 48, 49, 50, 54, 53, 47, 108, 97, 119, 115, 46, 70, 110, 69, 120, 97, 99, 116, 70, 105, 114, 115, 116, 70, 105, 110, 100, 105, 110, 103, 32, 108, 111, 111, 112, 46, 101, 120, 97, 109, 112, 108, 101, 47, 103, 48, 49, 50, 54, 53, 47, 108, 97, 119, 115, 46, 70, 110, 69, 120, 97, 99, 116, 66, 101, 110, 99, 104, 82, 111, 119, 32, 108, 111, 111, 112, 46, 101, 120, 97, 109, 112, 108, 101, 47, 103, 48, 49, 50, 54, 53, 47, 108, 97, 119, 115, 46, 70, 110, 69, 120, 97, 99, 116, 83, 101, 110, 116, 82, 111, 119, 32, 108, 111, 111, 112, 46, 101, 120, 97, 109, 112, 108, 101, 47, 103, 48, 49, 50, 54, 53, 47, 108, 97, 119, 115, 46, 70, 110, 69, 120, 97, 99, 116, 73, 115, 70, 117, 108, 108, 84, 101, 115, 116, 32, 108, 111, 111, 112, 46, 101, 120, 97, 109, 112, 108, 101, 47, 103, 48, 49, 50, 54, 53, 47, 108, 97, 119, 115, 46, 70, 110, 69, 120, 97, 99, 116, 67, 111, 117, 110, 116, 72, 97, 114, 109, 108, 101, 115, 115, 32, 108, 111, 111, 112, 46, 101, 120, 97, 109, 112, 108, 101, 47, 103, 48, 49, 50, 54, 53, 47, 108, 97, 119, 115, 46, 70, 110, 69, 120, 97, 99, 116, 67, 111, 117, 110, 116, 70, 117, 108, 108, 84, 101, 115, 116, 115, 32, 108, 111, 111, 112, 46, 101, 120, 97, 109, 112, 108, 101, 47, 103, 48, 49, 50, 54, 53, 47, 108, 97, 119, 115, 46, 70, 110, 69, 120, 97, 99, 116, 67, 111, 117, 110, 116, 78, 117, 109, 98, 101, 114, 115, 32, 108, 111, 111, 112, 46, 101, 120, 97, 109, 112, 108, 101, 47, 103, 48, 49, 50, 54, 53, 47, 108, 97, 119, 115, 46, 70, 110, 69, 120, 97, 99, 116, 67, 111, 110, 102, 117, 115, 101, 100, 68, 105, 103, 105, 116, 115, 32, 108, 111, 111, 112, 46, 101, 120, 97, 109, 112, 108, 101, 47, 103, 48, 49, 50, 54, 53, 47, 108, 97, 119, 115, 46, 70, 110, 69, 120, 97, 99, 116, 83, 104, 111, 119, 110, 82, 111, 119, 32, 108, 111, 111, 112, 46, 101, 120, 97, 109, 112, 108, 101, 47, 103, 48, 49, 50, 54, 53, 47, 108, 97, 119, 115, 46, 70, 110, 69, 120, 97, 99, 116, 73, 115, 86, 97, 108, 105, 100, 82, 101, 99, 111, 114, 100, 32, 108, 111, 111, 112, 46, 101, 120, 97, 109, 112, 108, 101, 47, 103, 48, 49, 50, 54, 53, 47, 108, 97, 119, 115, 46, 70, 110, 69, 120, 97, 99, 116, 77, 101, 97, 110, 73, 109, 97, 103, 101, 115, 32, 108, 111, 111, 112, 46, 101, 120, 97, 109, 112, 108, 101, 47, 103, 48, 49, 50, 54, 53, 47, 108, 97, 119, 115, 46, 70, 110, 69, 120, 97, 99, 116, 77, 101, 97, 110, 70, 111, 117, 110, 100, 32, 108, 111, 111, 112, 46, 101, 120, 97, 109, 112, 108, 101, 47, 103, 48, 49, 50, 54, 53, 47, 108, 97, 119, 115, 46, 70, 110, 69, 120, 97, 99, 116, 70, 97, 117, 108, 116, 115, 79, 102, 32, 108, 111, 111, 112, 46, 101, 120, 97, 109, 112, 108, 101, 47, 103, 48, 49, 50, 54, 53, 47, 108, 97, 119, 115, 46, 70, 110, 69, 120, 97, 99, 116, 67, 104, 97, 110, 99, 101, 72, 97, 114, 109, 108, 101, 115, 115, 32, 108, 111, 111, 112, 46, 101, 120, 97, 109, 112, 108, 101, 47, 103, 48, 49, 50, 54, 53, 47, 108, 97, 119, 115, 46, 70, 110, 69, 120, 97, 99, 116, 67, 104, 97, 110, 99, 101, 70, 117, 108, 108, 32, 108, 111, 111, 112, 46, 101, 120, 97, 109, 112, 108, 101, 47, 103, 48, 49, 50, 54, 53, 47, 108, 97, 119, 115, 46, 70, 110, 69, 120, 97, 99, 116, 72, 105, 100, 100, 101, 110, 83, 116, 97, 116, 101, 115, 32, 108, 111, 111, 112, 46, 101, 120, 97, 109, 112, 108, 101, 47, 103, 48, 49, 50, 54, 53, 47, 108, 97, 119, 115, 46, 70, 110, 69, 120, 97, 99, 116, 70, 111, 117, 110, 100, 83, 116, 97, 116, 101, 115, 32, 108, 111, 111, 112, 46, 101, 120, 97, 109, 112, 108, 101, 47, 103, 48, 49, 50, 54, 53, 47, 108, 97, 119, 115, 46, 70, 110, 69, 120, 97, 99, 116, 67, 104, 97, 110, 99, 101, 84, 111, 108, 100, 32, 108, 111, 111, 112, 46, 101, 120, 97, 109, 112, 108, 101, 47, 103, 48, 49, 50, 54, 53, 47, 108, 97, 119, 115, 46, 70, 110, 69, 120, 97, 99, 116, 82, 101, 97, 100, 83, 116, 97, 116, 101, 115, 32, 108, 111, 111, 112, 46, 101, 120, 97, 109, 112, 108, 101, 47, 103, 48, 49, 50, 54, 53, 47, 108, 97, 119, 115, 46, 70, 110, 69, 120, 97, 99, 116, 70, 105, 114, 115, 116, 78, 117, 109, 98, 101, 114, 32, 108, 111, 111, 112, 46, 101, 120, 97, 109, 112, 108, 101, 47, 103, 48, 49, 50, 54, 53, 47, 108, 97, 119, 115, 46, 70, 110, 69, 120, 97, 99, 116, 68, 111, 74, 111, 98, 32, 108, 111, 111, 112, 46, 101, 120, 97, 109, 112, 108, 101, 47, 103, 48, 49, 50, 54, 53, 47, 108, 97, 119, 115, 46, 70, 110, 69, 120, 97, 99, 116, 68, 111, 74, 111, 98, 115]
def headW : List (List Nat) := [[104, 97, 114, 110, 101, 115, 115], [57, 99, 51, 100, 57, 102, 56, 53, 52, 50, 99, 52, 98, 54, 97, 48, 100, 49, 101, 57, 97, 55, 98, 48, 57, 49, 97, 99, 57, 100, 101, 100, 55, 49, 55, 50, 99, 54, 99, 101, 101, 57, 100, 49, 98, 54, 51, 51, 51, 57, 49, 99, 50, 54, 50, 56, 99, 100, 97, 54, 97, 57, 55, 53], [99, 117, 116], [97, 116], [108, 111, 111, 112, 46, 101, 120, 97, 109, 112, 108, 101, 47, 103, 48, 49, 50, 54, 53, 47, 108, 97, 119, 115, 46, 70, 110, 69, 120, 97, 99, 116, 78, 101, 119, 67, 111, 110, 115, 111, 108, 101], [108, 111, 111, 112, 46, 101, 120, 97, 109, 112, 108, 101, 47, 103, 48, 49, 50, 54, 53, 47, 108, 97, 119, 115, 46, 70, 110, 69, 120, 97, 99, 116, 70, 105, 114, 115, 116, 70, 105, 110, 100, 105, 110, 103], [108, 111, 111, 112, 46, 101, 120, 97, 109, 112, 108, 101, 47, 103, 48, 49, 50, 54, 53, 47, 108, 97, 119, 115, 46, 70, 110, 69, 120, 97, 99, 116, 66, 101, 110, 99, 104, 82, 111, 119], [108, 111, 111, 112, 46, 101, 120, 97, 109, 112, 108, 101, 47, 103, 48, 49, 50, 54, 53, 47, 108, 97, 119, 115, 46, 70, 110, 69, 120, 97, 99, 116, 83, 101, 110, 116, 82, 111, 119], [108, 111, 111, 112, 46, 101, 120, 97, 109, 112, 108, 101, 47, 103, 48, 49, 50, 54, 53, 47, 108, 97, 119, 115, 46, 70, 110, 69, 120, 97, 99, 116, 73, 115, 70, 117, 108, 108, 84, 101, 115, 116], [108, 111, 111, 112, 46, 101, 120, 97, 109, 112, 108, 101, 47, 103, 48, 49, 50, 54, 53, 47, 108, 97, 119, 115, 46, 70, 110, 69, 120, 97, 99, 116, 67, 111, 117, 110, 116, 72, 97, 114, 109, 108, 101, 115, 115], [108, 111, 111, 112, 46, 101, 120, 97, 109, 112, 108, 101, 47, 103, 48, 49, 50, 54, 53, 47, 108, 97, 119, 115, 46, 70, 110, 69, 120, 97, 99, 116, 67, 111, 117, 110, 116, 70, 117, 108, 108, 84, 101, 115, 116, 115], [108, 111, 111, 112, 46, 101, 120, 97, 109, 112, 108, 101, 47, 103, 48, 49, 50, 54, 53, 47, 108, 97, 119, 115, 46, 70, 110, 69, 120, 97, 99, 116, 67, 111, 117, 110, 116, 78, 117, 109, 98, 101, 114, 115], [108, 111, 111, 112, 46, 101, 120, 97, 109, 112, 108, 101, 47, 103, 48, 49, 50, 54, 53, 47, 108, 97, 119, 115, 46, 70, 110, 69, 120, 97, 99, 116, 67, 111, 110, 102, 117, 115, 101, 100, 68, 105, 103, 105, 116, 115], [108, 111, 111, 112, 46, 101, 120, 97, 109, 112, 108, 101, 47, 103, 48, 49, 50, 54, 53, 47, 108, 97, 119, 115, 46, 70, 110, 69, 120, 97, 99, 116, 83, 104, 111, 119, 110, 82, 111, 119], [108, 111, 111, 112, 46, 101, 120, 97, 109, 112, 108, 101, 47, 103, 48, 49, 50, 54, 53, 47, 108, 97, 119, 115, 46, 70, 110, 69, 120, 97, 99, 116, 73, 115, 86, 97, 108, 105, 100, 82, 101, 99, 111, 114, 100], [108, 111, 111, 112, 46, 101, 120, 97, 109, 112, 108, 101, 47, 103, 48, 49, 50, 54, 53, 47, 108, 97, 119, 115, 46, 70, 110, 69, 120, 97, 99, 116, 77, 101, 97, 110, 73, 109, 97, 103, 101, 115], [108, 111, 111, 112, 46, 101, 120, 97, 109, 112, 108, 101, 47, 103, 48, 49, 50, 54, 53, 47, 108, 97, 119, 115, 46, 70, 110, 69, 120, 97, 99, 116, 77, 101, 97, 110, 70, 111, 117, 110, 100], [108, 111, 111, 112, 46, 101, 120, 97, 109, 112, 108, 101, 47, 103, 48, 49, 50, 54, 53, 47, 108, 97, 119, 115, 46, 70, 110, 69, 120, 97, 99, 116, 70, 97, 117, 108, 116, 115, 79, 102], [108, 111, 111, 112, 46, 101, 120, 97, 109, 112, 108, 101, 47, 103, 48, 49, 50, 54, 53, 47, 108, 97, 119, 115, 46, 70, 110, 69, 120, 97, 99, 116, 67, 104, 97, 110, 99, 101, 72, 97, 114, 109, 108, 101, 115, 115], [108, 111, 111, 112, 46, 101, 120, 97, 109, 112, 108, 101, 47, 103, 48, 49, 50, 54, 53, 47, 108, 97, 119, 115, 46, 70, 110, 69, 120, 97, 99, 116, 67, 104, 97, 110, 99, 101, 70, 117, 108, 108], [108, 111, 111, 112, 46, 101, 120, 97, 109, 112, 108, 101, 47, 103, 48, 49, 50, 54, 53, 47, 108, 97, 119, 115, 46, 70, 110, 69, 120, 97, 99, 116, 72, 105, 100, 100, 101, 110, 83, 116, 97, 116, 101, 115], [108, 111, 111, 112, 46, 101, 120, 97, 109, 112, 108, 101, 47, 103, 48, 49, 50, 54, 53, 47, 108, 97, 119, 115, 46, 70, 110, 69, 120, 97, 99, 116, 70, 111, 117, 110, 100, 83, 116, 97, 116, 101, 115], [108, 111, 111, 112, 46, 101, 120, 97, 109, 112, 108, 101, 47, 103, 48, 49, 50, 54, 53, 47, 108, 97, 119, 115, 46, 70, 110, 69, 120, 97, 99, 116, 67, 104, 97, 110, 99, 101, 84, 111, 108, 100], [108, 111, 111, 112, 46, 101, 120, 97, 109, 112, 108, 101, 47, 103, 48, 49, 50, 54, 53, 47, 108, 97, 119, 115, 46, 70, 110, 69, 120, 97, 99, 116, 82, 101, 97, 100, 83, 116, 97, 116, 101, 115], [108, 111, 111, 112, 46, 101, 120, 97, 109, 112, 108, 101, 47, 103, 48, 49, 50, 54, 53, 47, 108, 97, 119, 115, 46, 70, 110, 69, 120, 97, 99, 116, 70, 105, 114, 115, 116, 78, 117, 109, 98, 101, 114], [108, 111, 111, 112, 46, 101, 120, 97, 109, 112, 108, 101, 47, 103, 48, 49, 50, 54, 53, 47, 108, 97, 119, 115, 46, 70, 110, 69, 120, 97, 99, 116, 68, 111, 74, 111, 98], [108, 111, 111, 112, 46, 101, 120, 97, 109, 112, 108, 101, 47, 103, 48, 49, 50, 54, 53, 47, 108, 97, 119, 115, 46, 70, 110, 69, 120, 97, 99, 116, 68, 111, 74, 111, 98, 115]]
theorem headEq : Try.prog.initOrder = String.ofList (headC.map Char.ofNat) := by kernel_rfl
theorem headWords : wordsSigns Try.prog.initOrder.toList = headW.map (fun l => l.map Char.ofNat) := by
  rw [headEq, String.toList_ofList]; kernel_rfl
def headR : List (List Nat) := headW.drop 3
theorem headB : behindMainWord (wordsSigns Try.prog.initOrder.toList) = String.toList (String.ofList ([99, 117, 116].map Char.ofNat)) :: headR.map (fun l => l.map Char.ofNat) := by
  rw [headWords, String.toList_ofList]; kernel_rfl
theorem cutW : String.ofList ([99, 117, 116].map Char.ofNat) = "cut" := by kernel_rfl
theorem headCut : behindMainWord (wordsSigns Try.prog.initOrder.toList) = "cut".toList :: headR.map (fun l => l.map Char.ofNat) := by rw [headB, cutW]
theorem stripCut (l : List (List Char)) : stripLifts liftWords ("cut".toList :: l) = ([], "cut".toList :: l) := by
  simp [stripLifts, liftWords]
theorem make_of {P : Program} {r : List (List Char)} (h : behindMainWord (wordsSigns P.initOrder.toList) = "cut".toList :: r) : P.make = some .cut := by
  unfold Program.make; rw [h]; simp
theorem lifts_of {P : Program} {r : List (List Char)} (h : behindMainWord (wordsSigns P.initOrder.toList) = "cut".toList :: r) : P.liftsFinal = false := by
  unfold Program.liftsFinal Program.headLifts; rw [h, stripCut]; simp
theorem may_of {P : Program} {r : List (List Char)} (h : behindMainWord (wordsSigns P.initOrder.toList) = "cut".toList :: r) (h1 : P.laysLater = false) (h2 : P.bearsReflect = false) (h3 : P.doorFits [] = true) : P.mayEnter = true := by
  unfold Program.mayEnter; rw [h]; simp only [stripCut]; rw [h1, h2, h3]; simp
theorem laysNot : Try.prog.laysLater = false := by kernel_rfl
theorem bearsNot : Try.prog.bearsReflect = false := by kernel_rfl
theorem doorOk : Try.prog.doorFits [] = true := by kernel_rfl
theorem factMay : Try.prog.mayEnter = true := may_of headCut laysNot bearsNot doorOk
theorem factLifts : Try.prog.liftsFinal = false := lifts_of headCut
theorem factMake : Try.prog.make = some .cut := make_of headCut
theorem and_mk {a b : Bool} (ha : a = true) (hb : b = true) : (a && b) = true := by rw [ha, hb]; rfl
end Go.Proofs.Ytahpknjligaliaa