/- What each function of the program names, a row a function: so the closed facts of a row about what its function reaches are reckoned from a small table. -/
import Derived.Test.YtlipkplomndjcaaProg
import Derived.JoinedOf
import Derived.KernelRfl
namespace Go.Proofs.Ytlipkplomndjcaa
set_option linter.unusedVariables false
set_option maxRecDepth 100000

abbrev FRow := List Nat × Option String × Bool × List Nat × Option String
def inPlaceAt (fn : Func) : Option String := if fn.ours || fn.body.isNone || fn.name == "runtime.NumGoroutine" then some fn.name else none
def fnRow (P : Program) (fn : Func) : FRow :=
  (P.leadsTo fn, inPlaceAt fn, (match fn.body with | some c => c.unfollowed | none => entryCalls fn), (fn.body.elim [] Code.globalsNamed), (if fn.body.isNone then entryReads.lookup fn.name else none))
def cvT (T : List FRow) : Nat → List Nat → List Nat → List Nat
  | 0, _, seen => seen.reverse
  | _, [], seen => seen.reverse
  | n + 1, f :: todo, seen => if seen.contains f then cvT T n todo seen else cvT T n ((T[f]?).elim [] (·.1) ++ todo) (f :: seen)
section
variable {P : Program} {T : List FRow}
theorem tab_at (hT : P.funcs.toList.map (fnRow P) = T) (k : Nat) : T[k]? = (P.funcs[k]?).map (fnRow P) := by
  rw [← hT, List.getElem?_map]; simp
theorem cvT_eq (hT : P.funcs.toList.map (fnRow P) = T) : ∀ (n : Nat) (todo seen : List Nat), P.closureVia n todo seen = cvT T n todo seen
  | 0, _, _ => by simp [Program.closureVia, cvT]
  | n + 1, [], _ => by simp [Program.closureVia, cvT]
  | n + 1, f :: todo, seen => by
    unfold Program.closureVia cvT
    rw [cvT_eq hT n, cvT_eq hT n, tab_at hT f]
    cases P.funcs[f]? <;> rfl
def closT (T : List FRow) (f : Nat) : List Nat := cvT T (1 + (T.map fun r => r.1.length + 1).sum) [f] []
theorem closT_eq (hT : P.funcs.toList.map (fnRow P) = T) (f : Nat) : P.closure f = closT T f := by
  unfold Program.closure closT
  rw [cvT_eq hT, ← hT, List.map_map]; rfl
theorem inPlaceT (hT : P.funcs.toList.map (fnRow P) = T) (f : Nat) : P.inPlace f = (closT T f).filterMap fun g => (T[g]?).bind (·.2.1) := by
  unfold Program.inPlace
  rw [closT_eq hT]
  congr 1; funext g
  rw [tab_at hT g]; cases P.funcs[g]? <;> rfl
theorem unfollowedT (hT : P.funcs.toList.map (fnRow P) = T) (f : Nat) : P.unfollowed f = (closT T f).any fun g => (T[g]?).any (·.2.2.1) := by
  unfold Program.unfollowed
  rw [closT_eq hT]
  congr 1; funext g
  rw [tab_at hT g]; cases P.funcs[g]? <;> rfl
theorem varsT (hT : P.funcs.toList.map (fnRow P) = T) (f : Nat) : P.varsNamed f =
    ((((closT T f).flatMap fun g => (T[g]?).elim [] (·.2.2.2.1)).eraseDups).filterMap (fun g => (P.globals[g]?).map (·.name)) ++ (closT T f).filterMap fun g => (T[g]?).bind (·.2.2.2.2)).eraseDups := by
  unfold Program.varsNamed
  rw [closT_eq hT]
  have e1 : (fun g : Nat => ((P.funcs[g]?).bind fun x : Func => x.body).elim [] Code.globalsNamed) = fun g : Nat => (T[g]?).elim [] fun x : FRow => x.2.2.2.1 := by
    funext g; rw [tab_at hT g]; cases P.funcs[g]? <;> rfl
  have e2 : (fun g : Nat => (P.funcs[g]?).bind fun fn : Func => if fn.body.isNone then entryReads.lookup fn.name else none) = fun g : Nat => (T[g]?).bind fun x : FRow => x.2.2.2.2 := by
    funext g; rw [tab_at hT g]; cases P.funcs[g]? <;> rfl
  rw [e1, e2]
theorem recursesEq (hT : P.funcs.toList.map (fnRow P) = T) (f : Nat) : P.recurses f = (((closT T f).any fun g => (T[g]?).any (·.2.2.1)) || (closT T f).any fun g => ((T[g]?).elim [] (·.1)).any fun h => (closT T h).contains g) := by
  unfold Program.recurses
  rw [unfollowedT hT, closT_eq hT]
  congr 1
  congr 1; funext g
  have e1 : ((P.funcs[g]?).elim [] P.leadsTo) = (T[g]?).elim [] fun x : FRow => x.1 := by
    rw [tab_at hT g]; cases P.funcs[g]? <;> rfl
  rw [e1]
  congr 1; funext h
  rw [closT_eq hT]
theorem recursesT {f : Nat} (h : P.unfollowed f = true) : P.recurses f = true := by unfold Program.recurses; rw [h]; rfl
end

theorem row0 : fnRow Try.prog Try.f0 = ([], some Try.f0.name, false, [], none) := by kernel_rfl
theorem row1 : fnRow Try.prog Try.f1 = ([], some Try.f1.name, false, [], none) := by kernel_rfl
theorem row2 : fnRow Try.prog Try.f2 = ([1], none, false, [], none) := by kernel_rfl
theorem row3 : fnRow Try.prog Try.f3 = ([8, 9, 10, 11, 13, 12, 14, 15, 16, 17, 18, 19, 20, 21, 20, 22, 19], none, false, [], none) := by kernel_rfl
theorem row4 : fnRow Try.prog Try.f4 = ([8, 23, 21, 24, 25, 26, 13, 27, 22, 28, 13, 29, 30, 31, 19, 32, 33, 32, 34, 21, 35, 21, 35, 25, 21, 32], none, false, [], none) := by kernel_rfl
theorem row5 : fnRow Try.prog Try.f5 = ([8, 36, 37, 38, 39, 40, 41, 42, 43, 44, 13, 45, 46, 47, 13, 48, 49, 50, 19, 51, 19, 52, 20, 21, 52], none, false, [], none) := by kernel_rfl
theorem row6 : fnRow Try.prog Try.f6 = ([8, 53, 54, 55, 13, 56, 57, 58, 13, 59, 60, 61, 62, 63, 64, 65, 19, 19, 66, 67, 66, 66, 66, 64, 66, 68, 69, 19, 57], none, false, [], none) := by kernel_rfl
theorem row7 : fnRow Try.prog Try.f7 = ([8, 70, 71, 72, 73, 74, 51, 75, 13, 76, 77, 52], none, false, [], none) := by kernel_rfl
theorem row8 : fnRow Try.prog Try.f8 = ([], none, false, [], none) := by kernel_rfl
theorem row9 : fnRow Try.prog Try.f9 = ([78, 80, 79, 80, 82, 81, 80, 79, 83], none, false, [], none) := by kernel_rfl
theorem row10 : fnRow Try.prog Try.f10 = ([84, 85, 86, 85, 34, 87, 89, 90, 88], none, false, [], none) := by kernel_rfl
theorem row11 : fnRow Try.prog Try.f11 = ([92, 93, 94], none, false, [], none) := by kernel_rfl
theorem row12 : fnRow Try.prog Try.f12 = ([95, 96, 28, 97], none, false, [], none) := by kernel_rfl
theorem row13 : fnRow Try.prog Try.f13 = ([], none, false, [], none) := by kernel_rfl
theorem row14 : fnRow Try.prog Try.f14 = ([98, 99], none, false, [], none) := by kernel_rfl
theorem row15 : fnRow Try.prog Try.f15 = ([100, 101], none, false, [], none) := by kernel_rfl
theorem row16 : fnRow Try.prog Try.f16 = ([14, 99], none, false, [], none) := by kernel_rfl
theorem row17 : fnRow Try.prog Try.f17 = ([100, 101], none, false, [], none) := by kernel_rfl
theorem row18 : fnRow Try.prog Try.f18 = ([], none, false, [], none) := by kernel_rfl
theorem row19 : fnRow Try.prog Try.f19 = ([], none, false, [], none) := by kernel_rfl
theorem row20 : fnRow Try.prog Try.f20 = ([86, 87], none, false, [], none) := by kernel_rfl
theorem row21 : fnRow Try.prog Try.f21 = ([32, 34, 91], none, false, [], none) := by kernel_rfl
theorem row22 : fnRow Try.prog Try.f22 = ([98, 91], none, false, [], none) := by kernel_rfl
theorem row23 : fnRow Try.prog Try.f23 = ([78, 83], none, false, [], none) := by kernel_rfl
theorem row24 : fnRow Try.prog Try.f24 = ([93, 102, 81], none, false, [], none) := by kernel_rfl
theorem row25 : fnRow Try.prog Try.f25 = ([32, 103, 103], none, false, [], none) := by kernel_rfl
theorem row26 : fnRow Try.prog Try.f26 = ([93, 104, 104], none, false, [], none) := by kernel_rfl
theorem row27 : fnRow Try.prog Try.f27 = ([95, 96], none, false, [], none) := by kernel_rfl
theorem row28 : fnRow Try.prog Try.f28 = ([100, 81], none, false, [], none) := by kernel_rfl
theorem row29 : fnRow Try.prog Try.f29 = ([78, 78], none, false, [], none) := by kernel_rfl
theorem row30 : fnRow Try.prog Try.f30 = ([32, 32, 32], none, false, [], none) := by kernel_rfl
theorem row31 : fnRow Try.prog Try.f31 = ([93, 93, 93], none, false, [], none) := by kernel_rfl
theorem row32 : fnRow Try.prog Try.f32 = ([34, 34], none, false, [], none) := by kernel_rfl
theorem row33 : fnRow Try.prog Try.f33 = ([93], none, false, [], none) := by kernel_rfl
theorem row34 : fnRow Try.prog Try.f34 = ([84], none, false, [], none) := by kernel_rfl
theorem row35 : fnRow Try.prog Try.f35 = ([34, 103], none, false, [], none) := by kernel_rfl
theorem row36 : fnRow Try.prog Try.f36 = ([105], none, false, [], none) := by kernel_rfl
theorem row37 : fnRow Try.prog Try.f37 = ([32, 106], none, false, [], none) := by kernel_rfl
theorem row38 : fnRow Try.prog Try.f38 = ([93, 107], none, false, [], none) := by kernel_rfl
theorem row39 : fnRow Try.prog Try.f39 = ([32, 106, 108, 109], none, false, [], none) := by kernel_rfl
theorem row40 : fnRow Try.prog Try.f40 = ([93, 107], none, false, [], none) := by kernel_rfl
theorem row41 : fnRow Try.prog Try.f41 = ([32, 106], none, false, [], none) := by kernel_rfl
theorem row42 : fnRow Try.prog Try.f42 = ([93, 107], none, false, [], none) := by kernel_rfl
theorem row43 : fnRow Try.prog Try.f43 = ([32, 110], none, false, [], none) := by kernel_rfl
theorem row44 : fnRow Try.prog Try.f44 = ([93, 107], none, false, [], none) := by kernel_rfl
theorem row45 : fnRow Try.prog Try.f45 = ([78, 93, 97, 80, 82, 81, 83], none, false, [], none) := by kernel_rfl
theorem row46 : fnRow Try.prog Try.f46 = ([32, 34, 99], none, false, [], none) := by kernel_rfl
theorem row47 : fnRow Try.prog Try.f47 = ([93, 102, 101], none, false, [], none) := by kernel_rfl
theorem row48 : fnRow Try.prog Try.f48 = ([80, 79], none, false, [], none) := by kernel_rfl
theorem row49 : fnRow Try.prog Try.f49 = ([84, 89, 111, 110], none, false, [], none) := by kernel_rfl
theorem row50 : fnRow Try.prog Try.f50 = ([112, 93, 113, 107], none, false, [], none) := by kernel_rfl
theorem row51 : fnRow Try.prog Try.f51 = ([19], none, false, [], none) := by kernel_rfl
theorem row52 : fnRow Try.prog Try.f52 = ([], none, false, [], none) := by kernel_rfl
theorem row53 : fnRow Try.prog Try.f53 = ([114], none, false, [], none) := by kernel_rfl
theorem row54 : fnRow Try.prog Try.f54 = ([115], none, false, [], none) := by kernel_rfl
theorem row55 : fnRow Try.prog Try.f55 = ([116], none, false, [], none) := by kernel_rfl
theorem row56 : fnRow Try.prog Try.f56 = ([117, 118], none, false, [], none) := by kernel_rfl
theorem row57 : fnRow Try.prog Try.f57 = ([66, 119, 120], none, false, [], none) := by kernel_rfl
theorem row58 : fnRow Try.prog Try.f58 = ([121, 122], none, false, [], none) := by kernel_rfl
theorem row59 : fnRow Try.prog Try.f59 = ([117, 80, 118], none, false, [], none) := by kernel_rfl
theorem row60 : fnRow Try.prog Try.f60 = ([66, 119, 120], none, false, [], none) := by kernel_rfl
theorem row61 : fnRow Try.prog Try.f61 = ([121, 122], none, false, [], none) := by kernel_rfl
theorem row62 : fnRow Try.prog Try.f62 = ([66, 123], none, false, [], none) := by kernel_rfl
theorem row63 : fnRow Try.prog Try.f63 = ([121, 124], none, false, [], none) := by kernel_rfl
theorem row64 : fnRow Try.prog Try.f64 = ([66, 125], none, false, [], none) := by kernel_rfl
theorem row65 : fnRow Try.prog Try.f65 = ([121, 124], none, false, [], none) := by kernel_rfl
theorem row66 : fnRow Try.prog Try.f66 = ([115, 127, 126, 32, 84], none, false, [], none) := by kernel_rfl
theorem row67 : fnRow Try.prog Try.f67 = ([121], none, false, [], none) := by kernel_rfl
theorem row68 : fnRow Try.prog Try.f68 = ([115, 128, 103], none, false, [], none) := by kernel_rfl
theorem row69 : fnRow Try.prog Try.f69 = ([115, 128, 129], none, false, [], none) := by kernel_rfl
theorem row70 : fnRow Try.prog Try.f70 = ([131, 132, 130], none, false, [], none) := by kernel_rfl
theorem row71 : fnRow Try.prog Try.f71 = ([135, 134, 136, 137, 138], none, false, [], none) := by kernel_rfl
theorem row72 : fnRow Try.prog Try.f72 = ([80, 79], none, false, [], none) := by kernel_rfl
theorem row73 : fnRow Try.prog Try.f73 = ([84, 131, 139, 130], none, false, [], none) := by kernel_rfl
theorem row74 : fnRow Try.prog Try.f74 = ([112, 135, 134, 136], none, false, [], none) := by kernel_rfl
theorem row75 : fnRow Try.prog Try.f75 = ([141, 133], none, false, [], none) := by kernel_rfl
theorem row76 : fnRow Try.prog Try.f76 = ([142], none, false, [], none) := by kernel_rfl
theorem row77 : fnRow Try.prog Try.f77 = ([141, 140], none, false, [], none) := by kernel_rfl
theorem row78 : fnRow Try.prog Try.f78 = ([79, 80, 97, 80, 79, 79], none, false, [], none) := by kernel_rfl
theorem row79 : fnRow Try.prog Try.f79 = ([80], none, false, [], none) := by kernel_rfl
theorem row80 : fnRow Try.prog Try.f80 = ([143, 143], none, false, [], none) := by kernel_rfl
theorem row81 : fnRow Try.prog Try.f81 = ([], none, false, [], none) := by kernel_rfl
theorem row82 : fnRow Try.prog Try.f82 = ([], none, false, [], none) := by kernel_rfl
theorem row83 : fnRow Try.prog Try.f83 = ([80, 79, 79, 97, 80, 80, 82, 97, 80], none, false, [], none) := by kernel_rfl
theorem row84 : fnRow Try.prog Try.f84 = ([], none, false, [], none) := by kernel_rfl
theorem row85 : fnRow Try.prog Try.f85 = ([145, 144], none, false, [], none) := by kernel_rfl
theorem row86 : fnRow Try.prog Try.f86 = ([84], none, false, [], none) := by kernel_rfl
theorem row87 : fnRow Try.prog Try.f87 = ([], none, false, [], none) := by kernel_rfl
theorem row88 : fnRow Try.prog Try.f88 = ([146], none, true, [], none) := by kernel_rfl
theorem row89 : fnRow Try.prog Try.f89 = ([], none, false, [], none) := by kernel_rfl
theorem row90 : fnRow Try.prog Try.f90 = ([91], none, false, [], none) := by kernel_rfl
theorem row91 : fnRow Try.prog Try.f91 = ([], none, false, [], none) := by kernel_rfl
theorem row92 : fnRow Try.prog Try.f92 = ([112, 112, 102], none, false, [], none) := by kernel_rfl
theorem row93 : fnRow Try.prog Try.f93 = ([102, 102], none, false, [], none) := by kernel_rfl
theorem row94 : fnRow Try.prog Try.f94 = ([82, 81], none, false, [], none) := by kernel_rfl
theorem row95 : fnRow Try.prog Try.f95 = ([97, 114, 79, 79, 82], none, false, [], none) := by kernel_rfl
theorem row96 : fnRow Try.prog Try.f96 = ([97, 78, 97], none, false, [], none) := by kernel_rfl
theorem row97 : fnRow Try.prog Try.f97 = ([80], none, false, [], none) := by kernel_rfl
theorem row98 : fnRow Try.prog Try.f98 = ([115, 126, 32], none, false, [], none) := by kernel_rfl
theorem row99 : fnRow Try.prog Try.f99 = ([87, 91], none, false, [], none) := by kernel_rfl
theorem row100 : fnRow Try.prog Try.f100 = ([116, 93], none, false, [], none) := by kernel_rfl
theorem row101 : fnRow Try.prog Try.f101 = ([82, 81], none, false, [], none) := by kernel_rfl
theorem row102 : fnRow Try.prog Try.f102 = ([112], none, false, [], none) := by kernel_rfl
theorem row103 : fnRow Try.prog Try.f103 = ([147], none, false, [], none) := by kernel_rfl
theorem row104 : fnRow Try.prog Try.f104 = ([148], none, false, [], none) := by kernel_rfl
theorem row105 : fnRow Try.prog Try.f105 = ([78], none, false, [], none) := by kernel_rfl
theorem row106 : fnRow Try.prog Try.f106 = ([87, 91, 99], none, false, [], none) := by kernel_rfl
theorem row107 : fnRow Try.prog Try.f107 = ([82, 81, 101], none, false, [], none) := by kernel_rfl
theorem row108 : fnRow Try.prog Try.f108 = ([149], none, true, [], none) := by kernel_rfl
theorem row109 : fnRow Try.prog Try.f109 = ([], none, false, [], none) := by kernel_rfl
theorem row110 : fnRow Try.prog Try.f110 = ([106], none, false, [], none) := by kernel_rfl
theorem row111 : fnRow Try.prog Try.f111 = ([150], none, false, [], none) := by kernel_rfl
theorem row112 : fnRow Try.prog Try.f112 = ([], none, false, [], none) := by kernel_rfl
theorem row113 : fnRow Try.prog Try.f113 = ([151, 151], none, false, [], none) := by kernel_rfl
theorem row114 : fnRow Try.prog Try.f114 = ([79, 83, 97], none, false, [], none) := by kernel_rfl
theorem row115 : fnRow Try.prog Try.f115 = ([85, 34], none, false, [], none) := by kernel_rfl
theorem row116 : fnRow Try.prog Try.f116 = ([102], none, false, [], none) := by kernel_rfl
theorem row117 : fnRow Try.prog Try.f117 = ([95, 55, 80, 118, 122, 80, 79, 80, 83, 80, 79], none, false, [], none) := by kernel_rfl
theorem row118 : fnRow Try.prog Try.f118 = ([79, 80, 80, 80, 80, 80, 80, 79, 79, 79], none, false, [], none) := by kernel_rfl
theorem row119 : fnRow Try.prog Try.f119 = ([84, 86, 84, 84, 152], none, false, [], none) := by kernel_rfl
theorem row120 : fnRow Try.prog Try.f120 = ([87, 153, 103, 153, 129], none, false, [], none) := by kernel_rfl
theorem row121 : fnRow Try.prog Try.f121 = ([102, 154, 93, 112], none, false, [], none) := by kernel_rfl
theorem row122 : fnRow Try.prog Try.f122 = ([155, 121], none, false, [], none) := by kernel_rfl
theorem row123 : fnRow Try.prog Try.f123 = ([], none, false, [], none) := by kernel_rfl
theorem row124 : fnRow Try.prog Try.f124 = ([154, 81], none, false, [], none) := by kernel_rfl
theorem row125 : fnRow Try.prog Try.f125 = ([152, 91], none, false, [], none) := by kernel_rfl
theorem row126 : fnRow Try.prog Try.f126 = ([157, 156], none, false, [], none) := by kernel_rfl
theorem row127 : fnRow Try.prog Try.f127 = ([152], none, false, [], none) := by kernel_rfl
theorem row128 : fnRow Try.prog Try.f128 = ([158], none, true, [], none) := by kernel_rfl
theorem row129 : fnRow Try.prog Try.f129 = ([147], none, false, [], none) := by kernel_rfl
theorem row130 : fnRow Try.prog Try.f130 = ([159], none, true, [], none) := by kernel_rfl
theorem row131 : fnRow Try.prog Try.f131 = ([], none, false, [], none) := by kernel_rfl
theorem row132 : fnRow Try.prog Try.f132 = ([133, 123], none, false, [], none) := by kernel_rfl
theorem row133 : fnRow Try.prog Try.f133 = ([160, 123, 161, 140, 140], none, false, [], none) := by kernel_rfl
theorem row134 : fnRow Try.prog Try.f134 = ([162], none, false, [], none) := by kernel_rfl
theorem row135 : fnRow Try.prog Try.f135 = ([], none, false, [], none) := by kernel_rfl
theorem row136 : fnRow Try.prog Try.f136 = ([163], none, false, [], none) := by kernel_rfl
theorem row137 : fnRow Try.prog Try.f137 = ([164, 136, 136], none, false, [], none) := by kernel_rfl
theorem row138 : fnRow Try.prog Try.f138 = ([], none, false, [], none) := by kernel_rfl
theorem row139 : fnRow Try.prog Try.f139 = ([140], none, false, [], none) := by kernel_rfl
theorem row140 : fnRow Try.prog Try.f140 = ([165], none, false, [], none) := by kernel_rfl
theorem row141 : fnRow Try.prog Try.f141 = ([85, 86], none, false, [], none) := by kernel_rfl
theorem row142 : fnRow Try.prog Try.f142 = ([79, 80, 80, 80, 79, 80, 79], none, false, [], none) := by kernel_rfl
theorem row143 : fnRow Try.prog Try.f143 = ([], none, false, [], none) := by kernel_rfl
theorem row144 : fnRow Try.prog Try.f144 = ([166], none, false, [], none) := by kernel_rfl
theorem row145 : fnRow Try.prog Try.f145 = ([], none, true, [], none) := by kernel_rfl
theorem row146 : fnRow Try.prog Try.f146 = ([], none, true, [], none) := by kernel_rfl
theorem row147 : fnRow Try.prog Try.f147 = ([], none, false, [], none) := by kernel_rfl
theorem row148 : fnRow Try.prog Try.f148 = ([], none, false, [], none) := by kernel_rfl
theorem row149 : fnRow Try.prog Try.f149 = ([], none, true, [], none) := by kernel_rfl
theorem row150 : fnRow Try.prog Try.f150 = ([167, 168], none, false, [], none) := by kernel_rfl
theorem row151 : fnRow Try.prog Try.f151 = ([], none, false, [], none) := by kernel_rfl
theorem row152 : fnRow Try.prog Try.f152 = ([], none, false, [], none) := by kernel_rfl
theorem row153 : fnRow Try.prog Try.f153 = ([], none, true, [], none) := by kernel_rfl
theorem row154 : fnRow Try.prog Try.f154 = ([], none, false, [], none) := by kernel_rfl
theorem row155 : fnRow Try.prog Try.f155 = ([112, 112, 82, 169, 170], none, false, [], none) := by kernel_rfl
theorem row156 : fnRow Try.prog Try.f156 = ([146], none, false, [], none) := by kernel_rfl
theorem row157 : fnRow Try.prog Try.f157 = ([], none, true, [], none) := by kernel_rfl
theorem row158 : fnRow Try.prog Try.f158 = ([], none, false, [], none) := by kernel_rfl
theorem row159 : fnRow Try.prog Try.f159 = ([123], none, true, [], none) := by kernel_rfl
theorem row160 : fnRow Try.prog Try.f160 = ([173, 172, 171], none, false, [], none) := by kernel_rfl
theorem row161 : fnRow Try.prog Try.f161 = ([], none, false, [], none) := by kernel_rfl
theorem row162 : fnRow Try.prog Try.f162 = ([], none, false, [], none) := by kernel_rfl
theorem row163 : fnRow Try.prog Try.f163 = ([174, 175], none, false, [], none) := by kernel_rfl
theorem row164 : fnRow Try.prog Try.f164 = ([], none, false, [], none) := by kernel_rfl
theorem row165 : fnRow Try.prog Try.f165 = ([177, 176], none, false, [], none) := by kernel_rfl
theorem row166 : fnRow Try.prog Try.f166 = ([], none, true, [], none) := by kernel_rfl
theorem row167 : fnRow Try.prog Try.f167 = ([], none, false, [], none) := by kernel_rfl
theorem row168 : fnRow Try.prog Try.f168 = ([], none, false, [], none) := by kernel_rfl
theorem row169 : fnRow Try.prog Try.f169 = ([112], none, false, [], none) := by kernel_rfl
theorem row170 : fnRow Try.prog Try.f170 = ([104, 104, 104, 179, 179, 179], none, false, [], none) := by kernel_rfl
theorem row171 : fnRow Try.prog Try.f171 = ([], none, false, [], none) := by kernel_rfl
theorem row172 : fnRow Try.prog Try.f172 = ([180, 181], none, false, [], none) := by kernel_rfl
theorem row173 : fnRow Try.prog Try.f173 = ([182], none, false, [], none) := by kernel_rfl
theorem row174 : fnRow Try.prog Try.f174 = ([], none, false, [], none) := by kernel_rfl
theorem row175 : fnRow Try.prog Try.f175 = ([183, 82, 81], none, false, [], none) := by kernel_rfl
theorem row176 : fnRow Try.prog Try.f176 = ([184], none, true, [], none) := by kernel_rfl
theorem row177 : fnRow Try.prog Try.f177 = ([178], none, false, [], none) := by kernel_rfl
theorem row178 : fnRow Try.prog Try.f178 = ([185, 186, 166], none, false, [], none) := by kernel_rfl
theorem row179 : fnRow Try.prog Try.f179 = ([148], none, false, [], none) := by kernel_rfl
theorem row180 : fnRow Try.prog Try.f180 = ([187], none, false, [], none) := by kernel_rfl
theorem row181 : fnRow Try.prog Try.f181 = ([189, 188], none, false, [], none) := by kernel_rfl
theorem row182 : fnRow Try.prog Try.f182 = ([], none, true, [], none) := by kernel_rfl
theorem row183 : fnRow Try.prog Try.f183 = ([], none, false, [], none) := by kernel_rfl
theorem row184 : fnRow Try.prog Try.f184 = ([84, 84], none, false, [], none) := by kernel_rfl
theorem row185 : fnRow Try.prog Try.f185 = ([], none, false, [], none) := by kernel_rfl
theorem row186 : fnRow Try.prog Try.f186 = ([87, 91, 87], none, false, [], none) := by kernel_rfl
theorem row187 : fnRow Try.prog Try.f187 = ([], none, true, [], none) := by kernel_rfl
theorem row188 : fnRow Try.prog Try.f188 = ([190, 191, 192, 193, 194, 195, 196, 197, 198, 188, 188], none, false, [], none) := by kernel_rfl
theorem row189 : fnRow Try.prog Try.f189 = ([199, 200], none, false, [], none) := by kernel_rfl
theorem row190 : fnRow Try.prog Try.f190 = ([196], none, false, [], none) := by kernel_rfl
theorem row191 : fnRow Try.prog Try.f191 = ([201, 201], none, false, [], none) := by kernel_rfl
theorem row192 : fnRow Try.prog Try.f192 = ([202, 203], none, false, [], none) := by kernel_rfl
theorem row193 : fnRow Try.prog Try.f193 = ([204, 204, 204, 205], none, false, [], none) := by kernel_rfl
theorem row194 : fnRow Try.prog Try.f194 = ([], none, false, [], none) := by kernel_rfl
theorem row195 : fnRow Try.prog Try.f195 = ([196, 196, 196], none, false, [], none) := by kernel_rfl
theorem row196 : fnRow Try.prog Try.f196 = ([206, 206], none, false, [], none) := by kernel_rfl
theorem row197 : fnRow Try.prog Try.f197 = ([196, 196], none, false, [], none) := by kernel_rfl
theorem row198 : fnRow Try.prog Try.f198 = ([196, 196, 196, 196], none, false, [], none) := by kernel_rfl
theorem row199 : fnRow Try.prog Try.f199 = ([], none, false, [], none) := by kernel_rfl
theorem row200 : fnRow Try.prog Try.f200 = ([], none, false, [], none) := by kernel_rfl
theorem row201 : fnRow Try.prog Try.f201 = ([196, 196], none, false, [], none) := by kernel_rfl
theorem row202 : fnRow Try.prog Try.f202 = ([189], none, false, [], none) := by kernel_rfl
theorem row203 : fnRow Try.prog Try.f203 = ([], none, false, [], none) := by kernel_rfl
theorem row204 : fnRow Try.prog Try.f204 = ([205], none, false, [], none) := by kernel_rfl
theorem row205 : fnRow Try.prog Try.f205 = ([207, 207, 207], none, false, [], none) := by kernel_rfl
theorem row206 : fnRow Try.prog Try.f206 = ([], none, false, [], none) := by kernel_rfl
theorem row207 : fnRow Try.prog Try.f207 = ([196], none, false, [], none) := by kernel_rfl
theorem row208 : fnRow Try.prog Try.f208 = ([], some Try.f208.name, false, [], none) := by kernel_rfl
theorem row209 : fnRow Try.prog Try.f209 = ([], some Try.f209.name, false, [], none) := by kernel_rfl
theorem row210 : fnRow Try.prog Try.f210 = ([], some Try.f210.name, false, [], none) := by kernel_rfl
theorem row211 : fnRow Try.prog Try.f211 = ([], some Try.f211.name, false, [], none) := by kernel_rfl
theorem row212 : fnRow Try.prog Try.f212 = ([], some Try.f212.name, false, [], none) := by kernel_rfl
theorem row213 : fnRow Try.prog Try.f213 = ([], some Try.f213.name, false, [], none) := by kernel_rfl
theorem row214 : fnRow Try.prog Try.f214 = ([], some Try.f214.name, false, [], none) := by kernel_rfl
theorem row215 : fnRow Try.prog Try.f215 = ([], some Try.f215.name, false, [], none) := by kernel_rfl
theorem row216 : fnRow Try.prog Try.f216 = ([], some Try.f216.name, false, [], none) := by kernel_rfl
theorem row217 : fnRow Try.prog Try.f217 = ([], some Try.f217.name, false, [], none) := by kernel_rfl
theorem row218 : fnRow Try.prog Try.f218 = ([], some Try.f218.name, false, [], none) := by kernel_rfl
theorem row219 : fnRow Try.prog Try.f219 = ([], some Try.f219.name, false, [], none) := by kernel_rfl
theorem row220 : fnRow Try.prog Try.f220 = ([], some Try.f220.name, false, [], none) := by kernel_rfl
theorem row221 : fnRow Try.prog Try.f221 = ([], some Try.f221.name, false, [], none) := by kernel_rfl
theorem row222 : fnRow Try.prog Try.f222 = ([], some Try.f222.name, false, [], none) := by kernel_rfl
theorem row223 : fnRow Try.prog Try.f223 = ([], some Try.f223.name, false, [], none) := by kernel_rfl
theorem row224 : fnRow Try.prog Try.f224 = ([], some Try.f224.name, false, [], none) := by kernel_rfl
noncomputable def rowsT : List FRow := [([], some Try.f0.name, false, [], none), ([], some Try.f1.name, false, [], none), ([1], none, false, [], none), ([8, 9, 10, 11, 13, 12, 14, 15, 16, 17, 18, 19, 20, 21, 20, 22, 19], none, false, [], none), ([8, 23, 21, 24, 25, 26, 13, 27, 22, 28, 13, 29, 30, 31, 19, 32, 33, 32, 34, 21, 35, 21, 35, 25, 21, 32], none, false, [], none), ([8, 36, 37, 38, 39, 40, 41, 42, 43, 44, 13, 45, 46, 47, 13, 48, 49, 50, 19, 51, 19, 52, 20, 21, 52], none, false, [], none), ([8, 53, 54, 55, 13, 56, 57, 58, 13, 59, 60, 61, 62, 63, 64, 65, 19, 19, 66, 67, 66, 66, 66, 64, 66, 68, 69, 19, 57], none, false, [], none), ([8, 70, 71, 72, 73, 74, 51, 75, 13, 76, 77, 52], none, false, [], none), ([], none, false, [], none), ([78, 80, 79, 80, 82, 81, 80, 79, 83], none, false, [], none), ([84, 85, 86, 85, 34, 87, 89, 90, 88], none, false, [], none), ([92, 93, 94], none, false, [], none), ([95, 96, 28, 97], none, false, [], none), ([], none, false, [], none), ([98, 99], none, false, [], none), ([100, 101], none, false, [], none), ([14, 99], none, false, [], none), ([100, 101], none, false, [], none), ([], none, false, [], none), ([], none, false, [], none), ([86, 87], none, false, [], none), ([32, 34, 91], none, false, [], none), ([98, 91], none, false, [], none), ([78, 83], none, false, [], none), ([93, 102, 81], none, false, [], none), ([32, 103, 103], none, false, [], none), ([93, 104, 104], none, false, [], none), ([95, 96], none, false, [], none), ([100, 81], none, false, [], none), ([78, 78], none, false, [], none), ([32, 32, 32], none, false, [], none), ([93, 93, 93], none, false, [], none), ([34, 34], none, false, [], none), ([93], none, false, [], none), ([84], none, false, [], none), ([34, 103], none, false, [], none), ([105], none, false, [], none), ([32, 106], none, false, [], none), ([93, 107], none, false, [], none), ([32, 106, 108, 109], none, false, [], none), ([93, 107], none, false, [], none), ([32, 106], none, false, [], none), ([93, 107], none, false, [], none), ([32, 110], none, false, [], none), ([93, 107], none, false, [], none), ([78, 93, 97, 80, 82, 81, 83], none, false, [], none), ([32, 34, 99], none, false, [], none), ([93, 102, 101], none, false, [], none), ([80, 79], none, false, [], none), ([84, 89, 111, 110], none, false, [], none), ([112, 93, 113, 107], none, false, [], none), ([19], none, false, [], none), ([], none, false, [], none), ([114], none, false, [], none), ([115], none, false, [], none), ([116], none, false, [], none), ([117, 118], none, false, [], none), ([66, 119, 120], none, false, [], none), ([121, 122], none, false, [], none), ([117, 80, 118], none, false, [], none), ([66, 119, 120], none, false, [], none), ([121, 122], none, false, [], none), ([66, 123], none, false, [], none), ([121, 124], none, false, [], none), ([66, 125], none, false, [], none), ([121, 124], none, false, [], none), ([115, 127, 126, 32, 84], none, false, [], none), ([121], none, false, [], none), ([115, 128, 103], none, false, [], none), ([115, 128, 129], none, false, [], none), ([131, 132, 130], none, false, [], none), ([135, 134, 136, 137, 138], none, false, [], none), ([80, 79], none, false, [], none), ([84, 131, 139, 130], none, false, [], none), ([112, 135, 134, 136], none, false, [], none), ([141, 133], none, false, [], none), ([142], none, false, [], none), ([141, 140], none, false, [], none), ([79, 80, 97, 80, 79, 79], none, false, [], none), ([80], none, false, [], none), ([143, 143], none, false, [], none), ([], none, false, [], none), ([], none, false, [], none), ([80, 79, 79, 97, 80, 80, 82, 97, 80], none, false, [], none), ([], none, false, [], none), ([145, 144], none, false, [], none), ([84], none, false, [], none), ([], none, false, [], none), ([146], none, true, [], none), ([], none, false, [], none), ([91], none, false, [], none), ([], none, false, [], none), ([112, 112, 102], none, false, [], none), ([102, 102], none, false, [], none), ([82, 81], none, false, [], none), ([97, 114, 79, 79, 82], none, false, [], none), ([97, 78, 97], none, false, [], none), ([80], none, false, [], none), ([115, 126, 32], none, false, [], none), ([87, 91], none, false, [], none), ([116, 93], none, false, [], none), ([82, 81], none, false, [], none), ([112], none, false, [], none), ([147], none, false, [], none), ([148], none, false, [], none), ([78], none, false, [], none), ([87, 91, 99], none, false, [], none), ([82, 81, 101], none, false, [], none), ([149], none, true, [], none), ([], none, false, [], none), ([106], none, false, [], none), ([150], none, false, [], none), ([], none, false, [], none), ([151, 151], none, false, [], none), ([79, 83, 97], none, false, [], none), ([85, 34], none, false, [], none), ([102], none, false, [], none), ([95, 55, 80, 118, 122, 80, 79, 80, 83, 80, 79], none, false, [], none), ([79, 80, 80, 80, 80, 80, 80, 79, 79, 79], none, false, [], none), ([84, 86, 84, 84, 152], none, false, [], none), ([87, 153, 103, 153, 129], none, false, [], none), ([102, 154, 93, 112], none, false, [], none), ([155, 121], none, false, [], none), ([], none, false, [], none), ([154, 81], none, false, [], none), ([152, 91], none, false, [], none), ([157, 156], none, false, [], none), ([152], none, false, [], none), ([158], none, true, [], none), ([147], none, false, [], none), ([159], none, true, [], none), ([], none, false, [], none), ([133, 123], none, false, [], none), ([160, 123, 161, 140, 140], none, false, [], none), ([162], none, false, [], none), ([], none, false, [], none), ([163], none, false, [], none), ([164, 136, 136], none, false, [], none), ([], none, false, [], none), ([140], none, false, [], none), ([165], none, false, [], none), ([85, 86], none, false, [], none), ([79, 80, 80, 80, 79, 80, 79], none, false, [], none), ([], none, false, [], none), ([166], none, false, [], none), ([], none, true, [], none), ([], none, true, [], none), ([], none, false, [], none), ([], none, false, [], none), ([], none, true, [], none), ([167, 168], none, false, [], none), ([], none, false, [], none), ([], none, false, [], none), ([], none, true, [], none), ([], none, false, [], none), ([112, 112, 82, 169, 170], none, false, [], none), ([146], none, false, [], none), ([], none, true, [], none), ([], none, false, [], none), ([123], none, true, [], none), ([173, 172, 171], none, false, [], none), ([], none, false, [], none), ([], none, false, [], none), ([174, 175], none, false, [], none), ([], none, false, [], none), ([177, 176], none, false, [], none), ([], none, true, [], none), ([], none, false, [], none), ([], none, false, [], none), ([112], none, false, [], none), ([104, 104, 104, 179, 179, 179], none, false, [], none), ([], none, false, [], none), ([180, 181], none, false, [], none), ([182], none, false, [], none), ([], none, false, [], none), ([183, 82, 81], none, false, [], none), ([184], none, true, [], none), ([178], none, false, [], none), ([185, 186, 166], none, false, [], none), ([148], none, false, [], none), ([187], none, false, [], none), ([189, 188], none, false, [], none), ([], none, true, [], none), ([], none, false, [], none), ([84, 84], none, false, [], none), ([], none, false, [], none), ([87, 91, 87], none, false, [], none), ([], none, true, [], none), ([190, 191, 192, 193, 194, 195, 196, 197, 198, 188, 188], none, false, [], none), ([199, 200], none, false, [], none), ([196], none, false, [], none), ([201, 201], none, false, [], none), ([202, 203], none, false, [], none), ([204, 204, 204, 205], none, false, [], none), ([], none, false, [], none), ([196, 196, 196], none, false, [], none), ([206, 206], none, false, [], none), ([196, 196], none, false, [], none), ([196, 196, 196, 196], none, false, [], none), ([], none, false, [], none), ([], none, false, [], none), ([196, 196], none, false, [], none), ([189], none, false, [], none), ([], none, false, [], none), ([205], none, false, [], none), ([207, 207, 207], none, false, [], none), ([], none, false, [], none), ([196], none, false, [], none), ([], some Try.f208.name, false, [], none), ([], some Try.f209.name, false, [], none), ([], some Try.f210.name, false, [], none), ([], some Try.f211.name, false, [], none), ([], some Try.f212.name, false, [], none), ([], some Try.f213.name, false, [], none), ([], some Try.f214.name, false, [], none), ([], some Try.f215.name, false, [], none), ([], some Try.f216.name, false, [], none), ([], some Try.f217.name, false, [], none), ([], some Try.f218.name, false, [], none), ([], some Try.f219.name, false, [], none), ([], some Try.f220.name, false, [], none), ([], some Try.f221.name, false, [], none), ([], some Try.f222.name, false, [], none), ([], some Try.f223.name, false, [], none), ([], some Try.f224.name, false, [], none)]
theorem funcsL : Try.prog.funcs.toList = [Try.f0, Try.f1, Try.f2, Try.f3, Try.f4, Try.f5, Try.f6, Try.f7, Try.f8, Try.f9, Try.f10, Try.f11, Try.f12, Try.f13, Try.f14, Try.f15, Try.f16, Try.f17, Try.f18, Try.f19, Try.f20, Try.f21, Try.f22, Try.f23, Try.f24, Try.f25, Try.f26, Try.f27, Try.f28, Try.f29, Try.f30, Try.f31, Try.f32, Try.f33, Try.f34, Try.f35, Try.f36, Try.f37, Try.f38, Try.f39, Try.f40, Try.f41, Try.f42, Try.f43, Try.f44, Try.f45, Try.f46, Try.f47, Try.f48, Try.f49, Try.f50, Try.f51, Try.f52, Try.f53, Try.f54, Try.f55, Try.f56, Try.f57, Try.f58, Try.f59, Try.f60, Try.f61, Try.f62, Try.f63, Try.f64, Try.f65, Try.f66, Try.f67, Try.f68, Try.f69, Try.f70, Try.f71, Try.f72, Try.f73, Try.f74, Try.f75, Try.f76, Try.f77, Try.f78, Try.f79, Try.f80, Try.f81, Try.f82, Try.f83, Try.f84, Try.f85, Try.f86, Try.f87, Try.f88, Try.f89, Try.f90, Try.f91, Try.f92, Try.f93, Try.f94, Try.f95, Try.f96, Try.f97, Try.f98, Try.f99, Try.f100, Try.f101, Try.f102, Try.f103, Try.f104, Try.f105, Try.f106, Try.f107, Try.f108, Try.f109, Try.f110, Try.f111, Try.f112, Try.f113, Try.f114, Try.f115, Try.f116, Try.f117, Try.f118, Try.f119, Try.f120, Try.f121, Try.f122, Try.f123, Try.f124, Try.f125, Try.f126, Try.f127, Try.f128, Try.f129, Try.f130, Try.f131, Try.f132, Try.f133, Try.f134, Try.f135, Try.f136, Try.f137, Try.f138, Try.f139, Try.f140, Try.f141, Try.f142, Try.f143, Try.f144, Try.f145, Try.f146, Try.f147, Try.f148, Try.f149, Try.f150, Try.f151, Try.f152, Try.f153, Try.f154, Try.f155, Try.f156, Try.f157, Try.f158, Try.f159, Try.f160, Try.f161, Try.f162, Try.f163, Try.f164, Try.f165, Try.f166, Try.f167, Try.f168, Try.f169, Try.f170, Try.f171, Try.f172, Try.f173, Try.f174, Try.f175, Try.f176, Try.f177, Try.f178, Try.f179, Try.f180, Try.f181, Try.f182, Try.f183, Try.f184, Try.f185, Try.f186, Try.f187, Try.f188, Try.f189, Try.f190, Try.f191, Try.f192, Try.f193, Try.f194, Try.f195, Try.f196, Try.f197, Try.f198, Try.f199, Try.f200, Try.f201, Try.f202, Try.f203, Try.f204, Try.f205, Try.f206, Try.f207, Try.f208, Try.f209, Try.f210, Try.f211, Try.f212, Try.f213, Try.f214, Try.f215, Try.f216, Try.f217, Try.f218, Try.f219, Try.f220, Try.f221, Try.f222, Try.f223, Try.f224] := by kernel_rfl
theorem map_cons_of {α β : Type} {g : α → β} {a : α} {b : β} {l : List α} {m : List β} (h : g a = b) (k : l.map g = m) : (a :: l).map g = b :: m := by rw [List.map_cons, h, k]
theorem rowsAll : Try.prog.funcs.toList.map (fnRow Try.prog) = rowsT := by
  rw [funcsL]
  exact map_cons_of row0 (map_cons_of row1 (map_cons_of row2 (map_cons_of row3 (map_cons_of row4 (map_cons_of row5 (map_cons_of row6 (map_cons_of row7 (map_cons_of row8 (map_cons_of row9 (map_cons_of row10 (map_cons_of row11 (map_cons_of row12 (map_cons_of row13 (map_cons_of row14 (map_cons_of row15 (map_cons_of row16 (map_cons_of row17 (map_cons_of row18 (map_cons_of row19 (map_cons_of row20 (map_cons_of row21 (map_cons_of row22 (map_cons_of row23 (map_cons_of row24 (map_cons_of row25 (map_cons_of row26 (map_cons_of row27 (map_cons_of row28 (map_cons_of row29 (map_cons_of row30 (map_cons_of row31 (map_cons_of row32 (map_cons_of row33 (map_cons_of row34 (map_cons_of row35 (map_cons_of row36 (map_cons_of row37 (map_cons_of row38 (map_cons_of row39 (map_cons_of row40 (map_cons_of row41 (map_cons_of row42 (map_cons_of row43 (map_cons_of row44 (map_cons_of row45 (map_cons_of row46 (map_cons_of row47 (map_cons_of row48 (map_cons_of row49 (map_cons_of row50 (map_cons_of row51 (map_cons_of row52 (map_cons_of row53 (map_cons_of row54 (map_cons_of row55 (map_cons_of row56 (map_cons_of row57 (map_cons_of row58 (map_cons_of row59 (map_cons_of row60 (map_cons_of row61 (map_cons_of row62 (map_cons_of row63 (map_cons_of row64 (map_cons_of row65 (map_cons_of row66 (map_cons_of row67 (map_cons_of row68 (map_cons_of row69 (map_cons_of row70 (map_cons_of row71 (map_cons_of row72 (map_cons_of row73 (map_cons_of row74 (map_cons_of row75 (map_cons_of row76 (map_cons_of row77 (map_cons_of row78 (map_cons_of row79 (map_cons_of row80 (map_cons_of row81 (map_cons_of row82 (map_cons_of row83 (map_cons_of row84 (map_cons_of row85 (map_cons_of row86 (map_cons_of row87 (map_cons_of row88 (map_cons_of row89 (map_cons_of row90 (map_cons_of row91 (map_cons_of row92 (map_cons_of row93 (map_cons_of row94 (map_cons_of row95 (map_cons_of row96 (map_cons_of row97 (map_cons_of row98 (map_cons_of row99 (map_cons_of row100 (map_cons_of row101 (map_cons_of row102 (map_cons_of row103 (map_cons_of row104 (map_cons_of row105 (map_cons_of row106 (map_cons_of row107 (map_cons_of row108 (map_cons_of row109 (map_cons_of row110 (map_cons_of row111 (map_cons_of row112 (map_cons_of row113 (map_cons_of row114 (map_cons_of row115 (map_cons_of row116 (map_cons_of row117 (map_cons_of row118 (map_cons_of row119 (map_cons_of row120 (map_cons_of row121 (map_cons_of row122 (map_cons_of row123 (map_cons_of row124 (map_cons_of row125 (map_cons_of row126 (map_cons_of row127 (map_cons_of row128 (map_cons_of row129 (map_cons_of row130 (map_cons_of row131 (map_cons_of row132 (map_cons_of row133 (map_cons_of row134 (map_cons_of row135 (map_cons_of row136 (map_cons_of row137 (map_cons_of row138 (map_cons_of row139 (map_cons_of row140 (map_cons_of row141 (map_cons_of row142 (map_cons_of row143 (map_cons_of row144 (map_cons_of row145 (map_cons_of row146 (map_cons_of row147 (map_cons_of row148 (map_cons_of row149 (map_cons_of row150 (map_cons_of row151 (map_cons_of row152 (map_cons_of row153 (map_cons_of row154 (map_cons_of row155 (map_cons_of row156 (map_cons_of row157 (map_cons_of row158 (map_cons_of row159 (map_cons_of row160 (map_cons_of row161 (map_cons_of row162 (map_cons_of row163 (map_cons_of row164 (map_cons_of row165 (map_cons_of row166 (map_cons_of row167 (map_cons_of row168 (map_cons_of row169 (map_cons_of row170 (map_cons_of row171 (map_cons_of row172 (map_cons_of row173 (map_cons_of row174 (map_cons_of row175 (map_cons_of row176 (map_cons_of row177 (map_cons_of row178 (map_cons_of row179 (map_cons_of row180 (map_cons_of row181 (map_cons_of row182 (map_cons_of row183 (map_cons_of row184 (map_cons_of row185 (map_cons_of row186 (map_cons_of row187 (map_cons_of row188 (map_cons_of row189 (map_cons_of row190 (map_cons_of row191 (map_cons_of row192 (map_cons_of row193 (map_cons_of row194 (map_cons_of row195 (map_cons_of row196 (map_cons_of row197 (map_cons_of row198 (map_cons_of row199 (map_cons_of row200 (map_cons_of row201 (map_cons_of row202 (map_cons_of row203 (map_cons_of row204 (map_cons_of row205 (map_cons_of row206 (map_cons_of row207 (map_cons_of row208 (map_cons_of row209 (map_cons_of row210 (map_cons_of row211 (map_cons_of row212 (map_cons_of row213 (map_cons_of row214 (map_cons_of row215 (map_cons_of row216 (map_cons_of row217 (map_cons_of row218 (map_cons_of row219 (map_cons_of row220 (map_cons_of row221 (map_cons_of row222 (map_cons_of row223 (map_cons_of row224 rfl))))))))))))))))))))))))))))))))))))))))))))))))))))))))))))))))))))))))))))))))))))))))))))))))))))))))))))))))))))))))))))))))))))))))))))))))))))))))))))))))))))))))))))))))))))))))))))))))))))))))))))))))))))))))))))))))
def headC : List Nat := [104, 97, 114, 110, 101, 115, 115, 32, 50, 48, 52, 102, 55, 57, 48, 100, 51, 57, 56, 57, 57, 99, 50, 102, 56, 56, 56, 48, 100, 54, 100, 54, 56, 55, 57, 101, 50, 52, 49, 57, 53, 57, 55, 50, 98, 51, 53, 57, 56, 101, 54, 99, 57, 98, 57, 52, 100, 56, 56, 55, 52, 101, 101, 97, 53, 56, 98, 101, 55, 57, 50, 55, 32, 99, 117, 116, 32, 97, 116, 32, 108, 111, 111, 112, 46, 101, 120, 97, 109, 112, 108, 101, 47, 103, 48, 49, 50, 54, 53, 47, 108, 97, 119, 115, 46, 70, 110, 70, 97, 117, 108, 116, 115, 70, 111, 117, 110, 100, 32, 108, 111, 111, 112, 46, 101, 120, 97, 109, 112, 108, 101, 47, 103, 48, 49, 50, 54, 53, 47, 108, 97, 119, 115, 46, 70, 110, 83, 104, 111, 119, 110, 32, 108, 111, 111, 112, 46, 101, 120, 97, 109, 112, 108, 101, 47, 103, 48, 49, 50, 54, 53, 47, 108, 97, 119, 115, 46, 70, 110, 84, 111, 108, 100, 32, 108, 111, 111, 112, 46, 101, 120, 97, 109, 112, 108, 101, 47, 103, 48, 49, 50, 54, 53, 47, 108, 97, 119, 115, 46, 70, 110, 66, 101, 110, 99, 104, 101, 115, 32, 108, 111, 111, 112, 46, 101, 120, 97, 109, 112, 108, 101, 47, 103, 48, 49, 50, 54, 53, 47, 108, 97, 119, 115, 46, 70, 110, 76, 101, 97, 115, 116, 84, 101, 115, 116, 115]
def headW : List (List Nat) := [[104, 97, 114, 110, 101, 115, 115], [50, 48, 52, 102, 55, 57, 48, 100, 51, 57, 56, 57, 57, 99, 50, 102, 56, 56, 56, 48, 100, 54, 100, 54, 56, 55, 57, 101, 50, 52, 49, 57, 53, 57, 55, 50, 98, 51, 53, 57, 56, 101, 54, 99, 57, 98, 57, 52, 100, 56, 56, 55, 52, 101, 101, 97, 53, 56, 98, 101, 55, 57, 50, 55], [99, 117, 116], [97, 116], [108, 111, 111, 112, 46, 101, 120, 97, 109, 112, 108, 101, 47, 103, 48, 49, 50, 54, 53, 47, 108, 97, 119, 115, 46, 70, 110, 70, 97, 117, 108, 116, 115, 70, 111, 117, 110, 100], [108, 111, 111, 112, 46, 101, 120, 97, 109, 112, 108, 101, 47, 103, 48, 49, 50, 54, 53, 47, 108, 97, 119, 115, 46, 70, 110, 83, 104, 111, 119, 110], [108, 111, 111, 112, 46, 101, 120, 97, 109, 112, 108, 101, 47, 103, 48, 49, 50, 54, 53, 47, 108, 97, 119, 115, 46, 70, 110, 84, 111, 108, 100], [108, 111, 111, 112, 46, 101, 120, 97, 109, 112, 108, 101, 47, 103, 48, 49, 50, 54, 53, 47, 108, 97, 119, 115, 46, 70, 110, 66, 101, 110, 99, 104, 101, 115], [108, 111, 111, 112, 46, 101, 120, 97, 109, 112, 108, 101, 47, 103, 48, 49, 50, 54, 53, 47, 108, 97, 119, 115, 46, 70, 110, 76, 101, 97, 115, 116, 84, 101, 115, 116, 115]]
theorem headEq : Try.prog.initOrder = String.ofList (headC.map Char.ofNat) := by kernel_rfl
theorem headWords : wordsSigns Try.prog.initOrder.toList = headW.map (fun l => l.map Char.ofNat) := by
  rw [headEq, String.toList_ofList]; kernel_rfl
def headR : List (List Nat) := headW.drop 3
theorem headB : behindMainWord (wordsSigns Try.prog.initOrder.toList) = String.toList (String.ofList ([99, 117, 116].map Char.ofNat)) :: headR.map (fun l => l.map Char.ofNat) := by
  rw [headWords, String.toList_ofList]; kernel_rfl
theorem cutW : String.ofList ([99, 117, 116].map Char.ofNat) = "cut" := by kernel_rfl
theorem headCut : behindMainWord (wordsSigns Try.prog.initOrder.toList) = "cut".toList :: headR.map (fun l => l.map Char.ofNat) := by rw [headB, cutW]
theorem stripCut (l : List (List Char)) : stripLifts liftWords ("cut".toList :: l) = ([], "cut".toList :: l) := by
  simp [stripLifts, liftWords]
theorem make_of {P : Program} {r : List (List Char)} (h : behindMainWord (wordsSigns P.initOrder.toList) = "cut".toList :: r) : P.make = some .cut := by
  unfold Program.make; rw [h]; simp
theorem lifts_of {P : Program} {r : List (List Char)} (h : behindMainWord (wordsSigns P.initOrder.toList) = "cut".toList :: r) : P.liftsFinal = false := by
  unfold Program.liftsFinal Program.headLifts; rw [h, stripCut]; simp
theorem may_of {P : Program} {r : List (List Char)} (h : behindMainWord (wordsSigns P.initOrder.toList) = "cut".toList :: r) (h1 : P.laysLater = false) (h2 : P.bearsReflect = false) (h3 : P.doorFits [] = true) : P.mayEnter = true := by
  unfold Program.mayEnter; rw [h]; simp only [stripCut]; rw [h1, h2, h3]; simp
theorem laysNot : Try.prog.laysLater = false := by kernel_rfl
theorem bearsNot : Try.prog.bearsReflect = false := by kernel_rfl
theorem doorOk : Try.prog.doorFits [] = true := by kernel_rfl
theorem factMay : Try.prog.mayEnter = true := may_of headCut laysNot bearsNot doorOk
theorem factLifts : Try.prog.liftsFinal = false := lifts_of headCut
theorem factMake : Try.prog.make = some .cut := make_of headCut
theorem and_mk {a b : Bool} (ha : a = true) (hb : b = true) : (a && b) = true := by rw [ha, hb]; rfl
end Go.Proofs.Ytlipkplomndjcaa