/- What each function of the program names, a row a function: so the closed facts of a row about what its function reaches are reckoned from a small table. -/
import Derived.Test.YtohgjfdbnkjefaaGreatDoorProg
import Derived.JoinedOf
import Derived.KernelRfl
namespace Go.Proofs.YtohgjfdbnkjefaaGreatDoor
set_option linter.unusedVariables false
set_option maxRecDepth 100000

abbrev FRow := List Nat × Option String × Bool × List Nat × Option String
def inPlaceAt (fn : Func) : Option String := if fn.ours || fn.body.isNone || fn.name == "runtime.NumGoroutine" then some fn.name else none
def fnRow (P : Program) (fn : Func) : FRow :=
  (P.leadsTo fn, inPlaceAt fn, (match fn.body with | some c => c.unfollowed | none => entryCalls fn), (fn.body.elim [] Code.globalsNamed), (if fn.body.isNone then entryReads.lookup fn.name else none))
def cvT (T : List FRow) : Nat → List Nat → List Nat → List Nat
  | 0, _, seen => seen.reverse
  | _, [], seen => seen.reverse
  | n + 1, f :: todo, seen => if seen.contains f then cvT T n todo seen else cvT T n ((T[f]?).elim [] (·.1) ++ todo) (f :: seen)
section
variable {P : Program} {T : List FRow}
theorem tab_at (hT : P.funcs.toList.map (fnRow P) = T) (k : Nat) : T[k]? = (P.funcs[k]?).map (fnRow P) := by
  rw [← hT, List.getElem?_map]; simp
theorem cvT_eq (hT : P.funcs.toList.map (fnRow P) = T) : ∀ (n : Nat) (todo seen : List Nat), P.closureVia n todo seen = cvT T n todo seen
  | 0, _, _ => by simp [Program.closureVia, cvT]
  | n + 1, [], _ => by simp [Program.closureVia, cvT]
  | n + 1, f :: todo, seen => by
    unfold Program.closureVia cvT
    rw [cvT_eq hT n, cvT_eq hT n, tab_at hT f]
    cases P.funcs[f]? <;> rfl
def closT (T : List FRow) (f : Nat) : List Nat := cvT T (1 + (T.map fun r => r.1.length + 1).sum) [f] []
theorem closT_eq (hT : P.funcs.toList.map (fnRow P) = T) (f : Nat) : P.closure f = closT T f := by
  unfold Program.closure closT
  rw [cvT_eq hT, ← hT, List.map_map]; rfl
theorem inPlaceT (hT : P.funcs.toList.map (fnRow P) = T) (f : Nat) : P.inPlace f = (closT T f).filterMap fun g => (T[g]?).bind (·.2.1) := by
  unfold Program.inPlace
  rw [closT_eq hT]
  congr 1; funext g
  rw [tab_at hT g]; cases P.funcs[g]? <;> rfl
theorem unfollowedT (hT : P.funcs.toList.map (fnRow P) = T) (f : Nat) : P.unfollowed f = (closT T f).any fun g => (T[g]?).any (·.2.2.1) := by
  unfold Program.unfollowed
  rw [closT_eq hT]
  congr 1; funext g
  rw [tab_at hT g]; cases P.funcs[g]? <;> rfl
theorem varsT (hT : P.funcs.toList.map (fnRow P) = T) (f : Nat) : P.varsNamed f =
    ((((closT T f).flatMap fun g => (T[g]?).elim [] (·.2.2.2.1)).eraseDups).filterMap (fun g => (P.globals[g]?).map (·.name)) ++ (closT T f).filterMap fun g => (T[g]?).bind (·.2.2.2.2)).eraseDups := by
  unfold Program.varsNamed
  rw [closT_eq hT]
  have e1 : (fun g : Nat => ((P.funcs[g]?).bind fun x : Func => x.body).elim [] Code.globalsNamed) = fun g : Nat => (T[g]?).elim [] fun x : FRow => x.2.2.2.1 := by
    funext g; rw [tab_at hT g]; cases P.funcs[g]? <;> rfl
  have e2 : (fun g : Nat => (P.funcs[g]?).bind fun fn : Func => if fn.body.isNone then entryReads.lookup fn.name else none) = fun g : Nat => (T[g]?).bind fun x : FRow => x.2.2.2.2 := by
    funext g; rw [tab_at hT g]; cases P.funcs[g]? <;> rfl
  rw [e1, e2]
theorem recursesEq (hT : P.funcs.toList.map (fnRow P) = T) (f : Nat) : P.recurses f = (((closT T f).any fun g => (T[g]?).any (·.2.2.1)) || (closT T f).any fun g => ((T[g]?).elim [] (·.1)).any fun h => (closT T h).contains g) := by
  unfold Program.recurses
  rw [unfollowedT hT, closT_eq hT]
  congr 1
  congr 1; funext g
  have e1 : ((P.funcs[g]?).elim [] P.leadsTo) = (T[g]?).elim [] fun x : FRow => x.1 := by
    rw [tab_at hT g]; cases P.funcs[g]? <;> rfl
  rw [e1]
  congr 1; funext h
  rw [closT_eq hT]
theorem recursesT {f : Nat} (h : P.unfollowed f = true) : P.recurses f = true := by unfold Program.recurses; rw [h]; rfl
end

abbrev nf (l : List Nat) : FRow := (l, none, false, [], none)
noncomputable def rowsT : List FRow := [([],some Tryz.f0.name,false,[],none),([],some Tryz.f1.name,false,[],none),nf [1],nf [9,10,11,12,13,13,13,13,13,13,14,15,16,16,17,18,19,20,21,22,21,21,21],nf [23,25,26,24,25,26,27],nf [28,30,29,30,13,31],nf [28,30,32,30,33,34,35,36,30,33,34,36],nf [9,37,11,38,40,39,40,41,13,29,42,43,44,42,43,45,43,40,46,33,32,47,48,13],nf [9,49,27,24,40,46,11,48,13,27],nf [],nf [50],nf [51],nf [52],nf [43,53,54,55],nf [51,56],nf [51,57],nf [58,59],nf [58,60],nf [58,61],nf [62,63],nf [62,63],nf [64],nf [65,66],nf [],nf [38,67,68,29],nf [69,69,69],nf [],nf [11,70,13],nf [23],nf [44,71,72,73],nf [25,26],nf [74,75],nf [44,76,29],nf [77,43,13],nf [],nf [78],nf [78],nf [10],nf [52],nf [79],nf [],nf [79,80],nf [],nf [51,81],nf [52,67],nf [70],nf [79,80,83,82,80],nf [],nf [77],nf [50,38,83,80,29,84,85,73,84,86],nf [88,87,83,90,89,83,82,83,91,83,82],nf [58,93,92,62,94],nf [95,97,96,98],nf [94,99,65],nf [77,100,101,102,103,104,56,59],nf [81,105,106],nf [107,108],nf [],nf [109,110],nf [111,66],nf [112,113],nf [114],nf [110,110],nf [112,108,115],nf [94,116],nf [117],nf [118,119,119,119,120],nf [68,68],nf [76,121],nf [],nf [122,123],nf [124,125,124],nf [76,126,127,128,129,130],nf [67,71,131],nf [132,132,132],nf [],nf [],nf [133],nf [],nf [50,38,83,80,29,83,83,73],nf [83,134,83,134,83,134,135,84,136],nf [70],nf [83],nf [137,137],nf [83],nf [135,135,83,135,135],nf [138,83,136],nf [139],nf [84,140,82,82,141],nf [142,52],nf [82,83,83,83,83,83,83,82,82,82],nf [83,82,82,84,83,83,141,84,83],nf [144,143],nf [107],nf [],nf [98],nf [95,95],nf [],nf [],nf [94],nf [145,94,116],nf [146],nf [147,148,149,150,151,152],nf [94,153,94,94,107],nf [112,154,155,154,156],nf [53,99],nf [94,105,116,157],nf [],nf [],nf [159,158],nf [94],nf [],nf [],nf [],nf [160,161],nf [112,108],nf [162],nf [163],nf [164,165],nf [164],nf [],nf [134,76,76,71,131],([166,167],none,true,[],none),nf [168],nf [98],nf [],nf [169],nf [170],nf [89,172,171],nf [172,171,172,171,174,173,175,173,97,177,176,178,134],nf [180,179,182,181,183],nf [134,184],nf [],nf [185,186,117],nf [134,134,134,134],nf [83],nf [83,83,83],nf [],nf [83,85,73,84,187],nf [95],nf [82,91,84],nf [],nf [98,98,141,188,189],nf [190],([],none,true,[],none),nf [191,192],nf [57],nf [56,59,59,17,116,18,116,93,193,194,195,116],nf [196,197],nf [],nf [94,198,18,199],nf [116,116],nf [94,107,56,115,194,19,194,63,116,200,149,112,201,194,202,151],nf [94],([],none,true,[],none),nf [203],nf [203],nf [65,204,116],nf [205],([],none,true,[],none),nf [],nf [],nf [206],([207,208,207,209,208,210],none,false,[0,0,0],none),nf [211],nf [212],nf [213],nf [216,215,217,217,106],nf [],nf [98,134],nf [],nf [218],nf [97,219],nf [134],nf [139,220],nf [139,221],nf [134,134],nf [222,223],nf [225,224,226,227,228],nf [134,134],nf [98,141,221,229],nf [],nf [230,226],nf [98,97,219,231,176,232,176,233,173,234,181,225,235,236,176,237,179],nf [238,134],nf [239,240],nf [239,241,117],nf [67],nf [98],nf [242,242,242,243,243,243],([],none,true,[],none),nf [244],nf [245,246,247,248],nf [249,115],nf [116,66],nf [251,252,250],nf [109,153],nf [254],nf [116,112],nf [],nf [63],nf [255,110,256,61],nf [62,63,199],nf [],nf [],([],none,true,[],none),nf [257,258,259,260],nf [261],([],some Tryz.f208.name,false,[],entryReads.lookup Tryz.f208.name),nf [],nf [262],([],some Tryz.f211.name,false,[],none),([],some Tryz.f212.name,false,[],none),([214],none,true,[],none),nf [207],nf [263,157],nf [264],nf [265],nf [],nf [],nf [266],nf [],nf [139,96],nf [141,219],nf [267],nf [],nf [268],nf [170,226,226],nf [],nf [269,269],nf [98],nf [96,95,223],nf [96,270],nf [96,270],nf [96,270],nf [98,98,271,141],nf [272],nf [96,270,229],nf [],nf [],nf [273],([],some Tryz.f241.name,false,[],none),nf [274],nf [274],nf [275],([276],none,false,[1],none),([276],none,false,[2],none),nf [276,116,277],nf [276,116,277],nf [278,115],([279],none,true,[],none),nf [],nf [253,57],nf [280,57,281,197,197],nf [283,282],nf [94,110,285],nf [61],nf [],([287,286,288],none,false,[3],none),nf [],nf [289,290],([],some Tryz.f261.name,false,[],none),nf [],nf [291,292],nf [168],nf [163],nf [141],nf [],nf [293,294],nf [],nf [141,219,223],nf [],nf [221],([],none,false,[4,5],none),nf [],nf [295,295,295,295,295,295,296],nf [],nf [],nf [58,92,62],([57],none,true,[],none),nf [299,298,297],nf [],([300],none,true,[],none),nf [284],nf [301,302,205],nf [113],nf [],nf [],nf [],nf [],nf [303,304],nf [],nf [305],nf [],nf [306,141,219],nf [],nf [295,295,295,295,295,295],nf [],nf [307,308],nf [309],nf [94,94],nf [],nf [112,108,112],([],none,false,[6],none),([],none,false,[7],none),nf [],nf [],nf [310],nf [312,311],([],none,true,[],none),([],none,true,[],none),nf [313,314,315,316,317,318,319,320,321,311,311],nf [322,287],nf [319],nf [323,323],nf [324,325],nf [326,326,326,327],nf [],nf [319,319,319],nf [328,328],nf [319,319],nf [319,319,319,319],nf [],nf [319,319],nf [312],nf [],nf [327],nf [329,329,329],nf [],nf [319],([],some Tryz.f330.name,false,[],none),([],some Tryz.f331.name,false,[],none),([],some Tryz.f332.name,false,[],none),([],some Tryz.f333.name,false,[],none),([],some Tryz.f334.name,false,[],none),([],some Tryz.f335.name,false,[],none),([],some Tryz.f336.name,false,[],none),([],some Tryz.f337.name,false,[],none),([],some Tryz.f338.name,false,[],none),([],some Tryz.f339.name,false,[],none),([],some Tryz.f340.name,false,[],none),([],some Tryz.f341.name,false,[],none),([],some Tryz.f342.name,false,[],none),([],some Tryz.f343.name,false,[],none),([],some Tryz.f344.name,false,[],none),([],some Tryz.f345.name,false,[],none),([],some Tryz.f346.name,false,[],none),([],some Tryz.f347.name,false,[],none),([],some Tryz.f348.name,false,[],none),([],some Tryz.f349.name,false,[],none),([],some Tryz.f350.name,false,[],none),([],some Tryz.f351.name,false,[],none),([],some Tryz.f352.name,false,[],none),([],some Tryz.f353.name,false,[],none),([],some Tryz.f354.name,false,[],none),([],some Tryz.f355.name,false,[],none),([],some Tryz.f356.name,false,[],none),([],some Tryz.f357.name,false,[],none),([],some Tryz.f358.name,false,[],none),([],some Tryz.f359.name,false,[],none),([277,277],none,false,[6,7,3,5,2,1],none)]
noncomputable def fl0 : List Func := [Tryz.f0,Tryz.f1,Tryz.f2,Tryz.f3,Tryz.f4,Tryz.f5,Tryz.f6,Tryz.f7,Tryz.f8,Tryz.f9,Tryz.f10,Tryz.f11]
theorem fr0 : fl0.map (fnRow Tryz.prog) = (rowsT.drop 0).take 12 := by kernel_rfl
noncomputable def fl1 : List Func := [Tryz.f12,Tryz.f13,Tryz.f14,Tryz.f15,Tryz.f16,Tryz.f17,Tryz.f18,Tryz.f19,Tryz.f20,Tryz.f21,Tryz.f22,Tryz.f23]
theorem fr1 : fl1.map (fnRow Tryz.prog) = (rowsT.drop 12).take 12 := by kernel_rfl
noncomputable def fl2 : List Func := [Tryz.f24,Tryz.f25,Tryz.f26,Tryz.f27,Tryz.f28,Tryz.f29,Tryz.f30,Tryz.f31,Tryz.f32,Tryz.f33,Tryz.f34,Tryz.f35]
theorem fr2 : fl2.map (fnRow Tryz.prog) = (rowsT.drop 24).take 12 := by kernel_rfl
noncomputable def fl3 : List Func := [Tryz.f36,Tryz.f37,Tryz.f38,Tryz.f39,Tryz.f40,Tryz.f41,Tryz.f42,Tryz.f43,Tryz.f44,Tryz.f45,Tryz.f46,Tryz.f47]
theorem fr3 : fl3.map (fnRow Tryz.prog) = (rowsT.drop 36).take 12 := by kernel_rfl
noncomputable def fl4 : List Func := [Tryz.f48,Tryz.f49,Tryz.f50,Tryz.f51,Tryz.f52,Tryz.f53,Tryz.f54,Tryz.f55,Tryz.f56,Tryz.f57,Tryz.f58,Tryz.f59]
theorem fr4 : fl4.map (fnRow Tryz.prog) = (rowsT.drop 48).take 12 := by kernel_rfl
noncomputable def fl5 : List Func := [Tryz.f60,Tryz.f61,Tryz.f62,Tryz.f63,Tryz.f64,Tryz.f65,Tryz.f66,Tryz.f67,Tryz.f68,Tryz.f69,Tryz.f70,Tryz.f71]
theorem fr5 : fl5.map (fnRow Tryz.prog) = (rowsT.drop 60).take 12 := by kernel_rfl
noncomputable def fl6 : List Func := [Tryz.f72,Tryz.f73,Tryz.f74,Tryz.f75,Tryz.f76,Tryz.f77,Tryz.f78,Tryz.f79,Tryz.f80,Tryz.f81,Tryz.f82,Tryz.f83]
theorem fr6 : fl6.map (fnRow Tryz.prog) = (rowsT.drop 72).take 12 := by kernel_rfl
noncomputable def fl7 : List Func := [Tryz.f84,Tryz.f85,Tryz.f86,Tryz.f87,Tryz.f88,Tryz.f89,Tryz.f90,Tryz.f91,Tryz.f92,Tryz.f93,Tryz.f94,Tryz.f95]
theorem fr7 : fl7.map (fnRow Tryz.prog) = (rowsT.drop 84).take 12 := by kernel_rfl
noncomputable def fl8 : List Func := [Tryz.f96,Tryz.f97,Tryz.f98,Tryz.f99,Tryz.f100,Tryz.f101,Tryz.f102,Tryz.f103,Tryz.f104,Tryz.f105,Tryz.f106,Tryz.f107]
theorem fr8 : fl8.map (fnRow Tryz.prog) = (rowsT.drop 96).take 12 := by kernel_rfl
noncomputable def fl9 : List Func := [Tryz.f108,Tryz.f109,Tryz.f110,Tryz.f111,Tryz.f112,Tryz.f113,Tryz.f114,Tryz.f115,Tryz.f116,Tryz.f117,Tryz.f118,Tryz.f119]
theorem fr9 : fl9.map (fnRow Tryz.prog) = (rowsT.drop 108).take 12 := by kernel_rfl
noncomputable def fl10 : List Func := [Tryz.f120,Tryz.f121,Tryz.f122,Tryz.f123,Tryz.f124,Tryz.f125,Tryz.f126,Tryz.f127,Tryz.f128,Tryz.f129,Tryz.f130,Tryz.f131]
theorem fr10 : fl10.map (fnRow Tryz.prog) = (rowsT.drop 120).take 12 := by kernel_rfl
noncomputable def fl11 : List Func := [Tryz.f132,Tryz.f133,Tryz.f134,Tryz.f135,Tryz.f136,Tryz.f137,Tryz.f138,Tryz.f139,Tryz.f140,Tryz.f141,Tryz.f142,Tryz.f143]
theorem fr11 : fl11.map (fnRow Tryz.prog) = (rowsT.drop 132).take 12 := by kernel_rfl
noncomputable def fl12 : List Func := [Tryz.f144,Tryz.f145,Tryz.f146,Tryz.f147,Tryz.f148,Tryz.f149,Tryz.f150,Tryz.f151,Tryz.f152,Tryz.f153,Tryz.f154,Tryz.f155]
theorem fr12 : fl12.map (fnRow Tryz.prog) = (rowsT.drop 144).take 12 := by kernel_rfl
noncomputable def fl13 : List Func := [Tryz.f156,Tryz.f157,Tryz.f158,Tryz.f159,Tryz.f160,Tryz.f161,Tryz.f162,Tryz.f163,Tryz.f164,Tryz.f165,Tryz.f166,Tryz.f167]
theorem fr13 : fl13.map (fnRow Tryz.prog) = (rowsT.drop 156).take 12 := by kernel_rfl
noncomputable def fl14 : List Func := [Tryz.f168,Tryz.f169,Tryz.f170,Tryz.f171,Tryz.f172,Tryz.f173,Tryz.f174,Tryz.f175,Tryz.f176,Tryz.f177,Tryz.f178,Tryz.f179]
theorem fr14 : fl14.map (fnRow Tryz.prog) = (rowsT.drop 168).take 12 := by kernel_rfl
noncomputable def fl15 : List Func := [Tryz.f180,Tryz.f181,Tryz.f182,Tryz.f183,Tryz.f184,Tryz.f185,Tryz.f186,Tryz.f187,Tryz.f188,Tryz.f189,Tryz.f190,Tryz.f191]
theorem fr15 : fl15.map (fnRow Tryz.prog) = (rowsT.drop 180).take 12 := by kernel_rfl
noncomputable def fl16 : List Func := [Tryz.f192,Tryz.f193,Tryz.f194,Tryz.f195,Tryz.f196,Tryz.f197,Tryz.f198,Tryz.f199,Tryz.f200,Tryz.f201,Tryz.f202,Tryz.f203]
theorem fr16 : fl16.map (fnRow Tryz.prog) = (rowsT.drop 192).take 12 := by kernel_rfl
noncomputable def fl17 : List Func := [Tryz.f204,Tryz.f205,Tryz.f206,Tryz.f207,Tryz.f208,Tryz.f209,Tryz.f210,Tryz.f211,Tryz.f212,Tryz.f213,Tryz.f214,Tryz.f215]
theorem fr17 : fl17.map (fnRow Tryz.prog) = (rowsT.drop 204).take 12 := by kernel_rfl
noncomputable def fl18 : List Func := [Tryz.f216,Tryz.f217,Tryz.f218,Tryz.f219,Tryz.f220,Tryz.f221,Tryz.f222,Tryz.f223,Tryz.f224,Tryz.f225,Tryz.f226,Tryz.f227]
theorem fr18 : fl18.map (fnRow Tryz.prog) = (rowsT.drop 216).take 12 := by kernel_rfl
noncomputable def fl19 : List Func := [Tryz.f228,Tryz.f229,Tryz.f230,Tryz.f231,Tryz.f232,Tryz.f233,Tryz.f234,Tryz.f235,Tryz.f236,Tryz.f237,Tryz.f238,Tryz.f239]
theorem fr19 : fl19.map (fnRow Tryz.prog) = (rowsT.drop 228).take 12 := by kernel_rfl
noncomputable def fl20 : List Func := [Tryz.f240,Tryz.f241,Tryz.f242,Tryz.f243,Tryz.f244,Tryz.f245,Tryz.f246,Tryz.f247,Tryz.f248,Tryz.f249,Tryz.f250,Tryz.f251]
theorem fr20 : fl20.map (fnRow Tryz.prog) = (rowsT.drop 240).take 12 := by kernel_rfl
noncomputable def fl21 : List Func := [Tryz.f252,Tryz.f253,Tryz.f254,Tryz.f255,Tryz.f256,Tryz.f257,Tryz.f258,Tryz.f259,Tryz.f260,Tryz.f261,Tryz.f262,Tryz.f263]
theorem fr21 : fl21.map (fnRow Tryz.prog) = (rowsT.drop 252).take 12 := by kernel_rfl
noncomputable def fl22 : List Func := [Tryz.f264,Tryz.f265,Tryz.f266,Tryz.f267,Tryz.f268,Tryz.f269,Tryz.f270,Tryz.f271,Tryz.f272,Tryz.f273,Tryz.f274,Tryz.f275]
theorem fr22 : fl22.map (fnRow Tryz.prog) = (rowsT.drop 264).take 12 := by kernel_rfl
noncomputable def fl23 : List Func := [Tryz.f276,Tryz.f277,Tryz.f278,Tryz.f279,Tryz.f280,Tryz.f281,Tryz.f282,Tryz.f283,Tryz.f284,Tryz.f285,Tryz.f286,Tryz.f287]
theorem fr23 : fl23.map (fnRow Tryz.prog) = (rowsT.drop 276).take 12 := by kernel_rfl
noncomputable def fl24 : List Func := [Tryz.f288,Tryz.f289,Tryz.f290,Tryz.f291,Tryz.f292,Tryz.f293,Tryz.f294,Tryz.f295,Tryz.f296,Tryz.f297,Tryz.f298,Tryz.f299]
theorem fr24 : fl24.map (fnRow Tryz.prog) = (rowsT.drop 288).take 12 := by kernel_rfl
noncomputable def fl25 : List Func := [Tryz.f300,Tryz.f301,Tryz.f302,Tryz.f303,Tryz.f304,Tryz.f305,Tryz.f306,Tryz.f307,Tryz.f308,Tryz.f309,Tryz.f310,Tryz.f311]
theorem fr25 : fl25.map (fnRow Tryz.prog) = (rowsT.drop 300).take 12 := by kernel_rfl
noncomputable def fl26 : List Func := [Tryz.f312,Tryz.f313,Tryz.f314,Tryz.f315,Tryz.f316,Tryz.f317,Tryz.f318,Tryz.f319,Tryz.f320,Tryz.f321,Tryz.f322,Tryz.f323]
theorem fr26 : fl26.map (fnRow Tryz.prog) = (rowsT.drop 312).take 12 := by kernel_rfl
noncomputable def fl27 : List Func := [Tryz.f324,Tryz.f325,Tryz.f326,Tryz.f327,Tryz.f328,Tryz.f329,Tryz.f330,Tryz.f331,Tryz.f332,Tryz.f333,Tryz.f334,Tryz.f335]
theorem fr27 : fl27.map (fnRow Tryz.prog) = (rowsT.drop 324).take 12 := by kernel_rfl
noncomputable def fl28 : List Func := [Tryz.f336,Tryz.f337,Tryz.f338,Tryz.f339,Tryz.f340,Tryz.f341,Tryz.f342,Tryz.f343,Tryz.f344,Tryz.f345,Tryz.f346,Tryz.f347]
theorem fr28 : fl28.map (fnRow Tryz.prog) = (rowsT.drop 336).take 12 := by kernel_rfl
noncomputable def fl29 : List Func := [Tryz.f348,Tryz.f349,Tryz.f350,Tryz.f351,Tryz.f352,Tryz.f353,Tryz.f354,Tryz.f355,Tryz.f356,Tryz.f357,Tryz.f358,Tryz.f359]
theorem fr29 : fl29.map (fnRow Tryz.prog) = (rowsT.drop 348).take 12 := by kernel_rfl
noncomputable def fl30 : List Func := [Tryz.f360]
theorem fr30 : fl30.map (fnRow Tryz.prog) = (rowsT.drop 360).take 12 := by kernel_rfl
theorem funcsL : Tryz.prog.funcs.toList = fl0 ++ (fl1 ++ (fl2 ++ (fl3 ++ (fl4 ++ (fl5 ++ (fl6 ++ (fl7 ++ (fl8 ++ (fl9 ++ (fl10 ++ (fl11 ++ (fl12 ++ (fl13 ++ (fl14 ++ (fl15 ++ (fl16 ++ (fl17 ++ (fl18 ++ (fl19 ++ (fl20 ++ (fl21 ++ (fl22 ++ (fl23 ++ (fl24 ++ (fl25 ++ (fl26 ++ (fl27 ++ (fl28 ++ (fl29 ++ (fl30)))))))))))))))))))))))))))))) := by kernel_rfl
theorem rowsAll : Tryz.prog.funcs.toList.map (fnRow Tryz.prog) = rowsT := by
  rw [funcsL]
  simp only [List.map_append, fr0, fr1, fr2, fr3, fr4, fr5, fr6, fr7, fr8, fr9, fr10, fr11, fr12, fr13, fr14, fr15, fr16, fr17, fr18, fr19, fr20, fr21, fr22, fr23, fr24, fr25, fr26, fr27, fr28, fr29, fr30]
  kernel_rfl
def headC : List Nat := [104,97,114,110,101,115,115,32,97,53,55,53,48,98,98,50,48,49,102,56,102,51,56,54,98,102,102,57,53,52,54,49,51,100,57,54,50,57,57,50,101,54,55,55,100,55,48,102,53,49,97,98,53,56,51,51,99,50,55,55,53,52,100,52,57,50,98,100,48,102,98,53,32,99,117,116,32,97,116,32,108,111,111,112,46,101,120,97,109,112,108,101,47,103,48,49,50,54,53,47,108,97,119,115,46,70,110,67,111,110,115,111,108,101,87,111,114,100,115,32,108,111,111,112,46,101,120,97,109,112,108,101,47,103,48,49,50,54,53,47,108,97,119,115,46,70,110,69,120,97,99,116,82,101,112,108,97,121,76,111,103,32,108,111,111,112,46,101,120,97,109,112,108,101,47,103,48,49,50,54,53,47,108,97,119,115,46,70,110,69,120,97,99,116,69,120,101,99,117,116,101,67,111,109,109,97,110,100,32,108,111,111,112,46,101,120,97,109,112,108,101,47,103,48,49,50,54,53,47,108,97,119,115,46,70,110,69,120,97,99,116,82,117,110,83,99,114,105,112,116,32,108,111,111,112,46,101,120,97,109,112,108,101,47,103,48,49,50,54,53,47,108,97,119,115,46,70,110,67,111,110,115,111,108,101,32,108,111,111,112,46,101,120,97,109,112,108,101,47,103,48,49,50,54,53,47,108,97,119,115,46,70,110,82,101,112,108,97,121]
def headW : List (List Nat) := [[104,97,114,110,101,115,115],[97,53,55,53,48,98,98,50,48,49,102,56,102,51,56,54,98,102,102,57,53,52,54,49,51,100,57,54,50,57,57,50,101,54,55,55,100,55,48,102,53,49,97,98,53,56,51,51,99,50,55,55,53,52,100,52,57,50,98,100,48,102,98,53],[99,117,116],[97,116],[108,111,111,112,46,101,120,97,109,112,108,101,47,103,48,49,50,54,53,47,108,97,119,115,46,70,110,67,111,110,115,111,108,101,87,111,114,100,115],[108,111,111,112,46,101,120,97,109,112,108,101,47,103,48,49,50,54,53,47,108,97,119,115,46,70,110,69,120,97,99,116,82,101,112,108,97,121,76,111,103],[108,111,111,112,46,101,120,97,109,112,108,101,47,103,48,49,50,54,53,47,108,97,119,115,46,70,110,69,120,97,99,116,69,120,101,99,117,116,101,67,111,109,109,97,110,100],[108,111,111,112,46,101,120,97,109,112,108,101,47,103,48,49,50,54,53,47,108,97,119,115,46,70,110,69,120,97,99,116,82,117,110,83,99,114,105,112,116],[108,111,111,112,46,101,120,97,109,112,108,101,47,103,48,49,50,54,53,47,108,97,119,115,46,70,110,67,111,110,115,111,108,101],[108,111,111,112,46,101,120,97,109,112,108,101,47,103,48,49,50,54,53,47,108,97,119,115,46,70,110,82,101,112,108,97,121]]
theorem headEq : Tryz.prog.initOrder = String.ofList (headC.map Char.ofNat) := by kernel_rfl
theorem headWords : wordsSigns Tryz.prog.initOrder.toList = headW.map (fun l => l.map Char.ofNat) := by
  rw [headEq, String.toList_ofList]; kernel_rfl
def headR : List (List Nat) := headW.drop 3
theorem headB : behindMainWord (wordsSigns Tryz.prog.initOrder.toList) = String.toList (String.ofList ([99, 117, 116].map Char.ofNat)) :: headR.map (fun l => l.map Char.ofNat) := by
  rw [headWords, String.toList_ofList]; kernel_rfl
theorem cutW : String.ofList ([99, 117, 116].map Char.ofNat) = "cut" := by kernel_rfl
theorem headCut : behindMainWord (wordsSigns Tryz.prog.initOrder.toList) = "cut".toList :: headR.map (fun l => l.map Char.ofNat) := by rw [headB, cutW]
theorem stripCut (l : List (List Char)) : stripLifts liftWords ("cut".toList :: l) = ([], "cut".toList :: l) := by
  simp [stripLifts, liftWords]
theorem make_of {P : Program} {r : List (List Char)} (h : behindMainWord (wordsSigns P.initOrder.toList) = "cut".toList :: r) : P.make = some .cut := by
  unfold Program.make; rw [h]; simp
theorem lifts_of {P : Program} {r : List (List Char)} (h : behindMainWord (wordsSigns P.initOrder.toList) = "cut".toList :: r) : P.liftsFinal = false := by
  unfold Program.liftsFinal Program.headLifts; rw [h, stripCut]; simp
theorem may_of {P : Program} {r : List (List Char)} (h : behindMainWord (wordsSigns P.initOrder.toList) = "cut".toList :: r) (h1 : P.laysLater = false) (h2 : P.bearsReflect = false) (h3 : P.doorFits [] = true) : P.mayEnter = true := by
  unfold Program.mayEnter; rw [h]; simp only [stripCut]; rw [h1, h2, h3]; simp
theorem laysNot : Tryz.prog.laysLater = false := by kernel_rfl
theorem bearsNot : Tryz.prog.bearsReflect = false := by kernel_rfl
theorem doorOk : Tryz.prog.doorFits [] = true := by kernel_rfl
theorem factMay : Tryz.prog.mayEnter = true := may_of headCut laysNot bearsNot doorOk
theorem factLifts : Tryz.prog.liftsFinal = false := lifts_of headCut
theorem factMake : Tryz.prog.make = some .cut := make_of headCut
theorem and_mk {a b : Bool} (ha : a = true) (hb : b = true) : (a && b) = true := by rw [ha, hb]; rfl
end Go.Proofs.YtohgjfdbnkjefaaGreatDoor