import Derived.Test.YtohgjfdbnkjefaaGreatDoorProg
import Derived.JoinedOf
import Derived.KernelRfl
namespace Go.Proofs.YtohgjfdbnkjefaaGreatDoor
set_option linter.unusedVariables false
set_option maxRecDepth 100000

abbrev FRow := List Nat × Option String × Bool × List Nat × Option String
def inPlaceAt (fn : Func) : Option String := if fn.ours || fn.body.isNone || fn.name == "runtime.NumGoroutine" then some fn.name else none
def fnRow (P : Program) (fn : Func) : FRow :=
  (P.leadsTo fn, inPlaceAt fn, (match fn.body with | some c => c.unfollowed | none => entryCalls fn), (fn.body.elim [] Code.globalsNamed), (if fn.body.isNone then entryReads.lookup fn.name else none))
def cvT (T : List FRow) : Nat → List Nat → List Nat → List Nat
  | 0, _, seen => seen.reverse
  | _, [], seen => seen.reverse
  | n + 1, f :: todo, seen => if seen.contains f then cvT T n todo seen else cvT T n ((T[f]?).elim [] (·.1) ++ todo) (f :: seen)
section
variable {P : Program} {T : List FRow}
theorem tab_at (hT : P.funcs.toList.map (fnRow P) = T) (k : Nat) : T[k]? = (P.funcs[k]?).map (fnRow P) := by
  rw [← hT, List.getElem?_map]; simp
theorem cvT_eq (hT : P.funcs.toList.map (fnRow P) = T) : ∀ (n : Nat) (todo seen : List Nat), P.closureVia n todo seen = cvT T n todo seen
  | 0, _, _ => by simp [Program.closureVia, cvT]
  | n + 1, [], _ => by simp [Program.closureVia, cvT]
  | n + 1, f :: todo, seen => by
    unfold Program.closureVia cvT
    rw [cvT_eq hT n, cvT_eq hT n, tab_at hT f]
    cases P.funcs[f]? <;> rfl
def closT (T : List FRow) (f : Nat) : List Nat := cvT T (1 + (T.map fun r => r.1.length + 1).sum) [f] []
theorem closT_eq (hT : P.funcs.toList.map (fnRow P) = T) (f : Nat) : P.closure f = closT T f := by
  unfold Program.closure closT
  rw [cvT_eq hT, ← hT, List.map_map]; rfl
theorem inPlaceT (hT : P.funcs.toList.map (fnRow P) = T) (f : Nat) : P.inPlace f = (closT T f).filterMap fun g => (T[g]?).bind (·.2.1) := by
  unfold Program.inPlace
  rw [closT_eq hT]
  congr 1; funext g
  rw [tab_at hT g]; cases P.funcs[g]? <;> rfl
theorem unfollowedT (hT : P.funcs.toList.map (fnRow P) = T) (f : Nat) : P.unfollowed f = (closT T f).any fun g => (T[g]?).any (·.2.2.1) := by
  unfold Program.unfollowed
  rw [closT_eq hT]
  congr 1; funext g
  rw [tab_at hT g]; cases P.funcs[g]? <;> rfl
theorem varsT (hT : P.funcs.toList.map (fnRow P) = T) (f : Nat) : P.varsNamed f =
    ((((closT T f).flatMap fun g => (T[g]?).elim [] (·.2.2.2.1)).eraseDups).filterMap (fun g => (P.globals[g]?).map (·.name)) ++ (closT T f).filterMap fun g => (T[g]?).bind (·.2.2.2.2)).eraseDups := by
  unfold Program.varsNamed
  rw [closT_eq hT]
  have e1 : (fun g : Nat => ((P.funcs[g]?).bind fun x : Func => x.body).elim [] Code.globalsNamed) = fun g : Nat => (T[g]?).elim [] fun x : FRow => x.2.2.2.1 := by
    funext g; rw [tab_at hT g]; cases P.funcs[g]? <;> rfl
  have e2 : (fun g : Nat => (P.funcs[g]?).bind fun fn : Func => if fn.body.isNone then entryReads.lookup fn.name else none) = fun g : Nat => (T[g]?).bind fun x : FRow => x.2.2.2.2 := by
    funext g; rw [tab_at hT g]; cases P.funcs[g]? <;> rfl
  rw [e1, e2]
theorem recursesEq (hT : P.funcs.toList.map (fnRow P) = T) (f : Nat) : P.recurses f = (((closT T f).any fun g => (T[g]?).any (·.2.2.1)) || (closT T f).any fun g => ((T[g]?).elim [] (·.1)).any fun h => (closT T h).contains g) := by
  unfold Program.recurses
  rw [unfollowedT hT, closT_eq hT]
  congr 1
  congr 1; funext g
  have e1 : ((P.funcs[g]?).elim [] P.leadsTo) = (T[g]?).elim [] fun x : FRow => x.1 := by
    rw [tab_at hT g]; cases P.funcs[g]? <;> rfl
  rw [e1]
  congr 1; funext h
  rw [closT_eq hT]
theorem recursesT {f : Nat} (h : P.unfollowed f = true) : P.recurses f = true := by unfold Program.recurses; rw [h]; rfl
end

abbrev nf (l : List Nat) : FRow := (l, none, false, [], none)
open Tryz
noncomputable def rowsT : List FRow := [([],some f0.name,false,[],none),([],some f1.name,false,[],none),nf [1],nf [9,10,11,12,13,13,13,13,13,13,14,15,16,16,17,18,19,20,21,22,21,21,21],nf [23,25,26,24,25,26,27],nf [28,30,29,30,13,31],nf [28,30,32,30,33,34,35,36,30,33,34,36],nf [9,37,11,38,40,39,40,41,13,29,42,43,44,42,43,45,43,40,46,33,32,47,48,13],nf [9,49,27,24,40,46,11,48,13,27],nf [],nf [50],nf [51],nf [52],nf [43,53,54,55],nf [51,56],nf [51,57],nf [58,59],nf [58,60],nf [58,61],nf [62,63],nf [62,63],nf [64],nf [65,66],nf [],nf [38,67,68,29],nf [69,69,69],nf [],nf [11,70,13],nf [23],nf [44,71,72,73],nf [25,26],nf [74,75],nf [44,76,29],nf [77,43,13],nf [],nf [78],nf [78],nf [10],nf [52],nf [79],nf [],nf [79,80],nf [],nf [51,81],nf [52,67],nf [70],nf [79,80,83,82,80],nf [],nf [77],nf [50,38,83,80,29,84,85,73,84,86],nf [88,87,83,90,89,83,82,83,91,83,82],nf [58,93,92,62,94],nf [95,97,96,98],nf [94,99,65],nf [77,100,101,102,103,104,56,59],nf [81,105,106],nf [107,108],nf [],nf [109,110],nf [111,66],nf [112,113],nf [114],nf [110,110],nf [112,108,115],nf [94,116],nf [117],nf [118,119,119,119,120],nf [68,68],nf [76,121],nf [],nf [122,123],nf [124,125,124],nf [76,126,127,128,129,130],nf [67,71,131],nf [132,132,132],nf [],nf [],nf [133],nf [],nf [50,38,83,80,29,83,83,73],nf [83,134,83,134,83,134,135,84,136],nf [70],nf [83],nf [137,137],nf [83],nf [135,135,83,135,135],nf [138,83,136],nf [139],nf [84,140,82,82,141],nf [142,52],nf [82,83,83,83,83,83,83,82,82,82],nf [83,82,82,84,83,83,141,84,83],nf [144,143],nf [107],nf [],nf [98],nf [95,95],nf [],nf [],nf [94],nf [145,94,116],nf [146],nf [147,148,149,150,151,152],nf [94,153,94,94,107],nf [112,154,155,154,156],nf [53,99],nf [94,105,116,157],nf [],nf [],nf [159,158],nf [94],nf [],nf [],nf [],nf [160,161],nf [112,108],nf [162],nf [163],nf [164,165],nf [164],nf [],nf [134,76,76,71,131],([166,167],none,true,[],none),nf [168],nf [98],nf [],nf [169],nf [170],nf [89,172,171],nf [172,171,172,171,174,173,175,173,97,177,176,178,134],nf [180,179,182,181,183],nf [134,184],nf [],nf [185,186,117],nf [134,134,134,134],nf [83],nf [83,83,83],nf [],nf [83,85,73,84,187],nf [95],nf [82,91,84],nf [],nf [98,98,141,188,189],nf [190],([],none,true,[],none),nf [191,192],nf [57],nf [56,59,59,17,116,18,116,93,193,194,195,116],nf [196,197],nf [],nf [94,198,18,199],nf [116,116],nf [94,107,56,115,194,19,194,63,116,200,149,112,201,194,202,151],nf [94],([],none,true,[],none),nf [203],nf [203],nf [65,204,116],nf [205],([],none,true,[],none),nf [],nf [],nf [206],([207,208,207,209,208,210],none,false,[0,0,0],none),nf [211],nf [212],nf [213],nf [216,215,217,217,106],nf [],nf [98,134],nf [],nf [218],nf [97,219],nf [134],nf [139,220],nf [139,221],nf [134,134],nf [222,223],nf [225,224,226,227,228],nf [134,134],nf [98,141,221,229],nf [],nf [230,226],nf [98,97,219,231,176,232,176,233,173,234,181,225,235,236,176,237,179],nf [238,134],nf [239,240],nf [239,241,117],nf [67],nf [98],nf [242,242,242,243,243,243],([],none,true,[],none),nf [244],nf [245,246,247,248],nf [249,115],nf [116,66],nf [251,252,250],nf [109,153],nf [254],nf [116,112],nf [],nf [63],nf [255,110,256,61],nf [62,63,199],nf [],nf [],([],none,true,[],none),nf [257,258,259,260],nf [261],([],some f208.name,false,[],entryReads.lookup f208.name),nf [],nf [262],([],some f211.name,false,[],none),([],some f212.name,false,[],none),([214],none,true,[],none),nf [207],nf [263,157],nf [264],nf [265],nf [],nf [],nf [266],nf [],nf [139,96],nf [141,219],nf [267],nf [],nf [268],nf [170,226,226],nf [],nf [269,269],nf [98],nf [96,95,223],nf [96,270],nf [96,270],nf [96,270],nf [98,98,271,141],nf [272],nf [96,270,229],nf [],nf [],nf [273],([],some f241.name,false,[],none),nf [274],nf [274],nf [275],([276],none,false,[1],none),([276],none,false,[2],none),nf [276,116,277],nf [276,116,277],nf [278,115],([279],none,true,[],none),nf [],nf [253,57],nf [280,57,281,197,197],nf [283,282],nf [94,110,285],nf [61],nf [],([287,286,288],none,false,[3],none),nf [],nf [289,290],([],some f261.name,false,[],none),nf [],nf [291,292],nf [168],nf [163],nf [141],nf [],nf [293,294],nf [],nf [141,219,223],nf [],nf [221],([],none,false,[4,5],none),nf [],nf [295,295,295,295,295,295,296],nf [],nf [],nf [58,92,62],([57],none,true,[],none),nf [299,298,297],nf [],([300],none,true,[],none),nf [284],nf [301,302,205],nf [113],nf [],nf [],nf [],nf [],nf [303,304],nf [],nf [305],nf [],nf [306,141,219],nf [],nf [295,295,295,295,295,295],nf [],nf [307,308],nf [309],nf [94,94],nf [],nf [112,108,112],([],none,false,[6],none),([],none,false,[7],none),nf [],nf [],nf [310],nf [312,311],([],none,true,[],none),([],none,true,[],none),nf [313,314,315,316,317,318,319,320,321,311,311],nf [322,287],nf [319],nf [323,323],nf [324,325],nf [326,326,326,327],nf [],nf [319,319,319],nf [328,328],nf [319,319],nf [319,319,319,319],nf [],nf [319,319],nf [312],nf [],nf [327],nf [329,329,329],nf [],nf [319],([],some f330.name,false,[],none),([],some f331.name,false,[],none),([],some f332.name,false,[],none),([],some f333.name,false,[],none),([],some f334.name,false,[],none),([],some f335.name,false,[],none),([],some f336.name,false,[],none),([],some f337.name,false,[],none),([],some f338.name,false,[],none),([],some f339.name,false,[],none),([],some f340.name,false,[],none),([],some f341.name,false,[],none),([],some f342.name,false,[],none),([],some f343.name,false,[],none),([],some f344.name,false,[],none),([],some f345.name,false,[],none),([],some f346.name,false,[],none),([],some f347.name,false,[],none),([],some f348.name,false,[],none),([],some f349.name,false,[],none),([],some f350.name,false,[],none),([],some f351.name,false,[],none),([],some f352.name,false,[],none),([],some f353.name,false,[],none),([],some f354.name,false,[],none),([],some f355.name,false,[],none),([],some f356.name,false,[],none),([],some f357.name,false,[],none),([],some f358.name,false,[],none),([],some f359.name,false,[],none),([277,277],none,false,[6,7,3,5,2,1],none)]
noncomputable def l0 := [f0,f1,f2,f3,f4,f5,f6,f7,f8,f9,f10,f11]
theorem r0 : l0.map (fnRow Tryz.prog) = (rowsT.drop 0).take 12 := by kernel_rfl
noncomputable def l1 := [f12,f13,f14,f15,f16,f17,f18,f19,f20,f21,f22,f23]
theorem r1 : l1.map (fnRow Tryz.prog) = (rowsT.drop 12).take 12 := by kernel_rfl
noncomputable def l2 := [f24,f25,f26,f27,f28,f29,f30,f31,f32,f33,f34,f35]
theorem r2 : l2.map (fnRow Tryz.prog) = (rowsT.drop 24).take 12 := by kernel_rfl
noncomputable def l3 := [f36,f37,f38,f39,f40,f41,f42,f43,f44,f45,f46,f47]
theorem r3 : l3.map (fnRow Tryz.prog) = (rowsT.drop 36).take 12 := by kernel_rfl
noncomputable def l4 := [f48,f49,f50,f51,f52,f53,f54,f55,f56,f57,f58,f59]
theorem r4 : l4.map (fnRow Tryz.prog) = (rowsT.drop 48).take 12 := by kernel_rfl
noncomputable def l5 := [f60,f61,f62,f63,f64,f65,f66,f67,f68,f69,f70,f71]
theorem r5 : l5.map (fnRow Tryz.prog) = (rowsT.drop 60).take 12 := by kernel_rfl
noncomputable def l6 := [f72,f73,f74,f75,f76,f77,f78,f79,f80,f81,f82,f83]
theorem r6 : l6.map (fnRow Tryz.prog) = (rowsT.drop 72).take 12 := by kernel_rfl
noncomputable def l7 := [f84,f85,f86,f87,f88,f89,f90,f91,f92,f93,f94,f95]
theorem r7 : l7.map (fnRow Tryz.prog) = (rowsT.drop 84).take 12 := by kernel_rfl
noncomputable def l8 := [f96,f97,f98,f99,f100,f101,f102,f103,f104,f105,f106,f107]
theorem r8 : l8.map (fnRow Tryz.prog) = (rowsT.drop 96).take 12 := by kernel_rfl
noncomputable def l9 := [f108,f109,f110,f111,f112,f113,f114,f115,f116,f117,f118,f119]
theorem r9 : l9.map (fnRow Tryz.prog) = (rowsT.drop 108).take 12 := by kernel_rfl
noncomputable def l10 := [f120,f121,f122,f123,f124,f125,f126,f127,f128,f129,f130,f131]
theorem r10 : l10.map (fnRow Tryz.prog) = (rowsT.drop 120).take 12 := by kernel_rfl
noncomputable def l11 := [f132,f133,f134,f135,f136,f137,f138,f139,f140,f141,f142,f143]
theorem r11 : l11.map (fnRow Tryz.prog) = (rowsT.drop 132).take 12 := by kernel_rfl
noncomputable def l12 := [f144,f145,f146,f147,f148,f149,f150,f151,f152,f153,f154,f155]
theorem r12 : l12.map (fnRow Tryz.prog) = (rowsT.drop 144).take 12 := by kernel_rfl
noncomputable def l13 := [f156,f157,f158,f159,f160,f161,f162,f163,f164,f165,f166,f167]
theorem r13 : l13.map (fnRow Tryz.prog) = (rowsT.drop 156).take 12 := by kernel_rfl
noncomputable def l14 := [f168,f169,f170,f171,f172,f173,f174,f175,f176,f177,f178,f179]
theorem r14 : l14.map (fnRow Tryz.prog) = (rowsT.drop 168).take 12 := by kernel_rfl
noncomputable def l15 := [f180,f181,f182,f183,f184,f185,f186,f187,f188,f189,f190,f191]
theorem r15 : l15.map (fnRow Tryz.prog) = (rowsT.drop 180).take 12 := by kernel_rfl
noncomputable def l16 := [f192,f193,f194,f195,f196,f197,f198,f199,f200,f201,f202,f203]
theorem r16 : l16.map (fnRow Tryz.prog) = (rowsT.drop 192).take 12 := by kernel_rfl
noncomputable def l17 := [f204,f205,f206,f207,f208,f209,f210,f211,f212,f213,f214,f215]
theorem r17 : l17.map (fnRow Tryz.prog) = (rowsT.drop 204).take 12 := by kernel_rfl
noncomputable def l18 := [f216,f217,f218,f219,f220,f221,f222,f223,f224,f225,f226,f227]
theorem r18 : l18.map (fnRow Tryz.prog) = (rowsT.drop 216).take 12 := by kernel_rfl
noncomputable def l19 := [f228,f229,f230,f231,f232,f233,f234,f235,f236,f237,f238,f239]
theorem r19 : l19.map (fnRow Tryz.prog) = (rowsT.drop 228).take 12 := by kernel_rfl
noncomputable def l20 := [f240,f241,f242,f243,f244,f245,f246,f247,f248,f249,f250,f251]
theorem r20 : l20.map (fnRow Tryz.prog) = (rowsT.drop 240).take 12 := by kernel_rfl
noncomputable def l21 := [f252,f253,f254,f255,f256,f257,f258,f259,f260,f261,f262,f263]
theorem r21 : l21.map (fnRow Tryz.prog) = (rowsT.drop 252).take 12 := by kernel_rfl
noncomputable def l22 := [f264,f265,f266,f267,f268,f269,f270,f271,f272,f273,f274,f275]
theorem r22 : l22.map (fnRow Tryz.prog) = (rowsT.drop 264).take 12 := by kernel_rfl
noncomputable def l23 := [f276,f277,f278,f279,f280,f281,f282,f283,f284,f285,f286,f287]
theorem r23 : l23.map (fnRow Tryz.prog) = (rowsT.drop 276).take 12 := by kernel_rfl
noncomputable def l24 := [f288,f289,f290,f291,f292,f293,f294,f295,f296,f297,f298,f299]
theorem r24 : l24.map (fnRow Tryz.prog) = (rowsT.drop 288).take 12 := by kernel_rfl
noncomputable def l25 := [f300,f301,f302,f303,f304,f305,f306,f307,f308,f309,f310,f311]
theorem r25 : l25.map (fnRow Tryz.prog) = (rowsT.drop 300).take 12 := by kernel_rfl
noncomputable def l26 := [f312,f313,f314,f315,f316,f317,f318,f319,f320,f321,f322,f323]
theorem r26 : l26.map (fnRow Tryz.prog) = (rowsT.drop 312).take 12 := by kernel_rfl
noncomputable def l27 := [f324,f325,f326,f327,f328,f329,f330,f331,f332,f333,f334,f335]
theorem r27 : l27.map (fnRow Tryz.prog) = (rowsT.drop 324).take 12 := by kernel_rfl
noncomputable def l28 := [f336,f337,f338,f339,f340,f341,f342,f343,f344,f345,f346,f347]
theorem r28 : l28.map (fnRow Tryz.prog) = (rowsT.drop 336).take 12 := by kernel_rfl
noncomputable def l29 := [f348,f349,f350,f351,f352,f353,f354,f355,f356,f357,f358,f359]
theorem r29 : l29.map (fnRow Tryz.prog) = (rowsT.drop 348).take 12 := by kernel_rfl
noncomputable def l30 := [f360]
theorem r30 : l30.map (fnRow Tryz.prog) = (rowsT.drop 360).take 12 := by kernel_rfl
theorem funcsL : Tryz.prog.funcs.toList = l0 ++ (l1 ++ (l2 ++ (l3 ++ (l4 ++ (l5 ++ (l6 ++ (l7 ++ (l8 ++ (l9 ++ (l10 ++ (l11 ++ (l12 ++ (l13 ++ (l14 ++ (l15 ++ (l16 ++ (l17 ++ (l18 ++ (l19 ++ (l20 ++ (l21 ++ (l22 ++ (l23 ++ (l24 ++ (l25 ++ (l26 ++ (l27 ++ (l28 ++ (l29 ++ (l30)))))))))))))))))))))))))))))) := by kernel_rfl
theorem rowsAll : Tryz.prog.funcs.toList.map (fnRow Tryz.prog) = rowsT := by
  rw [funcsL]
  simp only [List.map_append, r0, r1, r2, r3, r4, r5, r6, r7, r8, r9, r10, r11, r12, r13, r14, r15, r16, r17, r18, r19, r20, r21, r22, r23, r24, r25, r26, r27, r28, r29, r30]
  kernel_rfl
def headC : List Nat := [104,97,114,110,101,115,115,32,97,53,55,53,48,98,98,50,48,49,102,56,102,51,56,54,98,102,102,57,53,52,54,49,51,100,57,54,50,57,57,50,101,54,55,55,100,55,48,102,53,49,97,98,53,56,51,51,99,50,55,55,53,52,100,52,57,50,98,100,48,102,98,53,32,99,117,116,32,97,116,32,108,111,111,112,46,101,120,97,109,112,108,101,47,103,48,49,50,54,53,47,108,97,119,115,46,70,110,67,111,110,115,111,108,101,87,111,114,100,115,32,108,111,111,112,46,101,120,97,109,112,108,101,47,103,48,49,50,54,53,47,108,97,119,115,46,70,110,69,120,97,99,116,82,101,112,108,97,121,76,111,103,32,108,111,111,112,46,101,120,97,109,112,108,101,47,103,48,49,50,54,53,47,108,97,119,115,46,70,110,69,120,97,99,116,69,120,101,99,117,116,101,67,111,109,109,97,110,100,32,108,111,111,112,46,101,120,97,109,112,108,101,47,103,48,49,50,54,53,47,108,97,119,115,46,70,110,69,120,97,99,116,82,117,110,83,99,114,105,112,116,32,108,111,111,112,46,101,120,97,109,112,108,101,47,103,48,49,50,54,53,47,108,97,119,115,46,70,110,67,111,110,115,111,108,101,32,108,111,111,112,46,101,120,97,109,112,108,101,47,103,48,49,50,54,53,47,108,97,119,115,46,70,110,82,101,112,108,97,121]
def headW : List (List Nat) := [[104,97,114,110,101,115,115],[97,53,55,53,48,98,98,50,48,49,102,56,102,51,56,54,98,102,102,57,53,52,54,49,51,100,57,54,50,57,57,50,101,54,55,55,100,55,48,102,53,49,97,98,53,56,51,51,99,50,55,55,53,52,100,52,57,50,98,100,48,102,98,53],[99,117,116],[97,116],[108,111,111,112,46,101,120,97,109,112,108,101,47,103,48,49,50,54,53,47,108,97,119,115,46,70,110,67,111,110,115,111,108,101,87,111,114,100,115],[108,111,111,112,46,101,120,97,109,112,108,101,47,103,48,49,50,54,53,47,108,97,119,115,46,70,110,69,120,97,99,116,82,101,112,108,97,121,76,111,103],[108,111,111,112,46,101,120,97,109,112,108,101,47,103,48,49,50,54,53,47,108,97,119,115,46,70,110,69,120,97,99,116,69,120,101,99,117,116,101,67,111,109,109,97,110,100],[108,111,111,112,46,101,120,97,109,112,108,101,47,103,48,49,50,54,53,47,108,97,119,115,46,70,110,69,120,97,99,116,82,117,110,83,99,114,105,112,116],[108,111,111,112,46,101,120,97,109,112,108,101,47,103,48,49,50,54,53,47,108,97,119,115,46,70,110,67,111,110,115,111,108,101],[108,111,111,112,46,101,120,97,109,112,108,101,47,103,48,49,50,54,53,47,108,97,119,115,46,70,110,82,101,112,108,97,121]]
theorem headEq : Tryz.prog.initOrder = String.ofList (headC.map Char.ofNat) := by kernel_rfl
theorem headWords : wordsSigns Tryz.prog.initOrder.toList = headW.map (fun l => l.map Char.ofNat) := by
  rw [headEq, String.toList_ofList]; kernel_rfl
def headR : List (List Nat) := headW.drop 3
theorem headB : behindMainWord (wordsSigns Tryz.prog.initOrder.toList) = String.toList (String.ofList ([99, 117, 116].map Char.ofNat)) :: headR.map (fun l => l.map Char.ofNat) := by
  rw [headWords, String.toList_ofList]; kernel_rfl
theorem cutW : String.ofList ([99, 117, 116].map Char.ofNat) = "cut" := by kernel_rfl
theorem headCut : behindMainWord (wordsSigns Tryz.prog.initOrder.toList) = "cut".toList :: headR.map (fun l => l.map Char.ofNat) := by rw [headB, cutW]
theorem stripCut (l : List (List Char)) : stripLifts liftWords ("cut".toList :: l) = ([], "cut".toList :: l) := by
  simp [stripLifts, liftWords]
theorem make_of {P : Program} {r : List (List Char)} (h : behindMainWord (wordsSigns P.initOrder.toList) = "cut".toList :: r) : P.make = some .cut := by
  unfold Program.make; rw [h]; simp
theorem lifts_of {P : Program} {r : List (List Char)} (h : behindMainWord (wordsSigns P.initOrder.toList) = "cut".toList :: r) : P.liftsFinal = false := by
  unfold Program.liftsFinal Program.headLifts; rw [h, stripCut]; simp
theorem may_of {P : Program} {r : List (List Char)} (h : behindMainWord (wordsSigns P.initOrder.toList) = "cut".toList :: r) (h1 : P.laysLater = false) (h2 : P.bearsReflect = false) (h3 : P.doorFits [] = true) : P.mayEnter = true := by
  unfold Program.mayEnter; rw [h]; simp only [stripCut]; rw [h1, h2, h3]; simp
theorem laysNot : Tryz.prog.laysLater = false := by kernel_rfl
theorem bearsNot : Tryz.prog.bearsReflect = false := by kernel_rfl
theorem doorOk : Tryz.prog.doorFits [] = true := by kernel_rfl
theorem factMay : Tryz.prog.mayEnter = true := may_of headCut laysNot bearsNot doorOk
theorem factLifts : Tryz.prog.liftsFinal = false := lifts_of headCut
theorem factMake : Tryz.prog.make = some .cut := make_of headCut
theorem and_mk {a b : Bool} (ha : a = true) (hb : b = true) : (a && b) = true := by rw [ha, hb]; rfl
end Go.Proofs.YtohgjfdbnkjefaaGreatDoor