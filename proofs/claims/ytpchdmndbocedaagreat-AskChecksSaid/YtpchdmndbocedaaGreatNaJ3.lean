/-
  AskChecks: the closed facts that its row asks for, a piece at a time.
-/
import Derived.Test.YtpchdmndbocedaaGreatRows
import Derived.Test.YtpchdmndbocedaaGreatNaJ
import Derived.Test.YtpchdmndbocedaaGreatNaJv
import Derived.Test.YtpchdmndbocedaaGreatNaJb
set_option linter.unusedSimpArgs false
set_option linter.unusedVariables false
namespace Go.Ab.Nk.J3
open Go Go.Proofs Go.Proofs.YtpchdmndbocedaaGreat
set_option maxRecDepth 100000
theorem j1 : OpenClaim.wf (OpenSpec.ofChange Rows.askChecksSpec) Rows.askChecksRow = true:=by kernel_rfl
theorem j4 : (Tryz.f3.params.all fun x => Tryz.prog.readableRec x) = true:=by
 have hp : Tryz.f3.params = #[31,24]:=by kernel_rfl
 rw [hp]
 simp only [← Array.all_toList,List.all_cons,List.all_nil,Jb.read31,Jb.read24]
 rfl
theorem j5 : namedTie Tryz.prog Rows.askChecksRow.named Rows.askChecksSpec.vars = true:=by kernel_rfl
def reached : List Nat:=[3,7,11,10,40,110,111,197,112,198,289,382,113,200,199,124,201,203,202,290,30,78,41,114,204,291,292,206,295,297,93,180,262,179,280,378,
 182,181,161,266,369,370,267,371,268,372,475,269,186,281,282,283,379,476,284,296,294,207,205,293,115,209,208,298,383,384,42,43,116,117,
 210,218,212,310,311,312,313,314,315,316,299,385,386,477,465,163,527,574,543,528,575,600,577,529,478,551,531,552,516,553,519,554,588,510,
 517,569,567,597,580,568,532,566,596,449,530,576,601,579,578,533,571,599,628,572,134,231,232,233,300,47,51,387,479,122,223,224,555,585,
 617,618,589,619,620,654,621,650,651,622,655,656,668,623,624,625,626,556,463,542,586,230,328,416,417,327,330,418,419,329,332,420,421,331,
 211,157,301,302,263,303,319,391,390,304,317,389,305,306,388,307,308,309,213,214,318,215,216,217,220,148,244,346,348,444,347,160,245,349,
 350,32,80,81,87,82,79,84,83,86,85,89,88,91,90,92,162,164,271,270,373,165,166,273,272,374,167,168,169,275,274,375,170,171,172,173,277,
 276,376,174,175,176,177,279,278,377,178,130,226,227,131,56,95,94,183,184,185,34,324,325,228,96,326,97,415,98,149,246,261,368,474,550,
 320,392,481,489,488,480,483,482,485,557,494,484,487,486,491,559,558,490,493,492,496,495,426,393,497,498,423,523,573,394,499,363,468,469,
 470,544,545,500,514,562,592,593,563,594,561,591,547,627,657,669,564,565,595,321,322,396,397,398,399,222,323,133,48,402,409,410,52,123,
 225,411,511,512,513,412,515,518,570,598,413,520,61,414,521,400,401,252,365,472,364,471,546,587,548,549,253,501,502,503,504,505,367,560,
 590,506,403,404,405,250,352,353,445,446,354,447,355,356,448,357,450,451,534,452,535,453,454,536,455,359,461,541,460,539,583,540,584,609,
 610,649,611,612,652,653,667,613,614,615,616,462,358,456,457,33,459,458,538,537,582,581,602,629,630,631,632,633,634,635,658,636,659,637,
 638,660,639,661,640,641,603,604,606,605,642,662,643,663,670,674,644,675,678,679,680,681,682,676,664,671,677,683,684,665,673,672,607,608,
 645,646,666,647,648,360,464,406,407,507,508,509,408,395,119,120,221,118,219,62,121,60,46,12,45,44,24,25,8,35,9,36,99,101,187,286,285,
 100,102,103,188,136,196,189,190,37,105,192,193,194,104,191,287,288,380,381,39,109,38,106,107,195,108]
theorem clo : Tryz.prog.closure 3 = reached:=by
 unfold Program.closure
 rw [J.fuel]
 kernel_rfl
theorem j10 : (Rows.askChecksRow.inPlace == Tryz.prog.inPlace 3) = true:=by
 unfold Program.inPlace
 rw [clo]
 kernel_rfl
theorem unf : Tryz.prog.unfollowed 3 = true:=by
 unfold Program.unfollowed
 rw [clo]
 kernel_rfl
theorem j11 : (Rows.askChecksRow.unfollowed == Tryz.prog.unfollowed 3) = true:=by
 rw [unf]
 kernel_rfl
theorem j12 : (Rows.askChecksRow.recurses == Tryz.prog.recurses 3) = true:=by
 unfold Program.recurses
 rw [unf,Bool.true_or]
 kernel_rfl
theorem j13 : (Rows.askChecksRow.named == Tryz.prog.varsNamed 3) = true:=by
 rw [J.named_of (r:=Rows.askChecksRow.named) clo (by kernel_rfl) (by kernel_rfl)]
 exact beq_self_eq_true _
theorem j14 : (Rows.askChecksRow.maps == (Tryz.f3.params.toList ++ Rows.askChecksSpec.plain.varTypes Tryz.prog).any (Tryz.prog.mapsRec ·)) = true:=by
 have hv : Rows.askChecksSpec.plain.varTypes Tryz.prog = []:=by kernel_rfl
 have hp : Tryz.f3.params.toList = [31,24]:=by kernel_rfl
 rw [hp,hv]
 simp only [List.append_nil,List.any_cons,List.any_nil,Jb.maps31,Jb.maps24,Bool.or_false]
 have hz : (Rows.askChecksRow.maps == false) = true:=by kernel_rfl
 exact hz
theorem j15 : (Rows.askChecksRow.ifaces == (Tryz.f3.params.toList ++ Rows.askChecksSpec.plain.varTypes Tryz.prog).any (Tryz.prog.ifacesRec ·)) = true:=by
 have hv : Rows.askChecksSpec.plain.varTypes Tryz.prog = []:=by kernel_rfl
 have hp : Tryz.f3.params.toList = [31,24]:=by kernel_rfl
 rw [hp,hv]
 simp only [List.append_nil,List.any_cons,List.any_nil,Jb.ifaces31,Jb.ifaces24,Bool.or_false]
 have hz : (Rows.askChecksRow.ifaces == false) = true:=by kernel_rfl
 exact hz
theorem j16 : (Rows.askChecksRow.mapsOut == Tryz.prog.mapsAmong Tryz.f3.resultTypes.toList) = true:=by kernel_rfl
theorem j17 : (Rows.askChecksRow.loops == (Tryz.f3.params.toList ++ Rows.askChecksSpec.plain.varTypes Tryz.prog).any (Tryz.prog.loopsFrom ·)) = true:=by
 have hv : Rows.askChecksSpec.plain.varTypes Tryz.prog = []:=by kernel_rfl
 have hp : Tryz.f3.params.toList = [31,24]:=by kernel_rfl
 rw [hp,hv]
 simp only [List.append_nil,List.any_cons,List.any_nil,Jb.loops31,Jb.loops24,Bool.or_false]
 have hz : (Rows.askChecksRow.loops == false) = true:=by kernel_rfl
 exact hz
theorem j18 : (Rows.askChecksRow.wideKeys == (Tryz.f3.params.toList ++ Rows.askChecksSpec.plain.varTypes Tryz.prog ++ Tryz.f3.resultTypes.toList).any (Tryz.prog.wideKeysFrom ·)) = true:=by
 have hv : Rows.askChecksSpec.plain.varTypes Tryz.prog = []:=by kernel_rfl
 have hp : Tryz.f3.params.toList = [31,24]:=by kernel_rfl
 have hr : Tryz.f3.resultTypes.toList = [4]:=by kernel_rfl
 rw [hp,hv,hr]
 simp only [List.append_nil,List.cons_append,List.nil_append,List.any_cons,List.any_nil,Jb.wide31,Jb.wide24,Jb.wide4,Bool.or_false]
 have hz : (Rows.askChecksRow.wideKeys == false) = true:=by kernel_rfl
 exact hz
theorem j19 : (Rows.askChecksSpec.vars.all (Tryz.prog.varReadable ·)) = true:=by kernel_rfl
theorem j20 : (Tryz.f3.resultTypes.all (fun t => Tryz.prog.readableRec t && decide (t < Tryz.prog.types.size))) = true:=by kernel_rfl
theorem j21 : (Rows.askChecksRow.ifacesOut == Tryz.f3.resultTypes.toList.any (Tryz.prog.ifacesRec ·)) = true:=by kernel_rfl
theorem j22 : (Rows.askChecksRow.loopsOut == Tryz.f3.resultTypes.toList.any (Tryz.prog.loopsFrom ·)) = true:=by kernel_rfl
theorem j23 : (Rows.askChecksRow.plainKeys == Tryz.prog.plainKeys) = true:=by kernel_rfl
theorem j24 : (Rows.askChecksRow.lifted == Tryz.prog.liftsFinal) = true:=by kernel_rfl
theorem j25 : (Tryz.prog.make == some Rows.askChecksRow.make) = true:=by kernel_rfl
theorem j26 : (Rows.askChecksRow.kinds == if Rows.askChecksRow.domain.isEmpty then [] else Tryz.f3.params.toList.map fun t => match Tryz.prog.underlying t with | some (.int k) => some k | _ => none) = true:=by kernel_rfl
theorem j27 : (Rows.askChecksRow.veiled == (Tryz.f3.params.toList ++ Rows.askChecksSpec.plain.varTypes Tryz.prog ++ Tryz.f3.resultTypes.toList).any (Tryz.prog.veiledRec ·)) = true:=by
 have hv : Rows.askChecksSpec.plain.varTypes Tryz.prog = []:=by kernel_rfl
 have hp : Tryz.f3.params.toList = [31,24]:=by kernel_rfl
 have hr : Tryz.f3.resultTypes.toList = [4]:=by kernel_rfl
 rw [hp,hv,hr]
 simp only [List.append_nil,List.cons_append,List.nil_append,List.any_cons,List.any_nil,Jb.veil31,Jb.veil24,Jb.veil4,Bool.or_false]
 have hz : (Rows.askChecksRow.veiled == false) = true:=by kernel_rfl
 exact hz
theorem j28 : Rows.askChecksRow.veiledFits Tryz.prog Tryz.f3.params.toList (Tryz.f3.params.toList ++ Rows.askChecksSpec.plain.varTypes Tryz.prog ++ Tryz.f3.resultTypes.toList) = true:=by
 have hv : Rows.askChecksSpec.plain.varTypes Tryz.prog = []:=by kernel_rfl
 have hp : Tryz.f3.params.toList = [31,24]:=by kernel_rfl
 have hr : Tryz.f3.resultTypes.toList = [4]:=by kernel_rfl
 rw [hp,hv,hr]
 have hl : Rows.askChecksRow.laid = []:=by kernel_rfl
 have hs : Rows.askChecksRow.start = .entering:=by kernel_rfl
 unfold OpenClaim.veiledFits
 rw [hl,hs]
 simp only [List.append_nil,List.cons_append,List.nil_append,List.filterMap_nil,List.all_cons,List.all_nil,Jb.own31,Jb.own24,Jb.own4,Bool.and_true,Bool.true_or]
theorem read0 : Tryz.prog.readableRec 31 = true:=Jb.read31
theorem read1 : Tryz.prog.readableRec 24 = true:=Jb.read24
theorem named : Tryz.prog.funcNamed Rows.askChecksRow.func = some 3:=by kernel_rfl
theorem closed : joinedFacts Tryz.prog 3 Tryz.f3 Rows.askChecksSpec Rows.askChecksRow = true:=by
 unfold joinedFacts
 simp only [j1,J.laidOut,J.mapsRowed,j4,j5,J.stops,J.stopKnobs,j10,j11,j12,j13,j14,j15,j16,j17,j18,j19,j20,j21,j22,j23,J.heard,J.enter,j24,j25,j26,j27,j28,Bool.and_true]
 rfl
end Go.Ab.Nk.J3
