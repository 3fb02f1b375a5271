/-
  No cell of these rows narrows 'for every input' (looked for: loops, veiled, ifaces, maps, wideKeys, modest, calm, conditions, laid).
  DERIVED. THE GIVEN ROWS OF THIS SEAT. 10 by the template 'for every input the law returns true; each argument reads behind the call as it read before'; 0 by the template 'total and deterministic' (their statements: YtnahgcofhneilaaGreatTotals.lean).
  GIVEN WITH THE SEED: the statements are not yours to turn. If you find one false, say at which input.
  Laid BY PROGRAM, IN A SANDBOX (cutbox-rows.mjs): the forced cells as the released guide's own fill.sh prints them over the translation a949450b5e3043b6… (all of the seat's roots in one cut). By AI agents, Wed Nov 11 2026. No macro, syntax, notation, axiom, sorry.
-/
import Derived.Test.YtnahgcofhneilaaGreatChecked
import GoSem.Claim
import GoSem.ClaimJoined
import GoSem.ClaimMapViews
import Derived.JoinedTies
import Derived.KernelRfl
namespace Go.Proofs.YtnahgcofhneilaaGreat
/- THE CELL 'sum', in the pinned program and in every row, IS THE sha256 OF THE DUMP (.gsa) THAT YtnahgcofhneilaaGreatProg.lean LOADS. Nothing in Lean hashes anything: it is a label: what it is worth is what the hold of that sum in a sandbox is worth. -/
noncomputable def Tryz.pinned : Pinned := { name := "ytnahgcofhneilaagreat", sum := "a949450b5e3043b66a25fd196d24ee711a1bb62999ff2daf6c5729ec4a52a6fa", checked := Tryz.checked }
namespace Rows
def none {H : Type} : Left H := { results := [], args := [] }

/-- 'mintagelaw18.RollOf': WHATEVER THE INPUT: true; the input reads as it did. -/
def rollOfSpec : ChangeSpec := { name := "rollOf", fn := fun _ => fun
  | [d1, d2, d3] => { results := [.lit (.bool true)], args := [d1, d2, d3] }
  | _ => none }
def rollOfRow : OpenClaim := { program := "ytnahgcofhneilaagreat", sum := "a949450b5e3043b66a25fd196d24ee711a1bb62999ff2daf6c5729ec4a52a6fa", func := "mintage/mintagelaw18.RollOf", spec := "rollOf", inPlace := ["math/bits.Add64"], unfollowed := true, recurses := true, plainKeys := false, apart := false }
def RollOfSaid : Prop := rollOfRow.holds Tryz.pinned (OpenSpec.ofChange rollOfSpec)

/-- ITS FALSE NEIGHBOUR: 'it returns false'. Refute it at one input. -/
def rollOfWrong : ChangeSpec := { name := "rollOf", fn := fun _ => fun
  | [d1, d2, d3] => { results := [.lit (.bool false)], args := [d1, d2, d3] }
  | _ => none }
def RollOfWrongFalsely : Prop := rollOfRow.holds Tryz.pinned (OpenSpec.ofChange rollOfWrong)

/-- 'mintagelaw18.RollDoes': WHATEVER THE INPUT: true; the input reads as it did. -/
def rollDoesSpec : ChangeSpec := { name := "rollDoes", fn := fun _ => fun
  | [d1, d2, d3, d4] => { results := [.lit (.bool true)], args := [d1, d2, d3, d4] }
  | _ => none }
def rollDoesRow : OpenClaim := { program := "ytnahgcofhneilaagreat", sum := "a949450b5e3043b66a25fd196d24ee711a1bb62999ff2daf6c5729ec4a52a6fa", func := "mintage/mintagelaw18.RollDoes", spec := "rollDoes", inPlace := ["math/bits.Add64"], unfollowed := true, recurses := true, plainKeys := false, apart := false }
def RollDoesSaid : Prop := rollDoesRow.holds Tryz.pinned (OpenSpec.ofChange rollDoesSpec)

/-- ITS FALSE NEIGHBOUR: 'it returns false'. Refute it at one input. -/
def rollDoesWrong : ChangeSpec := { name := "rollDoes", fn := fun _ => fun
  | [d1, d2, d3, d4] => { results := [.lit (.bool false)], args := [d1, d2, d3, d4] }
  | _ => none }
def RollDoesWrongFalsely : Prop := rollDoesRow.holds Tryz.pinned (OpenSpec.ofChange rollDoesWrong)

/-- 'mintagelaw18.RollPools': WHATEVER THE INPUT: true; the input reads as it did. -/
def rollPoolsSpec : ChangeSpec := { name := "rollPools", fn := fun _ => fun
  | [d1, d2, d3, d4] => { results := [.lit (.bool true)], args := [d1, d2, d3, d4] }
  | _ => none }
def rollPoolsRow : OpenClaim := { program := "ytnahgcofhneilaagreat", sum := "a949450b5e3043b66a25fd196d24ee711a1bb62999ff2daf6c5729ec4a52a6fa", func := "mintage/mintagelaw18.RollPools", spec := "rollPools", inPlace := ["math/bits.Add64"], unfollowed := true, recurses := true, plainKeys := false, apart := false }
def RollPoolsSaid : Prop := rollPoolsRow.holds Tryz.pinned (OpenSpec.ofChange rollPoolsSpec)

/-- ITS FALSE NEIGHBOUR: 'it returns false'. Refute it at one input. -/
def rollPoolsWrong : ChangeSpec := { name := "rollPools", fn := fun _ => fun
  | [d1, d2, d3, d4] => { results := [.lit (.bool false)], args := [d1, d2, d3, d4] }
  | _ => none }
def RollPoolsWrongFalsely : Prop := rollPoolsRow.holds Tryz.pinned (OpenSpec.ofChange rollPoolsWrong)

/-- 'mintagelaw18.RollOld': WHATEVER THE INPUT: true; the input reads as it did. -/
def rollOldSpec : ChangeSpec := { name := "rollOld", fn := fun _ => fun
  | [d1, d2, d3, d4] => { results := [.lit (.bool true)], args := [d1, d2, d3, d4] }
  | _ => none }
def rollOldRow : OpenClaim := { program := "ytnahgcofhneilaagreat", sum := "a949450b5e3043b66a25fd196d24ee711a1bb62999ff2daf6c5729ec4a52a6fa", func := "mintage/mintagelaw18.RollOld", spec := "rollOld", inPlace := ["math/bits.Add64"], unfollowed := true, recurses := true, plainKeys := false, apart := false }
def RollOldSaid : Prop := rollOldRow.holds Tryz.pinned (OpenSpec.ofChange rollOldSpec)

/-- ITS FALSE NEIGHBOUR: 'it returns false'. Refute it at one input. -/
def rollOldWrong : ChangeSpec := { name := "rollOld", fn := fun _ => fun
  | [d1, d2, d3, d4] => { results := [.lit (.bool false)], args := [d1, d2, d3, d4] }
  | _ => none }
def RollOldWrongFalsely : Prop := rollOldRow.holds Tryz.pinned (OpenSpec.ofChange rollOldWrong)

/-- 'mintagelaw18.RollKeeps': WHATEVER THE INPUT: true; the input reads as it did. -/
def rollKeepsSpec : ChangeSpec := { name := "rollKeeps", fn := fun _ => fun
  | [d1, d2, d3, d4, d5] => { results := [.lit (.bool true)], args := [d1, d2, d3, d4, d5] }
  | _ => none }
def rollKeepsRow : OpenClaim := { program := "ytnahgcofhneilaagreat", sum := "a949450b5e3043b66a25fd196d24ee711a1bb62999ff2daf6c5729ec4a52a6fa", func := "mintage/mintagelaw18.RollKeeps", spec := "rollKeeps", inPlace := ["math/bits.Add64"], unfollowed := true, recurses := true, plainKeys := false, apart := false }
def RollKeepsSaid : Prop := rollKeepsRow.holds Tryz.pinned (OpenSpec.ofChange rollKeepsSpec)

/-- ITS FALSE NEIGHBOUR: 'it returns false'. Refute it at one input. -/
def rollKeepsWrong : ChangeSpec := { name := "rollKeeps", fn := fun _ => fun
  | [d1, d2, d3, d4, d5] => { results := [.lit (.bool false)], args := [d1, d2, d3, d4, d5] }
  | _ => none }
def RollKeepsWrongFalsely : Prop := rollKeepsRow.holds Tryz.pinned (OpenSpec.ofChange rollKeepsWrong)

/-- 'mintagelaw18.RollGives': WHATEVER THE INPUT: true; the input reads as it did. -/
def rollGivesSpec : ChangeSpec := { name := "rollGives", fn := fun _ => fun
  | [d1, d2, d3, d4] => { results := [.lit (.bool true)], args := [d1, d2, d3, d4] }
  | _ => none }
def rollGivesRow : OpenClaim := { program := "ytnahgcofhneilaagreat", sum := "a949450b5e3043b66a25fd196d24ee711a1bb62999ff2daf6c5729ec4a52a6fa", func := "mintage/mintagelaw18.RollGives", spec := "rollGives", inPlace := ["math/bits.Add64"], unfollowed := true, recurses := true, plainKeys := false, apart := false }
def RollGivesSaid : Prop := rollGivesRow.holds Tryz.pinned (OpenSpec.ofChange rollGivesSpec)

/-- ITS FALSE NEIGHBOUR: 'it returns false'. Refute it at one input. -/
def rollGivesWrong : ChangeSpec := { name := "rollGives", fn := fun _ => fun
  | [d1, d2, d3, d4] => { results := [.lit (.bool false)], args := [d1, d2, d3, d4] }
  | _ => none }
def RollGivesWrongFalsely : Prop := rollGivesRow.holds Tryz.pinned (OpenSpec.ofChange rollGivesWrong)

/-- 'mintagelaw20.StandMay': WHATEVER THE INPUT: true; the input reads as it did. -/
def standMaySpec : ChangeSpec := { name := "standMay", fn := fun _ => fun
  | [d1, d2] => { results := [.lit (.bool true)], args := [d1, d2] }
  | _ => none }
def standMayRow : OpenClaim := { program := "ytnahgcofhneilaagreat", sum := "a949450b5e3043b66a25fd196d24ee711a1bb62999ff2daf6c5729ec4a52a6fa", func := "mintage/mintagelaw20.StandMay", spec := "standMay", inPlace := ["math/bits.Add64", "internal/bytealg.abigen_runtime_cmpstring"], unfollowed := true, recurses := true, plainKeys := false, apart := false }
def StandMaySaid : Prop := standMayRow.holds Tryz.pinned (OpenSpec.ofChange standMaySpec)

/-- ITS FALSE NEIGHBOUR: 'it returns false'. Refute it at one input. -/
def standMayWrong : ChangeSpec := { name := "standMay", fn := fun _ => fun
  | [d1, d2] => { results := [.lit (.bool false)], args := [d1, d2] }
  | _ => none }
def StandMayWrongFalsely : Prop := standMayRow.holds Tryz.pinned (OpenSpec.ofChange standMayWrong)

/-- 'mintagelaw20.StandKnown': WHATEVER THE INPUT: true; the input reads as it did. -/
def standKnownSpec : ChangeSpec := { name := "standKnown", fn := fun _ => fun
  | [] => { results := [.lit (.bool true)], args := [] }
  | _ => none }
def standKnownRow : OpenClaim := { program := "ytnahgcofhneilaagreat", sum := "a949450b5e3043b66a25fd196d24ee711a1bb62999ff2daf6c5729ec4a52a6fa", func := "mintage/mintagelaw20.StandKnown", spec := "standKnown", inPlace := ["math/bits.Add64", "internal/bytealg.abigen_runtime_cmpstring"], unfollowed := true, recurses := true, plainKeys := false, apart := false }
def StandKnownSaid : Prop := standKnownRow.holds Tryz.pinned (OpenSpec.ofChange standKnownSpec)

/-- ITS FALSE NEIGHBOUR: 'it returns false'. Refute it at one input. -/
def standKnownWrong : ChangeSpec := { name := "standKnown", fn := fun _ => fun
  | [] => { results := [.lit (.bool false)], args := [] }
  | _ => none }
def StandKnownWrongFalsely : Prop := standKnownRow.holds Tryz.pinned (OpenSpec.ofChange standKnownWrong)

/-- 'mintagelaw20.StandAdopts': WHATEVER THE INPUT: true; the input reads as it did. -/
def standAdoptsSpec : ChangeSpec := { name := "standAdopts", fn := fun _ => fun
  | [d1, d2, d3, d4, d5] => { results := [.lit (.bool true)], args := [d1, d2, d3, d4, d5] }
  | _ => none }
def standAdoptsRow : OpenClaim := { program := "ytnahgcofhneilaagreat", sum := "a949450b5e3043b66a25fd196d24ee711a1bb62999ff2daf6c5729ec4a52a6fa", func := "mintage/mintagelaw20.StandAdopts", spec := "standAdopts", inPlace := ["math/bits.Add64", "internal/bytealg.abigen_runtime_cmpstring"], unfollowed := true, recurses := true, plainKeys := false, apart := false }
def StandAdoptsSaid : Prop := standAdoptsRow.holds Tryz.pinned (OpenSpec.ofChange standAdoptsSpec)

/-- ITS FALSE NEIGHBOUR: 'it returns false'. Refute it at one input. -/
def standAdoptsWrong : ChangeSpec := { name := "standAdopts", fn := fun _ => fun
  | [d1, d2, d3, d4, d5] => { results := [.lit (.bool false)], args := [d1, d2, d3, d4, d5] }
  | _ => none }
def StandAdoptsWrongFalsely : Prop := standAdoptsRow.holds Tryz.pinned (OpenSpec.ofChange standAdoptsWrong)

/-- 'mintagelaw20.StandHalf': WHATEVER THE INPUT: true; the input reads as it did. -/
def standHalfSpec : ChangeSpec := { name := "standHalf", fn := fun _ => fun
  | [d1, d2, d3] => { results := [.lit (.bool true)], args := [d1, d2, d3] }
  | _ => none }
def standHalfRow : OpenClaim := { program := "ytnahgcofhneilaagreat", sum := "a949450b5e3043b66a25fd196d24ee711a1bb62999ff2daf6c5729ec4a52a6fa", func := "mintage/mintagelaw20.StandHalf", spec := "standHalf", inPlace := ["math/bits.Add64", "internal/bytealg.abigen_runtime_cmpstring"], unfollowed := true, recurses := true, plainKeys := false, apart := false }
def StandHalfSaid : Prop := standHalfRow.holds Tryz.pinned (OpenSpec.ofChange standHalfSpec)

/-- ITS FALSE NEIGHBOUR: 'it returns false'. Refute it at one input. -/
def standHalfWrong : ChangeSpec := { name := "standHalf", fn := fun _ => fun
  | [d1, d2, d3] => { results := [.lit (.bool false)], args := [d1, d2, d3] }
  | _ => none }
def StandHalfWrongFalsely : Prop := standHalfRow.holds Tryz.pinned (OpenSpec.ofChange standHalfWrong)

/- THE SECOND FORM. 'bulk': how many values and letters a reading holds, each counted each time it is reached (what is shared counts as often as it is met; a slice's spare places count too). A statement '..UptoSaid' is the law's where the arguments, and the package variables that the reading takes, are together of bulk at most 1048576: NARROWER than '..Said'. Prove '..Said' where nothing that the law and all that it calls make is longer than what came in: it says more and counts as full. Else prove '..UptoSaid'. A law counts once. -/
mutual
def uptoBulk {H : Type} : DataW H → Nat
  | .lit (.string bytes) => bytes.length + 1
  | .lit _ => 1
  | .nil => 1
  | .ptr d => uptoBulk d + 1
  | .slice elems spare => uptoBulkAll elems + uptoBulkAll spare + 1
  | .agg parts => uptoBulkAll parts + 1
  | .iface _ d => uptoBulk d + 1
  | .map entries => uptoBulkEntries entries + 1
  | .held _ => 1
def uptoBulkAll {H : Type} : List (DataW H) → Nat
  | [] => 0
  | d :: r => uptoBulk d + uptoBulkAll r
def uptoBulkEntries {H : Type} : List (Lit × DataW H) → Nat
  | [] => 0
  | x :: r => uptoBulkEntry x + uptoBulkEntries r
def uptoBulkEntry {H : Type} : Lit × DataW H → Nat
  | (.string bytes, d) => bytes.length + uptoBulk d + 1
  | (_, d) => uptoBulk d + 1
 end
def uptoSmall : (H : Type) → List (DataW H) → Bool := fun _ ds => decide (uptoBulkAll ds ≤ 1048576)
def OpenSpec.upto (s : _root_.Go.ChangeSpec) : _root_.Go.OpenSpec := { _root_.Go.OpenSpec.ofChange s with cond := some uptoSmall }

/-- 'mintagelaw18.RollOf', WHERE WHAT IT READS IS OF BULK AT MOST 1048576: true; the input reads as it did. -/
def rollOfUptoRow : OpenClaim := { program := "ytnahgcofhneilaagreat", sum := "a949450b5e3043b66a25fd196d24ee711a1bb62999ff2daf6c5729ec4a52a6fa", func := "mintage/mintagelaw18.RollOf", spec := "rollOf", inPlace := ["math/bits.Add64"], unfollowed := true, recurses := true, plainKeys := false, apart := false, narrowed := true }
def RollOfUptoSaid : Prop := rollOfUptoRow.holds Tryz.pinned (OpenSpec.upto rollOfSpec)

/-- 'mintagelaw18.RollDoes', WHERE WHAT IT READS IS OF BULK AT MOST 1048576: true; the input reads as it did. -/
def rollDoesUptoRow : OpenClaim := { program := "ytnahgcofhneilaagreat", sum := "a949450b5e3043b66a25fd196d24ee711a1bb62999ff2daf6c5729ec4a52a6fa", func := "mintage/mintagelaw18.RollDoes", spec := "rollDoes", inPlace := ["math/bits.Add64"], unfollowed := true, recurses := true, plainKeys := false, apart := false, narrowed := true }
def RollDoesUptoSaid : Prop := rollDoesUptoRow.holds Tryz.pinned (OpenSpec.upto rollDoesSpec)

/-- 'mintagelaw18.RollPools', WHERE WHAT IT READS IS OF BULK AT MOST 1048576: true; the input reads as it did. -/
def rollPoolsUptoRow : OpenClaim := { program := "ytnahgcofhneilaagreat", sum := "a949450b5e3043b66a25fd196d24ee711a1bb62999ff2daf6c5729ec4a52a6fa", func := "mintage/mintagelaw18.RollPools", spec := "rollPools", inPlace := ["math/bits.Add64"], unfollowed := true, recurses := true, plainKeys := false, apart := false, narrowed := true }
def RollPoolsUptoSaid : Prop := rollPoolsUptoRow.holds Tryz.pinned (OpenSpec.upto rollPoolsSpec)

/-- 'mintagelaw18.RollOld', WHERE WHAT IT READS IS OF BULK AT MOST 1048576: true; the input reads as it did. -/
def rollOldUptoRow : OpenClaim := { program := "ytnahgcofhneilaagreat", sum := "a949450b5e3043b66a25fd196d24ee711a1bb62999ff2daf6c5729ec4a52a6fa", func := "mintage/mintagelaw18.RollOld", spec := "rollOld", inPlace := ["math/bits.Add64"], unfollowed := true, recurses := true, plainKeys := false, apart := false, narrowed := true }
def RollOldUptoSaid : Prop := rollOldUptoRow.holds Tryz.pinned (OpenSpec.upto rollOldSpec)

/-- 'mintagelaw18.RollKeeps', WHERE WHAT IT READS IS OF BULK AT MOST 1048576: true; the input reads as it did. -/
def rollKeepsUptoRow : OpenClaim := { program := "ytnahgcofhneilaagreat", sum := "a949450b5e3043b66a25fd196d24ee711a1bb62999ff2daf6c5729ec4a52a6fa", func := "mintage/mintagelaw18.RollKeeps", spec := "rollKeeps", inPlace := ["math/bits.Add64"], unfollowed := true, recurses := true, plainKeys := false, apart := false, narrowed := true }
def RollKeepsUptoSaid : Prop := rollKeepsUptoRow.holds Tryz.pinned (OpenSpec.upto rollKeepsSpec)

/-- 'mintagelaw18.RollGives', WHERE WHAT IT READS IS OF BULK AT MOST 1048576: true; the input reads as it did. -/
def rollGivesUptoRow : OpenClaim := { program := "ytnahgcofhneilaagreat", sum := "a949450b5e3043b66a25fd196d24ee711a1bb62999ff2daf6c5729ec4a52a6fa", func := "mintage/mintagelaw18.RollGives", spec := "rollGives", inPlace := ["math/bits.Add64"], unfollowed := true, recurses := true, plainKeys := false, apart := false, narrowed := true }
def RollGivesUptoSaid : Prop := rollGivesUptoRow.holds Tryz.pinned (OpenSpec.upto rollGivesSpec)

/-- 'mintagelaw20.StandMay', WHERE WHAT IT READS IS OF BULK AT MOST 1048576: true; the input reads as it did. -/
def standMayUptoRow : OpenClaim := { program := "ytnahgcofhneilaagreat", sum := "a949450b5e3043b66a25fd196d24ee711a1bb62999ff2daf6c5729ec4a52a6fa", func := "mintage/mintagelaw20.StandMay", spec := "standMay", inPlace := ["math/bits.Add64", "internal/bytealg.abigen_runtime_cmpstring"], unfollowed := true, recurses := true, plainKeys := false, apart := false, narrowed := true }
def StandMayUptoSaid : Prop := standMayUptoRow.holds Tryz.pinned (OpenSpec.upto standMaySpec)

/-- 'mintagelaw20.StandKnown', WHERE WHAT IT READS IS OF BULK AT MOST 1048576: true; the input reads as it did. -/
def standKnownUptoRow : OpenClaim := { program := "ytnahgcofhneilaagreat", sum := "a949450b5e3043b66a25fd196d24ee711a1bb62999ff2daf6c5729ec4a52a6fa", func := "mintage/mintagelaw20.StandKnown", spec := "standKnown", inPlace := ["math/bits.Add64", "internal/bytealg.abigen_runtime_cmpstring"], unfollowed := true, recurses := true, plainKeys := false, apart := false, narrowed := true }
def StandKnownUptoSaid : Prop := standKnownUptoRow.holds Tryz.pinned (OpenSpec.upto standKnownSpec)

/-- 'mintagelaw20.StandAdopts', WHERE WHAT IT READS IS OF BULK AT MOST 1048576: true; the input reads as it did. -/
def standAdoptsUptoRow : OpenClaim := { program := "ytnahgcofhneilaagreat", sum := "a949450b5e3043b66a25fd196d24ee711a1bb62999ff2daf6c5729ec4a52a6fa", func := "mintage/mintagelaw20.StandAdopts", spec := "standAdopts", inPlace := ["math/bits.Add64", "internal/bytealg.abigen_runtime_cmpstring"], unfollowed := true, recurses := true, plainKeys := false, apart := false, narrowed := true }
def StandAdoptsUptoSaid : Prop := standAdoptsUptoRow.holds Tryz.pinned (OpenSpec.upto standAdoptsSpec)

/-- 'mintagelaw20.StandHalf', WHERE WHAT IT READS IS OF BULK AT MOST 1048576: true; the input reads as it did. -/
def standHalfUptoRow : OpenClaim := { program := "ytnahgcofhneilaagreat", sum := "a949450b5e3043b66a25fd196d24ee711a1bb62999ff2daf6c5729ec4a52a6fa", func := "mintage/mintagelaw20.StandHalf", spec := "standHalf", inPlace := ["math/bits.Add64", "internal/bytealg.abigen_runtime_cmpstring"], unfollowed := true, recurses := true, plainKeys := false, apart := false, narrowed := true }
def StandHalfUptoSaid : Prop := standHalfUptoRow.holds Tryz.pinned (OpenSpec.upto standHalfSpec)

end Rows
end Go.Proofs.YtnahgcofhneilaaGreat
