/-
  No cell of these rows narrows 'for every input' (looked for: loops, veiled, ifaces, maps, wideKeys, modest, calm, conditions, laid).
  DERIVED. THE GIVEN ROWS OF THIS SEAT. 12 by the template 'for every input the law returns true; each argument reads behind the call as it read before'; 0 by the template 'total and deterministic' (their statements: YtnahgcofhneilaaTotals.lean).
  GIVEN WITH THE SEED: the statements are not yours to turn. If you find one false, say at which input.
  Laid BY PROGRAM, IN A SANDBOX (cutbox-rows.mjs): the forced cells as the released guide's own fill.sh prints them over the translation 827113b2bcfaaa16… (all of the seat's roots in one cut). By AI agents, Wed Nov 11 2026. No macro, syntax, notation, axiom, sorry.
-/
import Derived.Test.YtnahgcofhneilaaChecked
import GoSem.Claim
import GoSem.ClaimJoined
import GoSem.ClaimMapViews
import Derived.JoinedTies
import Derived.KernelRfl
namespace Go.Proofs.Ytnahgcofhneilaa
/- THE CELL 'sum', in the pinned program and in every row, IS THE sha256 OF THE DUMP (.gsa) THAT YtnahgcofhneilaaProg.lean LOADS. Nothing in Lean hashes anything: it is a label: what it is worth is what the hold of that sum in a sandbox is worth. -/
noncomputable def Try.pinned : Pinned := { name := "ytnahgcofhneilaa", sum := "827113b2bcfaaa16876862aa5b586c31c6d965b8a9b46977e3a18fec20b92dc5", checked := Try.checked }
namespace Rows
def none {H : Type} : Left H := { results := [], args := [] }

/-- 'mintagelaw17.CoinMoves': WHATEVER THE INPUT: true; the input reads as it did. -/
def coinMovesSpec : ChangeSpec := { name := "coinMoves", fn := fun _ => fun
  | [d1, d2] => { results := [.lit (.bool true)], args := [d1, d2] }
  | _ => none }
def coinMovesRow : OpenClaim := { program := "ytnahgcofhneilaa", sum := "827113b2bcfaaa16876862aa5b586c31c6d965b8a9b46977e3a18fec20b92dc5", func := "mintage/mintagelaw17.CoinMoves", spec := "coinMoves", inPlace := ["math/bits.Add64"], unfollowed := true, recurses := true, plainKeys := false, apart := false }
def CoinMovesSaid : Prop := coinMovesRow.holds Try.pinned (OpenSpec.ofChange coinMovesSpec)

/-- ITS FALSE NEIGHBOUR: 'it returns false'. Refute it at one input. -/
def coinMovesWrong : ChangeSpec := { name := "coinMoves", fn := fun _ => fun
  | [d1, d2] => { results := [.lit (.bool false)], args := [d1, d2] }
  | _ => none }
def CoinMovesWrongFalsely : Prop := coinMovesRow.holds Try.pinned (OpenSpec.ofChange coinMovesWrong)

/-- 'mintagelaw17.CoinKeeps': WHATEVER THE INPUT: true; the input reads as it did. -/
def coinKeepsSpec : ChangeSpec := { name := "coinKeeps", fn := fun _ => fun
  | [d1, d2] => { results := [.lit (.bool true)], args := [d1, d2] }
  | _ => none }
def coinKeepsRow : OpenClaim := { program := "ytnahgcofhneilaa", sum := "827113b2bcfaaa16876862aa5b586c31c6d965b8a9b46977e3a18fec20b92dc5", func := "mintage/mintagelaw17.CoinKeeps", spec := "coinKeeps", inPlace := ["math/bits.Add64"], unfollowed := true, recurses := true, plainKeys := false, apart := false }
def CoinKeepsSaid : Prop := coinKeepsRow.holds Try.pinned (OpenSpec.ofChange coinKeepsSpec)

/-- ITS FALSE NEIGHBOUR: 'it returns false'. Refute it at one input. -/
def coinKeepsWrong : ChangeSpec := { name := "coinKeeps", fn := fun _ => fun
  | [d1, d2] => { results := [.lit (.bool false)], args := [d1, d2] }
  | _ => none }
def CoinKeepsWrongFalsely : Prop := coinKeepsRow.holds Try.pinned (OpenSpec.ofChange coinKeepsWrong)

/-- 'mintagelaw17.CoinBack': WHATEVER THE INPUT: true; the input reads as it did. -/
def coinBackSpec : ChangeSpec := { name := "coinBack", fn := fun _ => fun
  | [d1, d2, d3] => { results := [.lit (.bool true)], args := [d1, d2, d3] }
  | _ => none }
def coinBackRow : OpenClaim := { program := "ytnahgcofhneilaa", sum := "827113b2bcfaaa16876862aa5b586c31c6d965b8a9b46977e3a18fec20b92dc5", func := "mintage/mintagelaw17.CoinBack", spec := "coinBack", inPlace := ["math/bits.Add64"], unfollowed := true, recurses := true, plainKeys := false, apart := false }
def CoinBackSaid : Prop := coinBackRow.holds Try.pinned (OpenSpec.ofChange coinBackSpec)

/-- ITS FALSE NEIGHBOUR: 'it returns false'. Refute it at one input. -/
def coinBackWrong : ChangeSpec := { name := "coinBack", fn := fun _ => fun
  | [d1, d2, d3] => { results := [.lit (.bool false)], args := [d1, d2, d3] }
  | _ => none }
def CoinBackWrongFalsely : Prop := coinBackRow.holds Try.pinned (OpenSpec.ofChange coinBackWrong)

/-- 'mintagelaw17.CoinOf': WHATEVER THE INPUT: true; the input reads as it did. -/
def coinOfSpec : ChangeSpec := { name := "coinOf", fn := fun _ => fun
  | [d1, d2] => { results := [.lit (.bool true)], args := [d1, d2] }
  | _ => none }
def coinOfRow : OpenClaim := { program := "ytnahgcofhneilaa", sum := "827113b2bcfaaa16876862aa5b586c31c6d965b8a9b46977e3a18fec20b92dc5", func := "mintage/mintagelaw17.CoinOf", spec := "coinOf", inPlace := ["math/bits.Add64", "internal/bytealg.abigen_runtime_cmpstring"], unfollowed := true, recurses := true, plainKeys := false, apart := false }
def CoinOfSaid : Prop := coinOfRow.holds Try.pinned (OpenSpec.ofChange coinOfSpec)

/-- ITS FALSE NEIGHBOUR: 'it returns false'. Refute it at one input. -/
def coinOfWrong : ChangeSpec := { name := "coinOf", fn := fun _ => fun
  | [d1, d2] => { results := [.lit (.bool false)], args := [d1, d2] }
  | _ => none }
def CoinOfWrongFalsely : Prop := coinOfRow.holds Try.pinned (OpenSpec.ofChange coinOfWrong)

/-- 'mintagelaw17.CoinStakes': WHATEVER THE INPUT: true; the input reads as it did. -/
def coinStakesSpec : ChangeSpec := { name := "coinStakes", fn := fun _ => fun
  | [d] => { results := [.lit (.bool true)], args := [d] }
  | _ => none }
def coinStakesRow : OpenClaim := { program := "ytnahgcofhneilaa", sum := "827113b2bcfaaa16876862aa5b586c31c6d965b8a9b46977e3a18fec20b92dc5", func := "mintage/mintagelaw17.CoinStakes", spec := "coinStakes", inPlace := ["math/bits.Add64", "internal/bytealg.abigen_runtime_cmpstring"], unfollowed := true, recurses := true, plainKeys := false, apart := false }
def CoinStakesSaid : Prop := coinStakesRow.holds Try.pinned (OpenSpec.ofChange coinStakesSpec)

/-- ITS FALSE NEIGHBOUR: 'it returns false'. Refute it at one input. -/
def coinStakesWrong : ChangeSpec := { name := "coinStakes", fn := fun _ => fun
  | [d] => { results := [.lit (.bool false)], args := [d] }
  | _ => none }
def CoinStakesWrongFalsely : Prop := coinStakesRow.holds Try.pinned (OpenSpec.ofChange coinStakesWrong)

/-- 'mintagelaw19.RewardPays': WHATEVER THE INPUT: true; the input reads as it did. -/
def rewardPaysSpec : ChangeSpec := { name := "rewardPays", fn := fun _ => fun
  | [d1, d2] => { results := [.lit (.bool true)], args := [d1, d2] }
  | _ => none }
def rewardPaysRow : OpenClaim := { program := "ytnahgcofhneilaa", sum := "827113b2bcfaaa16876862aa5b586c31c6d965b8a9b46977e3a18fec20b92dc5", func := "mintage/mintagelaw19.RewardPays", spec := "rewardPays", inPlace := ["math/bits.Add64", "internal/bytealg.abigen_runtime_cmpstring"], unfollowed := true, recurses := true, named := ["math/bits.divideError", "math/bits.overflowError"], plainKeys := false, apart := false }
def RewardPaysSaid : Prop := rewardPaysRow.holds Try.pinned (OpenSpec.ofChange rewardPaysSpec)

/-- ITS FALSE NEIGHBOUR: 'it returns false'. Refute it at one input. -/
def rewardPaysWrong : ChangeSpec := { name := "rewardPays", fn := fun _ => fun
  | [d1, d2] => { results := [.lit (.bool false)], args := [d1, d2] }
  | _ => none }
def RewardPaysWrongFalsely : Prop := rewardPaysRow.holds Try.pinned (OpenSpec.ofChange rewardPaysWrong)

/-- 'mintagelaw19.RewardLess': WHATEVER THE INPUT: true; the input reads as it did. -/
def rewardLessSpec : ChangeSpec := { name := "rewardLess", fn := fun _ => fun
  | [d1, d2] => { results := [.lit (.bool true)], args := [d1, d2] }
  | _ => none }
def rewardLessRow : OpenClaim := { program := "ytnahgcofhneilaa", sum := "827113b2bcfaaa16876862aa5b586c31c6d965b8a9b46977e3a18fec20b92dc5", func := "mintage/mintagelaw19.RewardLess", spec := "rewardLess", inPlace := ["math/bits.Add64", "internal/bytealg.abigen_runtime_cmpstring"], unfollowed := true, recurses := true, named := ["math/bits.divideError", "math/bits.overflowError"], plainKeys := false, apart := false }
def RewardLessSaid : Prop := rewardLessRow.holds Try.pinned (OpenSpec.ofChange rewardLessSpec)

/-- ITS FALSE NEIGHBOUR: 'it returns false'. Refute it at one input. -/
def rewardLessWrong : ChangeSpec := { name := "rewardLess", fn := fun _ => fun
  | [d1, d2] => { results := [.lit (.bool false)], args := [d1, d2] }
  | _ => none }
def RewardLessWrongFalsely : Prop := rewardLessRow.holds Try.pinned (OpenSpec.ofChange rewardLessWrong)

/-- 'mintagelaw19.RewardParts': WHATEVER THE INPUT: true; the input reads as it did. -/
def rewardPartsSpec : ChangeSpec := { name := "rewardParts", fn := fun _ => fun
  | [d1, d2, d3, d4, d5, d6] => { results := [.lit (.bool true)], args := [d1, d2, d3, d4, d5, d6] }
  | _ => none }
def rewardPartsRow : OpenClaim := { program := "ytnahgcofhneilaa", sum := "827113b2bcfaaa16876862aa5b586c31c6d965b8a9b46977e3a18fec20b92dc5", func := "mintage/mintagelaw19.RewardParts", spec := "rewardParts", inPlace := ["math/bits.Add64", "internal/bytealg.abigen_runtime_cmpstring"], unfollowed := true, recurses := true, named := ["math/bits.divideError", "math/bits.overflowError"], plainKeys := false, apart := false }
def RewardPartsSaid : Prop := rewardPartsRow.holds Try.pinned (OpenSpec.ofChange rewardPartsSpec)

/-- ITS FALSE NEIGHBOUR: 'it returns false'. Refute it at one input. -/
def rewardPartsWrong : ChangeSpec := { name := "rewardParts", fn := fun _ => fun
  | [d1, d2, d3, d4, d5, d6] => { results := [.lit (.bool false)], args := [d1, d2, d3, d4, d5, d6] }
  | _ => none }
def RewardPartsWrongFalsely : Prop := rewardPartsRow.holds Try.pinned (OpenSpec.ofChange rewardPartsWrong)

/-- 'mintagelaw19.RewardSums': WHATEVER THE INPUT: true; the input reads as it did. -/
def rewardSumsSpec : ChangeSpec := { name := "rewardSums", fn := fun _ => fun
  | [d1, d2, d3, d4, d5, d6] => { results := [.lit (.bool true)], args := [d1, d2, d3, d4, d5, d6] }
  | _ => none }
def rewardSumsRow : OpenClaim := { program := "ytnahgcofhneilaa", sum := "827113b2bcfaaa16876862aa5b586c31c6d965b8a9b46977e3a18fec20b92dc5", func := "mintage/mintagelaw19.RewardSums", spec := "rewardSums", inPlace := ["math/bits.Add64", "internal/bytealg.abigen_runtime_cmpstring"], unfollowed := true, recurses := true, named := ["math/bits.divideError", "math/bits.overflowError"], plainKeys := false, apart := false }
def RewardSumsSaid : Prop := rewardSumsRow.holds Try.pinned (OpenSpec.ofChange rewardSumsSpec)

/-- ITS FALSE NEIGHBOUR: 'it returns false'. Refute it at one input. -/
def rewardSumsWrong : ChangeSpec := { name := "rewardSums", fn := fun _ => fun
  | [d1, d2, d3, d4, d5, d6] => { results := [.lit (.bool false)], args := [d1, d2, d3, d4, d5, d6] }
  | _ => none }
def RewardSumsWrongFalsely : Prop := rewardSumsRow.holds Try.pinned (OpenSpec.ofChange rewardSumsWrong)

/-- 'mintagelaw19.RewardKeeps': WHATEVER THE INPUT: true; the input reads as it did. -/
def rewardKeepsSpec : ChangeSpec := { name := "rewardKeeps", fn := fun _ => fun
  | [d1, d2, d3, d4] => { results := [.lit (.bool true)], args := [d1, d2, d3, d4] }
  | _ => none }
def rewardKeepsRow : OpenClaim := { program := "ytnahgcofhneilaa", sum := "827113b2bcfaaa16876862aa5b586c31c6d965b8a9b46977e3a18fec20b92dc5", func := "mintage/mintagelaw19.RewardKeeps", spec := "rewardKeeps", inPlace := ["math/bits.Add64", "internal/bytealg.abigen_runtime_cmpstring"], unfollowed := true, recurses := true, named := ["math/bits.divideError", "math/bits.overflowError"], plainKeys := false, apart := false }
def RewardKeepsSaid : Prop := rewardKeepsRow.holds Try.pinned (OpenSpec.ofChange rewardKeepsSpec)

/-- ITS FALSE NEIGHBOUR: 'it returns false'. Refute it at one input. -/
def rewardKeepsWrong : ChangeSpec := { name := "rewardKeeps", fn := fun _ => fun
  | [d1, d2, d3, d4] => { results := [.lit (.bool false)], args := [d1, d2, d3, d4] }
  | _ => none }
def RewardKeepsWrongFalsely : Prop := rewardKeepsRow.holds Try.pinned (OpenSpec.ofChange rewardKeepsWrong)

/-- 'mintagelaw19.RewardAll': WHATEVER THE INPUT: true; the input reads as it did. -/
def rewardAllSpec : ChangeSpec := { name := "rewardAll", fn := fun _ => fun
  | [d1, d2, d3, d4] => { results := [.lit (.bool true)], args := [d1, d2, d3, d4] }
  | _ => none }
def rewardAllRow : OpenClaim := { program := "ytnahgcofhneilaa", sum := "827113b2bcfaaa16876862aa5b586c31c6d965b8a9b46977e3a18fec20b92dc5", func := "mintage/mintagelaw19.RewardAll", spec := "rewardAll", inPlace := ["math/bits.Add64", "internal/bytealg.abigen_runtime_cmpstring"], unfollowed := true, recurses := true, named := ["math/bits.divideError", "math/bits.overflowError"], plainKeys := false, apart := false }
def RewardAllSaid : Prop := rewardAllRow.holds Try.pinned (OpenSpec.ofChange rewardAllSpec)

/-- ITS FALSE NEIGHBOUR: 'it returns false'. Refute it at one input. -/
def rewardAllWrong : ChangeSpec := { name := "rewardAll", fn := fun _ => fun
  | [d1, d2, d3, d4] => { results := [.lit (.bool false)], args := [d1, d2, d3, d4] }
  | _ => none }
def RewardAllWrongFalsely : Prop := rewardAllRow.holds Try.pinned (OpenSpec.ofChange rewardAllWrong)

/-- 'mintagelaw19.RewardKnown': WHATEVER THE INPUT: true; the input reads as it did. -/
def rewardKnownSpec : ChangeSpec := { name := "rewardKnown", fn := fun _ => fun
  | [] => { results := [.lit (.bool true)], args := [] }
  | _ => none }
def rewardKnownRow : OpenClaim := { program := "ytnahgcofhneilaa", sum := "827113b2bcfaaa16876862aa5b586c31c6d965b8a9b46977e3a18fec20b92dc5", func := "mintage/mintagelaw19.RewardKnown", spec := "rewardKnown", inPlace := ["math/bits.Add64", "internal/bytealg.abigen_runtime_cmpstring"], unfollowed := true, recurses := true, named := ["math/bits.divideError", "math/bits.overflowError"], plainKeys := false, apart := false }
def RewardKnownSaid : Prop := rewardKnownRow.holds Try.pinned (OpenSpec.ofChange rewardKnownSpec)

/-- ITS FALSE NEIGHBOUR: 'it returns false'. Refute it at one input. -/
def rewardKnownWrong : ChangeSpec := { name := "rewardKnown", fn := fun _ => fun
  | [] => { results := [.lit (.bool false)], args := [] }
  | _ => none }
def RewardKnownWrongFalsely : Prop := rewardKnownRow.holds Try.pinned (OpenSpec.ofChange rewardKnownWrong)

/- THE SECOND FORM. 'bulk': how many values and letters a reading holds, each counted each time it is reached (what is shared counts as often as it is met; a slice's spare places count too). A statement '..UptoSaid' is the law's where the arguments, and the package variables that the reading takes, are together of bulk at most 1048576: NARROWER than '..Said'. Prove '..Said' where nothing that the law and all that it calls make is longer than what came in: it says more and counts as full. Else prove '..UptoSaid'. A law counts once. -/
mutual
def uptoBulk {H : Type} : DataW H → Nat
  | .lit (.string bytes) => bytes.length + 1
  | .lit _ => 1
  | .nil => 1
  | .ptr d => uptoBulk d + 1
  | .slice elems spare => uptoBulkAll elems + uptoBulkAll spare + 1
  | .agg parts => uptoBulkAll parts + 1
  | .iface _ d => uptoBulk d + 1
  | .map entries => uptoBulkEntries entries + 1
  | .held _ => 1
def uptoBulkAll {H : Type} : List (DataW H) → Nat
  | [] => 0
  | d :: r => uptoBulk d + uptoBulkAll r
def uptoBulkEntries {H : Type} : List (Lit × DataW H) → Nat
  | [] => 0
  | x :: r => uptoBulkEntry x + uptoBulkEntries r
def uptoBulkEntry {H : Type} : Lit × DataW H → Nat
  | (.string bytes, d) => bytes.length + uptoBulk d + 1
  | (_, d) => uptoBulk d + 1
 end
def uptoSmall : (H : Type) → List (DataW H) → Bool := fun _ ds => decide (uptoBulkAll ds ≤ 1048576)
def OpenSpec.upto (s : _root_.Go.ChangeSpec) : _root_.Go.OpenSpec := { _root_.Go.OpenSpec.ofChange s with cond := some uptoSmall }

/-- 'mintagelaw17.CoinMoves', WHERE WHAT IT READS IS OF BULK AT MOST 1048576: true; the input reads as it did. -/
def coinMovesUptoRow : OpenClaim := { program := "ytnahgcofhneilaa", sum := "827113b2bcfaaa16876862aa5b586c31c6d965b8a9b46977e3a18fec20b92dc5", func := "mintage/mintagelaw17.CoinMoves", spec := "coinMoves", inPlace := ["math/bits.Add64"], unfollowed := true, recurses := true, plainKeys := false, apart := false, narrowed := true }
def CoinMovesUptoSaid : Prop := coinMovesUptoRow.holds Try.pinned (OpenSpec.upto coinMovesSpec)

/-- 'mintagelaw17.CoinKeeps', WHERE WHAT IT READS IS OF BULK AT MOST 1048576: true; the input reads as it did. -/
def coinKeepsUptoRow : OpenClaim := { program := "ytnahgcofhneilaa", sum := "827113b2bcfaaa16876862aa5b586c31c6d965b8a9b46977e3a18fec20b92dc5", func := "mintage/mintagelaw17.CoinKeeps", spec := "coinKeeps", inPlace := ["math/bits.Add64"], unfollowed := true, recurses := true, plainKeys := false, apart := false, narrowed := true }
def CoinKeepsUptoSaid : Prop := coinKeepsUptoRow.holds Try.pinned (OpenSpec.upto coinKeepsSpec)

/-- 'mintagelaw17.CoinBack', WHERE WHAT IT READS IS OF BULK AT MOST 1048576: true; the input reads as it did. -/
def coinBackUptoRow : OpenClaim := { program := "ytnahgcofhneilaa", sum := "827113b2bcfaaa16876862aa5b586c31c6d965b8a9b46977e3a18fec20b92dc5", func := "mintage/mintagelaw17.CoinBack", spec := "coinBack", inPlace := ["math/bits.Add64"], unfollowed := true, recurses := true, plainKeys := false, apart := false, narrowed := true }
def CoinBackUptoSaid : Prop := coinBackUptoRow.holds Try.pinned (OpenSpec.upto coinBackSpec)

/-- 'mintagelaw17.CoinOf', WHERE WHAT IT READS IS OF BULK AT MOST 1048576: true; the input reads as it did. -/
def coinOfUptoRow : OpenClaim := { program := "ytnahgcofhneilaa", sum := "827113b2bcfaaa16876862aa5b586c31c6d965b8a9b46977e3a18fec20b92dc5", func := "mintage/mintagelaw17.CoinOf", spec := "coinOf", inPlace := ["math/bits.Add64", "internal/bytealg.abigen_runtime_cmpstring"], unfollowed := true, recurses := true, plainKeys := false, apart := false, narrowed := true }
def CoinOfUptoSaid : Prop := coinOfUptoRow.holds Try.pinned (OpenSpec.upto coinOfSpec)

/-- 'mintagelaw17.CoinStakes', WHERE WHAT IT READS IS OF BULK AT MOST 1048576: true; the input reads as it did. -/
def coinStakesUptoRow : OpenClaim := { program := "ytnahgcofhneilaa", sum := "827113b2bcfaaa16876862aa5b586c31c6d965b8a9b46977e3a18fec20b92dc5", func := "mintage/mintagelaw17.CoinStakes", spec := "coinStakes", inPlace := ["math/bits.Add64", "internal/bytealg.abigen_runtime_cmpstring"], unfollowed := true, recurses := true, plainKeys := false, apart := false, narrowed := true }
def CoinStakesUptoSaid : Prop := coinStakesUptoRow.holds Try.pinned (OpenSpec.upto coinStakesSpec)

/-- 'mintagelaw19.RewardPays', WHERE WHAT IT READS IS OF BULK AT MOST 1048576: true; the input reads as it did. -/
def rewardPaysUptoRow : OpenClaim := { program := "ytnahgcofhneilaa", sum := "827113b2bcfaaa16876862aa5b586c31c6d965b8a9b46977e3a18fec20b92dc5", func := "mintage/mintagelaw19.RewardPays", spec := "rewardPays", inPlace := ["math/bits.Add64", "internal/bytealg.abigen_runtime_cmpstring"], unfollowed := true, recurses := true, named := ["math/bits.divideError", "math/bits.overflowError"], plainKeys := false, apart := false, narrowed := true }
def RewardPaysUptoSaid : Prop := rewardPaysUptoRow.holds Try.pinned (OpenSpec.upto rewardPaysSpec)

/-- 'mintagelaw19.RewardLess', WHERE WHAT IT READS IS OF BULK AT MOST 1048576: true; the input reads as it did. -/
def rewardLessUptoRow : OpenClaim := { program := "ytnahgcofhneilaa", sum := "827113b2bcfaaa16876862aa5b586c31c6d965b8a9b46977e3a18fec20b92dc5", func := "mintage/mintagelaw19.RewardLess", spec := "rewardLess", inPlace := ["math/bits.Add64", "internal/bytealg.abigen_runtime_cmpstring"], unfollowed := true, recurses := true, named := ["math/bits.divideError", "math/bits.overflowError"], plainKeys := false, apart := false, narrowed := true }
def RewardLessUptoSaid : Prop := rewardLessUptoRow.holds Try.pinned (OpenSpec.upto rewardLessSpec)

/-- 'mintagelaw19.RewardParts', WHERE WHAT IT READS IS OF BULK AT MOST 1048576: true; the input reads as it did. -/
def rewardPartsUptoRow : OpenClaim := { program := "ytnahgcofhneilaa", sum := "827113b2bcfaaa16876862aa5b586c31c6d965b8a9b46977e3a18fec20b92dc5", func := "mintage/mintagelaw19.RewardParts", spec := "rewardParts", inPlace := ["math/bits.Add64", "internal/bytealg.abigen_runtime_cmpstring"], unfollowed := true, recurses := true, named := ["math/bits.divideError", "math/bits.overflowError"], plainKeys := false, apart := false, narrowed := true }
def RewardPartsUptoSaid : Prop := rewardPartsUptoRow.holds Try.pinned (OpenSpec.upto rewardPartsSpec)

/-- 'mintagelaw19.RewardSums', WHERE WHAT IT READS IS OF BULK AT MOST 1048576: true; the input reads as it did. -/
def rewardSumsUptoRow : OpenClaim := { program := "ytnahgcofhneilaa", sum := "827113b2bcfaaa16876862aa5b586c31c6d965b8a9b46977e3a18fec20b92dc5", func := "mintage/mintagelaw19.RewardSums", spec := "rewardSums", inPlace := ["math/bits.Add64", "internal/bytealg.abigen_runtime_cmpstring"], unfollowed := true, recurses := true, named := ["math/bits.divideError", "math/bits.overflowError"], plainKeys := false, apart := false, narrowed := true }
def RewardSumsUptoSaid : Prop := rewardSumsUptoRow.holds Try.pinned (OpenSpec.upto rewardSumsSpec)

/-- 'mintagelaw19.RewardKeeps', WHERE WHAT IT READS IS OF BULK AT MOST 1048576: true; the input reads as it did. -/
def rewardKeepsUptoRow : OpenClaim := { program := "ytnahgcofhneilaa", sum := "827113b2bcfaaa16876862aa5b586c31c6d965b8a9b46977e3a18fec20b92dc5", func := "mintage/mintagelaw19.RewardKeeps", spec := "rewardKeeps", inPlace := ["math/bits.Add64", "internal/bytealg.abigen_runtime_cmpstring"], unfollowed := true, recurses := true, named := ["math/bits.divideError", "math/bits.overflowError"], plainKeys := false, apart := false, narrowed := true }
def RewardKeepsUptoSaid : Prop := rewardKeepsUptoRow.holds Try.pinned (OpenSpec.upto rewardKeepsSpec)

/-- 'mintagelaw19.RewardAll', WHERE WHAT IT READS IS OF BULK AT MOST 1048576: true; the input reads as it did. -/
def rewardAllUptoRow : OpenClaim := { program := "ytnahgcofhneilaa", sum := "827113b2bcfaaa16876862aa5b586c31c6d965b8a9b46977e3a18fec20b92dc5", func := "mintage/mintagelaw19.RewardAll", spec := "rewardAll", inPlace := ["math/bits.Add64", "internal/bytealg.abigen_runtime_cmpstring"], unfollowed := true, recurses := true, named := ["math/bits.divideError", "math/bits.overflowError"], plainKeys := false, apart := false, narrowed := true }
def RewardAllUptoSaid : Prop := rewardAllUptoRow.holds Try.pinned (OpenSpec.upto rewardAllSpec)

/-- 'mintagelaw19.RewardKnown', WHERE WHAT IT READS IS OF BULK AT MOST 1048576: true; the input reads as it did. -/
def rewardKnownUptoRow : OpenClaim := { program := "ytnahgcofhneilaa", sum := "827113b2bcfaaa16876862aa5b586c31c6d965b8a9b46977e3a18fec20b92dc5", func := "mintage/mintagelaw19.RewardKnown", spec := "rewardKnown", inPlace := ["math/bits.Add64", "internal/bytealg.abigen_runtime_cmpstring"], unfollowed := true, recurses := true, named := ["math/bits.divideError", "math/bits.overflowError"], plainKeys := false, apart := false, narrowed := true }
def RewardKnownUptoSaid : Prop := rewardKnownUptoRow.holds Try.pinned (OpenSpec.upto rewardKnownSpec)

end Rows
end Go.Proofs.Ytnahgcofhneilaa
