/-
  No cell of these rows narrows 'for every input' (looked for: loops, veiled, ifaces, maps, wideKeys, modest, calm, conditions, laid).
  DERIVED. THE GIVEN ROWS OF THIS SEAT. 11 by the template 'for every input the law returns true; each argument reads behind the call as it read before'; 0 by the template 'total and deterministic' (their statements: YtbopjdnjkajneaaTotals.lean).
  GIVEN WITH THE SEED: the statements are not yours to turn. If you find one false, say at which input.
  Laid BY PROGRAM, IN A SANDBOX (cutbox-rows.mjs): the forced cells as the released guide's own fill.sh prints them over the translation 5293d683f81321ea… (all of the seat's roots in one cut). By AI agents, Wed Nov 11 2026. No macro, syntax, notation, axiom, sorry.
-/
import Derived.Test.YtbopjdnjkajneaaChecked
import GoSem.Claim
import GoSem.ClaimJoined
import GoSem.ClaimMapViews
import Derived.JoinedTies
import Derived.KernelRfl
namespace Go.Proofs.Ytbopjdnjkajneaa
/- THE CELL 'sum', in the pinned program and in every row, IS THE sha256 OF THE DUMP (.gsa) THAT YtbopjdnjkajneaaProg.lean LOADS. Nothing in Lean hashes anything: it is a label: what it is worth is what the hold of that sum in a sandbox is worth. -/
noncomputable def Try.pinned : Pinned := { name := "ytbopjdnjkajneaa", sum := "5293d683f81321eab1d0ccb53f2c0c4fb9f97d23879a05dbb9cbff3c8b4e8dc4", checked := Try.checked }
namespace Rows
def none {H : Type} : Left H := { results := [], args := [] }

/-- 'mintagelaw08.ShelfKnown': WHATEVER THE INPUT: true; the input reads as it did. -/
def shelfKnownSpec : ChangeSpec := { name := "shelfKnown", fn := fun _ => fun
  | [] => { results := [.lit (.bool true)], args := [] }
  | _ => none }
def shelfKnownRow : OpenClaim := { program := "ytbopjdnjkajneaa", sum := "5293d683f81321eab1d0ccb53f2c0c4fb9f97d23879a05dbb9cbff3c8b4e8dc4", func := "mintage/mintagelaw08.ShelfKnown", spec := "shelfKnown", unfollowed := true, recurses := true, plainKeys := false, apart := false }
def ShelfKnownSaid : Prop := shelfKnownRow.holds Try.pinned (OpenSpec.ofChange shelfKnownSpec)

/-- ITS FALSE NEIGHBOUR: 'it returns false'. Refute it at one input. -/
def shelfKnownWrong : ChangeSpec := { name := "shelfKnown", fn := fun _ => fun
  | [] => { results := [.lit (.bool false)], args := [] }
  | _ => none }
def ShelfKnownWrongFalsely : Prop := shelfKnownRow.holds Try.pinned (OpenSpec.ofChange shelfKnownWrong)

/-- 'mintagelaw08.ShelfPlays': WHATEVER THE INPUT: true; the input reads as it did. -/
def shelfPlaysSpec : ChangeSpec := { name := "shelfPlays", fn := fun _ => fun
  | [d] => { results := [.lit (.bool true)], args := [d] }
  | _ => none }
def shelfPlaysRow : OpenClaim := { program := "ytbopjdnjkajneaa", sum := "5293d683f81321eab1d0ccb53f2c0c4fb9f97d23879a05dbb9cbff3c8b4e8dc4", func := "mintage/mintagelaw08.ShelfPlays", spec := "shelfPlays", unfollowed := true, recurses := true, plainKeys := false, apart := false }
def ShelfPlaysSaid : Prop := shelfPlaysRow.holds Try.pinned (OpenSpec.ofChange shelfPlaysSpec)

/-- ITS FALSE NEIGHBOUR: 'it returns false'. Refute it at one input. -/
def shelfPlaysWrong : ChangeSpec := { name := "shelfPlays", fn := fun _ => fun
  | [d] => { results := [.lit (.bool false)], args := [d] }
  | _ => none }
def ShelfPlaysWrongFalsely : Prop := shelfPlaysRow.holds Try.pinned (OpenSpec.ofChange shelfPlaysWrong)

/-- 'mintagelaw08.ShelfOld': WHATEVER THE INPUT: true; the input reads as it did. -/
def shelfOldSpec : ChangeSpec := { name := "shelfOld", fn := fun _ => fun
  | [d] => { results := [.lit (.bool true)], args := [d] }
  | _ => none }
def shelfOldRow : OpenClaim := { program := "ytbopjdnjkajneaa", sum := "5293d683f81321eab1d0ccb53f2c0c4fb9f97d23879a05dbb9cbff3c8b4e8dc4", func := "mintage/mintagelaw08.ShelfOld", spec := "shelfOld", unfollowed := true, recurses := true, plainKeys := false, apart := false }
def ShelfOldSaid : Prop := shelfOldRow.holds Try.pinned (OpenSpec.ofChange shelfOldSpec)

/-- ITS FALSE NEIGHBOUR: 'it returns false'. Refute it at one input. -/
def shelfOldWrong : ChangeSpec := { name := "shelfOld", fn := fun _ => fun
  | [d] => { results := [.lit (.bool false)], args := [d] }
  | _ => none }
def ShelfOldWrongFalsely : Prop := shelfOldRow.holds Try.pinned (OpenSpec.ofChange shelfOldWrong)

/-- 'mintagelaw08.ShelfOne': WHATEVER THE INPUT: true; the input reads as it did. -/
def shelfOneSpec : ChangeSpec := { name := "shelfOne", fn := fun _ => fun
  | [d1, d2] => { results := [.lit (.bool true)], args := [d1, d2] }
  | _ => none }
def shelfOneRow : OpenClaim := { program := "ytbopjdnjkajneaa", sum := "5293d683f81321eab1d0ccb53f2c0c4fb9f97d23879a05dbb9cbff3c8b4e8dc4", func := "mintage/mintagelaw08.ShelfOne", spec := "shelfOne", unfollowed := true, recurses := true, plainKeys := false, apart := false }
def ShelfOneSaid : Prop := shelfOneRow.holds Try.pinned (OpenSpec.ofChange shelfOneSpec)

/-- ITS FALSE NEIGHBOUR: 'it returns false'. Refute it at one input. -/
def shelfOneWrong : ChangeSpec := { name := "shelfOne", fn := fun _ => fun
  | [d1, d2] => { results := [.lit (.bool false)], args := [d1, d2] }
  | _ => none }
def ShelfOneWrongFalsely : Prop := shelfOneRow.holds Try.pinned (OpenSpec.ofChange shelfOneWrong)

/-- 'mintagelaw08.ShelfEarly': WHATEVER THE INPUT: true; the input reads as it did. -/
def shelfEarlySpec : ChangeSpec := { name := "shelfEarly", fn := fun _ => fun
  | [d1, d2] => { results := [.lit (.bool true)], args := [d1, d2] }
  | _ => none }
def shelfEarlyRow : OpenClaim := { program := "ytbopjdnjkajneaa", sum := "5293d683f81321eab1d0ccb53f2c0c4fb9f97d23879a05dbb9cbff3c8b4e8dc4", func := "mintage/mintagelaw08.ShelfEarly", spec := "shelfEarly", unfollowed := true, recurses := true, plainKeys := false, apart := false }
def ShelfEarlySaid : Prop := shelfEarlyRow.holds Try.pinned (OpenSpec.ofChange shelfEarlySpec)

/-- ITS FALSE NEIGHBOUR: 'it returns false'. Refute it at one input. -/
def shelfEarlyWrong : ChangeSpec := { name := "shelfEarly", fn := fun _ => fun
  | [d1, d2] => { results := [.lit (.bool false)], args := [d1, d2] }
  | _ => none }
def ShelfEarlyWrongFalsely : Prop := shelfEarlyRow.holds Try.pinned (OpenSpec.ofChange shelfEarlyWrong)

/-- 'mintagelaw17.CoinKnown': WHATEVER THE INPUT: true; the input reads as it did. -/
def coinKnownSpec : ChangeSpec := { name := "coinKnown", fn := fun _ => fun
  | [] => { results := [.lit (.bool true)], args := [] }
  | _ => none }
def coinKnownRow : OpenClaim := { program := "ytbopjdnjkajneaa", sum := "5293d683f81321eab1d0ccb53f2c0c4fb9f97d23879a05dbb9cbff3c8b4e8dc4", func := "mintage/mintagelaw17.CoinKnown", spec := "coinKnown", inPlace := ["math/bits.Add64"], unfollowed := true, recurses := true, plainKeys := false, apart := false }
def CoinKnownSaid : Prop := coinKnownRow.holds Try.pinned (OpenSpec.ofChange coinKnownSpec)

/-- ITS FALSE NEIGHBOUR: 'it returns false'. Refute it at one input. -/
def coinKnownWrong : ChangeSpec := { name := "coinKnown", fn := fun _ => fun
  | [] => { results := [.lit (.bool false)], args := [] }
  | _ => none }
def CoinKnownWrongFalsely : Prop := coinKnownRow.holds Try.pinned (OpenSpec.ofChange coinKnownWrong)

/-- 'mintagelaw17.CoinMoves': WHATEVER THE INPUT: true; the input reads as it did. -/
def coinMovesSpec : ChangeSpec := { name := "coinMoves", fn := fun _ => fun
  | [d1, d2] => { results := [.lit (.bool true)], args := [d1, d2] }
  | _ => none }
def coinMovesRow : OpenClaim := { program := "ytbopjdnjkajneaa", sum := "5293d683f81321eab1d0ccb53f2c0c4fb9f97d23879a05dbb9cbff3c8b4e8dc4", func := "mintage/mintagelaw17.CoinMoves", spec := "coinMoves", inPlace := ["math/bits.Add64"], unfollowed := true, recurses := true, plainKeys := false, apart := false }
def CoinMovesSaid : Prop := coinMovesRow.holds Try.pinned (OpenSpec.ofChange coinMovesSpec)

/-- ITS FALSE NEIGHBOUR: 'it returns false'. Refute it at one input. -/
def coinMovesWrong : ChangeSpec := { name := "coinMoves", fn := fun _ => fun
  | [d1, d2] => { results := [.lit (.bool false)], args := [d1, d2] }
  | _ => none }
def CoinMovesWrongFalsely : Prop := coinMovesRow.holds Try.pinned (OpenSpec.ofChange coinMovesWrong)

/-- 'mintagelaw17.CoinKeeps': WHATEVER THE INPUT: true; the input reads as it did. -/
def coinKeepsSpec : ChangeSpec := { name := "coinKeeps", fn := fun _ => fun
  | [d1, d2] => { results := [.lit (.bool true)], args := [d1, d2] }
  | _ => none }
def coinKeepsRow : OpenClaim := { program := "ytbopjdnjkajneaa", sum := "5293d683f81321eab1d0ccb53f2c0c4fb9f97d23879a05dbb9cbff3c8b4e8dc4", func := "mintage/mintagelaw17.CoinKeeps", spec := "coinKeeps", inPlace := ["math/bits.Add64"], unfollowed := true, recurses := true, plainKeys := false, apart := false }
def CoinKeepsSaid : Prop := coinKeepsRow.holds Try.pinned (OpenSpec.ofChange coinKeepsSpec)

/-- ITS FALSE NEIGHBOUR: 'it returns false'. Refute it at one input. -/
def coinKeepsWrong : ChangeSpec := { name := "coinKeeps", fn := fun _ => fun
  | [d1, d2] => { results := [.lit (.bool false)], args := [d1, d2] }
  | _ => none }
def CoinKeepsWrongFalsely : Prop := coinKeepsRow.holds Try.pinned (OpenSpec.ofChange coinKeepsWrong)

/-- 'mintagelaw17.CoinBack': WHATEVER THE INPUT: true; the input reads as it did. -/
def coinBackSpec : ChangeSpec := { name := "coinBack", fn := fun _ => fun
  | [d1, d2, d3] => { results := [.lit (.bool true)], args := [d1, d2, d3] }
  | _ => none }
def coinBackRow : OpenClaim := { program := "ytbopjdnjkajneaa", sum := "5293d683f81321eab1d0ccb53f2c0c4fb9f97d23879a05dbb9cbff3c8b4e8dc4", func := "mintage/mintagelaw17.CoinBack", spec := "coinBack", inPlace := ["math/bits.Add64"], unfollowed := true, recurses := true, plainKeys := false, apart := false }
def CoinBackSaid : Prop := coinBackRow.holds Try.pinned (OpenSpec.ofChange coinBackSpec)

/-- ITS FALSE NEIGHBOUR: 'it returns false'. Refute it at one input. -/
def coinBackWrong : ChangeSpec := { name := "coinBack", fn := fun _ => fun
  | [d1, d2, d3] => { results := [.lit (.bool false)], args := [d1, d2, d3] }
  | _ => none }
def CoinBackWrongFalsely : Prop := coinBackRow.holds Try.pinned (OpenSpec.ofChange coinBackWrong)

/-- 'mintagelaw17.CoinOf': WHATEVER THE INPUT: true; the input reads as it did. -/
def coinOfSpec : ChangeSpec := { name := "coinOf", fn := fun _ => fun
  | [d1, d2] => { results := [.lit (.bool true)], args := [d1, d2] }
  | _ => none }
def coinOfRow : OpenClaim := { program := "ytbopjdnjkajneaa", sum := "5293d683f81321eab1d0ccb53f2c0c4fb9f97d23879a05dbb9cbff3c8b4e8dc4", func := "mintage/mintagelaw17.CoinOf", spec := "coinOf", inPlace := ["math/bits.Add64", "internal/bytealg.abigen_runtime_cmpstring"], unfollowed := true, recurses := true, plainKeys := false, apart := false }
def CoinOfSaid : Prop := coinOfRow.holds Try.pinned (OpenSpec.ofChange coinOfSpec)

/-- ITS FALSE NEIGHBOUR: 'it returns false'. Refute it at one input. -/
def coinOfWrong : ChangeSpec := { name := "coinOf", fn := fun _ => fun
  | [d1, d2] => { results := [.lit (.bool false)], args := [d1, d2] }
  | _ => none }
def CoinOfWrongFalsely : Prop := coinOfRow.holds Try.pinned (OpenSpec.ofChange coinOfWrong)

/-- 'mintagelaw17.CoinStakes': WHATEVER THE INPUT: true; the input reads as it did. -/
def coinStakesSpec : ChangeSpec := { name := "coinStakes", fn := fun _ => fun
  | [d] => { results := [.lit (.bool true)], args := [d] }
  | _ => none }
def coinStakesRow : OpenClaim := { program := "ytbopjdnjkajneaa", sum := "5293d683f81321eab1d0ccb53f2c0c4fb9f97d23879a05dbb9cbff3c8b4e8dc4", func := "mintage/mintagelaw17.CoinStakes", spec := "coinStakes", inPlace := ["math/bits.Add64", "internal/bytealg.abigen_runtime_cmpstring"], unfollowed := true, recurses := true, plainKeys := false, apart := false }
def CoinStakesSaid : Prop := coinStakesRow.holds Try.pinned (OpenSpec.ofChange coinStakesSpec)

/-- ITS FALSE NEIGHBOUR: 'it returns false'. Refute it at one input. -/
def coinStakesWrong : ChangeSpec := { name := "coinStakes", fn := fun _ => fun
  | [d] => { results := [.lit (.bool false)], args := [d] }
  | _ => none }
def CoinStakesWrongFalsely : Prop := coinStakesRow.holds Try.pinned (OpenSpec.ofChange coinStakesWrong)

/- THE SECOND FORM. 'bulk': how many values and letters a reading holds, each counted each time it is reached (what is shared counts as often as it is met; a slice's spare places count too). A statement '..UptoSaid' is the law's where the arguments, and the package variables that the reading takes, are together of bulk at most 1048576: NARROWER than '..Said'. Prove '..Said' where nothing that the law and all that it calls make is longer than what came in: it says more and counts as full. Else prove '..UptoSaid'. A law counts once. -/
mutual
def uptoBulk {H : Type} : DataW H → Nat
  | .lit (.string bytes) => bytes.length + 1
  | .lit _ => 1
  | .nil => 1
  | .ptr d => uptoBulk d + 1
  | .slice elems spare => uptoBulkAll elems + uptoBulkAll spare + 1
  | .agg parts => uptoBulkAll parts + 1
  | .iface _ d => uptoBulk d + 1
  | .map entries => uptoBulkEntries entries + 1
  | .held _ => 1
def uptoBulkAll {H : Type} : List (DataW H) → Nat
  | [] => 0
  | d :: r => uptoBulk d + uptoBulkAll r
def uptoBulkEntries {H : Type} : List (Lit × DataW H) → Nat
  | [] => 0
  | x :: r => uptoBulkEntry x + uptoBulkEntries r
def uptoBulkEntry {H : Type} : Lit × DataW H → Nat
  | (.string bytes, d) => bytes.length + uptoBulk d + 1
  | (_, d) => uptoBulk d + 1
 end
def uptoSmall : (H : Type) → List (DataW H) → Bool := fun _ ds => decide (uptoBulkAll ds ≤ 1048576)
def OpenSpec.upto (s : _root_.Go.ChangeSpec) : _root_.Go.OpenSpec := { _root_.Go.OpenSpec.ofChange s with cond := some uptoSmall }

/-- 'mintagelaw08.ShelfKnown', WHERE WHAT IT READS IS OF BULK AT MOST 1048576: true; the input reads as it did. -/
def shelfKnownUptoRow : OpenClaim := { program := "ytbopjdnjkajneaa", sum := "5293d683f81321eab1d0ccb53f2c0c4fb9f97d23879a05dbb9cbff3c8b4e8dc4", func := "mintage/mintagelaw08.ShelfKnown", spec := "shelfKnown", unfollowed := true, recurses := true, plainKeys := false, apart := false, narrowed := true }
def ShelfKnownUptoSaid : Prop := shelfKnownUptoRow.holds Try.pinned (OpenSpec.upto shelfKnownSpec)

/-- 'mintagelaw08.ShelfPlays', WHERE WHAT IT READS IS OF BULK AT MOST 1048576: true; the input reads as it did. -/
def shelfPlaysUptoRow : OpenClaim := { program := "ytbopjdnjkajneaa", sum := "5293d683f81321eab1d0ccb53f2c0c4fb9f97d23879a05dbb9cbff3c8b4e8dc4", func := "mintage/mintagelaw08.ShelfPlays", spec := "shelfPlays", unfollowed := true, recurses := true, plainKeys := false, apart := false, narrowed := true }
def ShelfPlaysUptoSaid : Prop := shelfPlaysUptoRow.holds Try.pinned (OpenSpec.upto shelfPlaysSpec)

/-- 'mintagelaw08.ShelfOld', WHERE WHAT IT READS IS OF BULK AT MOST 1048576: true; the input reads as it did. -/
def shelfOldUptoRow : OpenClaim := { program := "ytbopjdnjkajneaa", sum := "5293d683f81321eab1d0ccb53f2c0c4fb9f97d23879a05dbb9cbff3c8b4e8dc4", func := "mintage/mintagelaw08.ShelfOld", spec := "shelfOld", unfollowed := true, recurses := true, plainKeys := false, apart := false, narrowed := true }
def ShelfOldUptoSaid : Prop := shelfOldUptoRow.holds Try.pinned (OpenSpec.upto shelfOldSpec)

/-- 'mintagelaw08.ShelfOne', WHERE WHAT IT READS IS OF BULK AT MOST 1048576: true; the input reads as it did. -/
def shelfOneUptoRow : OpenClaim := { program := "ytbopjdnjkajneaa", sum := "5293d683f81321eab1d0ccb53f2c0c4fb9f97d23879a05dbb9cbff3c8b4e8dc4", func := "mintage/mintagelaw08.ShelfOne", spec := "shelfOne", unfollowed := true, recurses := true, plainKeys := false, apart := false, narrowed := true }
def ShelfOneUptoSaid : Prop := shelfOneUptoRow.holds Try.pinned (OpenSpec.upto shelfOneSpec)

/-- 'mintagelaw08.ShelfEarly', WHERE WHAT IT READS IS OF BULK AT MOST 1048576: true; the input reads as it did. -/
def shelfEarlyUptoRow : OpenClaim := { program := "ytbopjdnjkajneaa", sum := "5293d683f81321eab1d0ccb53f2c0c4fb9f97d23879a05dbb9cbff3c8b4e8dc4", func := "mintage/mintagelaw08.ShelfEarly", spec := "shelfEarly", unfollowed := true, recurses := true, plainKeys := false, apart := false, narrowed := true }
def ShelfEarlyUptoSaid : Prop := shelfEarlyUptoRow.holds Try.pinned (OpenSpec.upto shelfEarlySpec)

/-- 'mintagelaw17.CoinKnown', WHERE WHAT IT READS IS OF BULK AT MOST 1048576: true; the input reads as it did. -/
def coinKnownUptoRow : OpenClaim := { program := "ytbopjdnjkajneaa", sum := "5293d683f81321eab1d0ccb53f2c0c4fb9f97d23879a05dbb9cbff3c8b4e8dc4", func := "mintage/mintagelaw17.CoinKnown", spec := "coinKnown", inPlace := ["math/bits.Add64"], unfollowed := true, recurses := true, plainKeys := false, apart := false, narrowed := true }
def CoinKnownUptoSaid : Prop := coinKnownUptoRow.holds Try.pinned (OpenSpec.upto coinKnownSpec)

/-- 'mintagelaw17.CoinMoves', WHERE WHAT IT READS IS OF BULK AT MOST 1048576: true; the input reads as it did. -/
def coinMovesUptoRow : OpenClaim := { program := "ytbopjdnjkajneaa", sum := "5293d683f81321eab1d0ccb53f2c0c4fb9f97d23879a05dbb9cbff3c8b4e8dc4", func := "mintage/mintagelaw17.CoinMoves", spec := "coinMoves", inPlace := ["math/bits.Add64"], unfollowed := true, recurses := true, plainKeys := false, apart := false, narrowed := true }
def CoinMovesUptoSaid : Prop := coinMovesUptoRow.holds Try.pinned (OpenSpec.upto coinMovesSpec)

/-- 'mintagelaw17.CoinKeeps', WHERE WHAT IT READS IS OF BULK AT MOST 1048576: true; the input reads as it did. -/
def coinKeepsUptoRow : OpenClaim := { program := "ytbopjdnjkajneaa", sum := "5293d683f81321eab1d0ccb53f2c0c4fb9f97d23879a05dbb9cbff3c8b4e8dc4", func := "mintage/mintagelaw17.CoinKeeps", spec := "coinKeeps", inPlace := ["math/bits.Add64"], unfollowed := true, recurses := true, plainKeys := false, apart := false, narrowed := true }
def CoinKeepsUptoSaid : Prop := coinKeepsUptoRow.holds Try.pinned (OpenSpec.upto coinKeepsSpec)

/-- 'mintagelaw17.CoinBack', WHERE WHAT IT READS IS OF BULK AT MOST 1048576: true; the input reads as it did. -/
def coinBackUptoRow : OpenClaim := { program := "ytbopjdnjkajneaa", sum := "5293d683f81321eab1d0ccb53f2c0c4fb9f97d23879a05dbb9cbff3c8b4e8dc4", func := "mintage/mintagelaw17.CoinBack", spec := "coinBack", inPlace := ["math/bits.Add64"], unfollowed := true, recurses := true, plainKeys := false, apart := false, narrowed := true }
def CoinBackUptoSaid : Prop := coinBackUptoRow.holds Try.pinned (OpenSpec.upto coinBackSpec)

/-- 'mintagelaw17.CoinOf', WHERE WHAT IT READS IS OF BULK AT MOST 1048576: true; the input reads as it did. -/
def coinOfUptoRow : OpenClaim := { program := "ytbopjdnjkajneaa", sum := "5293d683f81321eab1d0ccb53f2c0c4fb9f97d23879a05dbb9cbff3c8b4e8dc4", func := "mintage/mintagelaw17.CoinOf", spec := "coinOf", inPlace := ["math/bits.Add64", "internal/bytealg.abigen_runtime_cmpstring"], unfollowed := true, recurses := true, plainKeys := false, apart := false, narrowed := true }
def CoinOfUptoSaid : Prop := coinOfUptoRow.holds Try.pinned (OpenSpec.upto coinOfSpec)

/-- 'mintagelaw17.CoinStakes', WHERE WHAT IT READS IS OF BULK AT MOST 1048576: true; the input reads as it did. -/
def coinStakesUptoRow : OpenClaim := { program := "ytbopjdnjkajneaa", sum := "5293d683f81321eab1d0ccb53f2c0c4fb9f97d23879a05dbb9cbff3c8b4e8dc4", func := "mintage/mintagelaw17.CoinStakes", spec := "coinStakes", inPlace := ["math/bits.Add64", "internal/bytealg.abigen_runtime_cmpstring"], unfollowed := true, recurses := true, plainKeys := false, apart := false, narrowed := true }
def CoinStakesUptoSaid : Prop := coinStakesUptoRow.holds Try.pinned (OpenSpec.upto coinStakesSpec)

end Rows
end Go.Proofs.Ytbopjdnjkajneaa
