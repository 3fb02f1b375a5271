/-
  A call that is known by a contract of another kind: it hands back a datum, and leaves what was there.
-/
import Derived.Test.YtbopjdnjkajneaaAbRun
import Derived.Below
namespace Go.Ab
theorem callPost_same {base : Base} {fl : Fl} {E : Env} {st : St} {w w' : World} {d : D} {v : Value} (h : Here base fl E st w) (b : RowKit.Below w.heap.size w w') (r : Rel E st w' d v) : CallPost base fl E st w d st (.returned v) w' := by
  obtain ⟨S, h1, h2⟩ := h
  have hs : Same base w w' := ⟨b.size, b.os, b.tape, b.output, b.block⟩
  exact ⟨v, E, rfl, Ext.same S h1 h2 hs, S.same hs, r⟩
end Go.Ab
