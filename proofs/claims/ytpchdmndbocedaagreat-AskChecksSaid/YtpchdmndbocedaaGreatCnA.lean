/-
  Coins as data: what they are made of, their cells, their spots.
-/
import Derived.Test.YtpchdmndbocedaaGreatAbSim
set_option linter.unusedSimpArgs false
set_option linter.unusedVariables false
namespace Go.Ab.Cn
open Go Go.Ab
theorem flat_u8 : ∀ b : List UInt8,flatL (b.map fun c => D.int .u8 c.toNat) = true
 | [] => rfl
 | _ :: b => by simp [flatL,D.flat,flat_u8 b]
structure H32 where
 b : List UInt8
 hb : b.length = 32
deriving DecidableEq
structure InM where
 tx : H32
 ix : Nat
 hix : ix < 18446744073709551616
deriving DecidableEq
structure OutM where
 to : H32
 stake : H32
 am : Nat
 ham : am < 18446744073709551616
deriving DecidableEq
structure CoinM where
 inn : InM
 out : OutM
deriving DecidableEq
def hD (h : H32) : List D:=h.b.map fun c => .int .u8 c.toNat
def inD (x : InM) : List D:=hD x.tx ++ [.int .u64 x.ix]
def outD (o : OutM) : List D:=hD o.to ++ (hD o.stake ++ [.int .u64 o.am])
def coinD (c : CoinM) : List D:=inD c.inn ++ outD c.out
theorem hD_length (h : H32) : (hD h).length = 32:=by simp [hD,h.hb]
theorem inD_length (x : InM) : (inD x).length = 33:=by simp [inD,hD_length]
theorem outD_length (x : OutM) : (outD x).length = 65:=by simp [outD,hD_length]
theorem hD_flat (h : H32) : flatL (hD h) = true:=flat_u8 h.b
theorem inD_flat (x : InM) : flatL (inD x) = true:=by simp [inD,flat_append,hD_flat,flatL,D.flat]
theorem outD_flat (x : OutM) : flatL (outD x) = true:=by simp [outD,flat_append,hD_flat,flatL,D.flat]
def zH : H32:=⟨List.replicate 32 0,by simp⟩
def zIn : InM:=⟨zH,0,by decide⟩
def zOut : OutM:=⟨zH,zH,0,by decide⟩
def zCoin : CoinM:=⟨zIn,zOut⟩
end Go.Ab.Cn
