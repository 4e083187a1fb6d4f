/- What a table of requests computes, in plain words. -/
import Derived.Test.YtjjbikpjkbdabaaMaps
set_option linter.unusedVariables false
namespace Go.Proofs.Ytjjbikpjkbdabaa.TabS
open Go.Proofs.Ytjjbikpjkbdabaa.Maps
structure Res where
  e : Int
  d : ByteArray
  k : Int
  l : Int
  s : Int
  n : List ByteArray
def zero : Res := ⟨0, ByteArray.empty, 0, 0, 0, []⟩
structure K where
  req : Int
  done : Bool
  res : Res
abbrev T := List (Int × K)
def wrong (c r : Int) : Bool := if c < 0 then true else if c > 1099511627776 then true else if r < 1 then true else decide (r > 1099511627776)
def tAsk (t : T) (c r : Int) : Int × Res × Int :=
  if wrong c r = true then (0, zero, 1) else match mget t c with
    | none => (1, zero, 0)
    | some k => if k.req < r then (1, zero, 0) else if r < k.req then (4, zero, 0) else if k.done = true then (3, k.res, 0) else (2, zero, 0)
def tBegin (t : T) (c r : Int) : T × Int :=
  if (tAsk t c r).2.2 = 0 then (if (tAsk t c r).1 = 1 then (if mget t c = none ∧ t.length = 256 then (t, 5) else (mput t c ⟨r, false, zero⟩, 0)) else (t, 7)) else (t, (tAsk t c r).2.2)
def tDone (t : T) (c r : Int) (x : Res) : T × Int :=
  if wrong c r = true then (t, 1) else match mget t c with
    | none => (t, 6)
    | some k => if k.req = r then (if k.done = true then (t, 7) else (mput t c ⟨r, true, x⟩, 0)) else (t, 6)
end Go.Proofs.Ytjjbikpjkbdabaa.TabS
