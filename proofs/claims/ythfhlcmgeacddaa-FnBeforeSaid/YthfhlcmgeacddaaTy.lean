/- Facts carried from world to world by one word. No condition but on sizes. -/
import Derived.Test.YthfhlcmgeacddaaDt
import Derived.Test.YthfhlcmgeacddaaRw
namespace Go.Proofs.Ythfhlcmgeacddaa
open Go.RowKit
theorem ownsRow_below' {w w' : World} {base e size n B : Nat} {v : Value} {xs : List Value} (h : w.ownsRow base e size v n xs) (hb : Below B w w') (hB : w.heap.size ≤ B) : w'.ownsRow base e size v n xs := ownsRow_below h (hb.mono hB)
/-- one hidden fact carried over a step of the world -/
syntax "carry1 " ident ident : tactic
macro_rules
  | `(tactic| carry1 $h $x) => `(tactic| first
    | replace $x := Lib.hid (Blk.only ($x).out $h (by omega))
    | replace $x := Lib.hid (Ints.only ($x).out $h (by omega) (by omega))
    | replace $x := Lib.hid (Cells.only ($x).out $h (by omega) (by omega))
    | replace $x := Lib.hid (ownsRow_only ($x).out $h (by omega))
    | replace $x := Lib.hid (Only.trans ($x).out $h)
    | replace $x := Lib.hid (Blk.below ($x).out $h (by omega))
    | replace $x := Lib.hid (Ints.below ($x).out $h (by omega))
    | replace $x := Lib.hid (Cells.below ($x).out $h (by omega))
    | replace $x := Lib.hid (Rd.below ($x).out $h (by omega))
    | replace $x := Lib.hid (IntsR.below ($x).out $h (by omega))
    | replace $x := Lib.hid (BytesR.below ($x).out $h (by omega))
    | replace $x := Lib.hid (ownsRow_below' ($x).out $h (by omega))
    | replace $x := Lib.hid (Only.then_below ($x).out (Below.mono $h (by omega)))
    | replace $x := Lib.hid (Below.trans ($x).out (Below.mono $h (by omega)))
    | replace $x := Lib.hid (Below.trans ($x).out (Only.below $h (by omega) (by omega)))
    | fail "carry1")
syntax "carry " ident "[" ident,* "]" : tactic
macro_rules
  | `(tactic| carry $_h []) => `(tactic| skip)
  | `(tactic| carry $h [$x]) => `(tactic| carry1 $h $x)
  | `(tactic| carry $h [$x, $xs,*]) => `(tactic| (carry1 $h $x; carry $h [$xs,*]))
/-- a hidden equality of sizes as two bounds -/
theorem size_alloc (w : World) (o : Obj) : (w.alloc o).heap.size = w.heap.size + 1 := by simp
end Go.Proofs.Ythfhlcmgeacddaa
