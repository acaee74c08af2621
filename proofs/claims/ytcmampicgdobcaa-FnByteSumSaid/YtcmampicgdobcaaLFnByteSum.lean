/- The walk of one statement: by the contracts of what it calls it returns true and changes nothing that was there. No condition. -/
import Derived.Test.YtcmampicgdobcaaEl
namespace Go.Proofs.Ytcmampicgdobcaa
open Go.RowKit
theorem FnByteSum_walk (A : Option Addr) (n c : Nat) (B : Option Addr) (m d : Nat) (w : World) (hA : BytesR w w.heap.size A n) (hc : n ≤ c) (hm : c ≤ maxLen) (hB : BytesR w w.heap.size B m) (hd : m ≤ d) (hm2 : d ≤ maxLen) :
    Calls Try.prog 4 #[.slice A n c, .slice B m d] w fun e w' => e = .returned (.bool true) ∧ Below w.heap.size w w' :=
  FnByteSum_of DrawClusterSum_any A n c B m d w hA hc hm hB hd hm2
end Go.Proofs.Ytcmampicgdobcaa
