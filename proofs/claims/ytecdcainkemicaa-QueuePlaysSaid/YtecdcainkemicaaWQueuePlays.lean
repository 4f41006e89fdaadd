/- QueuePlays, walked. -/
import Derived.Test.YtecdcainkemicaaQPlaysA
import Derived.Test.YtecdcainkemicaaQPlaysB
namespace Go.Proofs.Ytecdcainkemicaa
open Go.RowKit
theorem queuePlays_walk (la : Option Addr) (len cap : Nat) (w : World) (hl : OkT Try.prog w 6 41 [.slice la len cap]) :
    Calls Try.prog 6 #[.slice la len cap] w (RetB (.bool true) w.heap.size w) := by
  by_cases h : len ≤ 40
  · exact queuePlays_le la len cap w h hl
  · exact queuePlays_gt la len cap w (by omega) hl
end Go.Proofs.Ytecdcainkemicaa
