/- QueueAll, walked. -/
import Derived.Test.YtecdcainkemicaaQAllA
import Derived.Test.YtecdcainkemicaaQAllB
namespace Go.Proofs.Ytecdcainkemicaa
open Go.RowKit
theorem queueAll_walk (l1 : Option Addr) (len1 cap1 : Nat) (l2 : Option Addr) (len2 cap2 : Nat) (l3 : Option Addr) (len3 cap3 : Nat) (w : World) (h1 : OkT Try.prog w 6 22 [.slice l1 len1 cap1]) (h2 : OkT Try.prog w 6 26 [.slice l2 len2 cap2]) (h3 : OkT Try.prog w 6 26 [.slice l3 len3 cap3]) :
    Calls Try.prog 5 #[.slice l1 len1 cap1, .slice l2 len2 cap2, .slice l3 len3 cap3] w (RetB (.bool true) w.heap.size w) := by
  by_cases a : len1 ≤ 20 <;> by_cases b : len2 ≤ 10
  · exact queueAll_ll l1 len1 cap1 l2 len2 cap2 l3 len3 cap3 w a b h1 h2 h3
  · exact queueAll_lg l1 len1 cap1 l2 len2 cap2 l3 len3 cap3 w a (by omega) h1 h2 h3
  · exact queueAll_gl l1 len1 cap1 l2 len2 cap2 l3 len3 cap3 w (by omega) b h1 h2 h3
  · exact queueAll_gg l1 len1 cap1 l2 len2 cap2 l3 len3 cap3 w (by omega) (by omega) h1 h2 h3
end Go.Proofs.Ytecdcainkemicaa
