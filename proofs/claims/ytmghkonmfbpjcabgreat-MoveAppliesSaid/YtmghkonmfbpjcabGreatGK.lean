/- RunJ. -/
import Derived.Test.YtmghkonmfbpjcabGreatRunI
import Derived.Test.YtmghkonmfbpjcabGreatGA
set_option linter.unusedVariables false
set_option linter.unusedSimpArgs false
namespace Go.Proofs.YtmghkonmfbpjcabGreat
section
open Go.RowKit
theorem Run_any (regs : Int) (A : Option Addr) (l : List Nd) (cap : Nat) (Ai : Option Addr) (inp : List Int) (ci : Nat) (fuel : Int) (w : World) (hl : l.length ≤ maxLen) (hA : NodesAt w A l) (hI : ValsAt w Ai (ints inp)) (hic : inp.length ≤ ci ∧ ci ≤ maxLen) :
 Calls Tryz.prog 40 #[.agg #[.int .i64 regs, .slice A l.length cap], .slice Ai inp.length ci, .int .i64 fuel] w (RunPost 3 103 regs l inp fuel w) := by (
 by_cases h0 : chk regs l = 0
 · (
 by_cases h1 : 256 < inp.length
 · exact Run_err2 regs A l cap Ai inp ci fuel w hl hA h0 h1
 · (
 by_cases h2 : fuel < 0
 · exact Run_err3a regs A l cap Ai inp ci fuel w hl hA h0 (by omega) h2
 · (
 by_cases h3 : 131072 < fuel
 · exact Run_err3b regs A l cap Ai inp ci fuel w hl hA h0 (by omega) h3
 · exact Run_ok regs A l cap Ai inp ci fuel w hl hA hI hic h0 (by omega) (by omega) (by omega))))
 · exact Run_err1 regs A l cap Ai inp ci fuel w hl hA h0)
end
end Go.Proofs.YtmghkonmfbpjcabGreat
