/- pure words for jitter's held and Check. No function is walked here. -/
import Derived.Test.YtjmohkgbfigcgaaJDue
namespace Go.Proofs.Ytjmohkgbfigcgaa.Sh
open Go Go.RowKit
set_option linter.unusedVariables false

/-- each that is held is well made, its arrival fits, and its distance grows -/
def heldF (sq hg : Int) : Int → List JHeld.Data → Bool
  | _, [] => true
  | q, (m, a, _) :: hs => checkM m && withinF 0 hg a && decide (a % 4294967296 = stampOf m) && withinF (q + 1) 511 (aheadF (seqOf m) sq 65536) && heldF sq hg (aheadF (seqOf m) sq 65536) hs
def checkB : JBuf.Data → Bool
  | (fr, now, bg, fd, sq, hg, lw, bs, jt, ls, hs, _) =>
    (withinF 1 96 fr && withinF 0 1099511627776 now && withinF 0 1048576 jt && withinF 0 1099511627776 ls) &&
      (if bg then withinF 0 65535 sq && withinF 0 1152921504606846976 hg && withinF (-1152921504606846976) bs lw && decide (bs ≤ 1152921504606846976) && (heldF sq hg (-1) hs && decide (hs.length ≤ 64))
       else !fd && decide (sq = 0 ∧ hg = 0 ∧ lw = 0 ∧ bs = 0 ∧ jt = 0 ∧ ls = 0) && decide (hs.length = 0))
end Go.Proofs.Ytjmohkgbfigcgaa.Sh
