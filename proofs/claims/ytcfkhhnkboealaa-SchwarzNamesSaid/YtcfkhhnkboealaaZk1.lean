/- Half planes bent to polygons: the square, side 1. -/
import Derived.Test.YtcfkhhnkboealaaZj
namespace Go.Proofs.Ytcfkhhnkboealaa
open Go.RowKit
set_option linter.unusedVariables false
set_option linter.unusedSimpArgs false
set_option maxRecDepth 100000
set_option maxHeartbeats 4000000
theorem sqP10 : pieceX sqA4 sqG4 0 0 4598175219545276416 0 3 0 = 13827483446840915005 ∧ pieceY sqA4 sqG4 0 0 4598175219545276416 0 3 0 = 13589404472778279028 := by decide +kernel
theorem sqP11 : pieceX sqA4 sqG4 0 0 4598175219545276416 0 3 1 = 13823362477007828847 ∧ pieceY sqA4 sqG4 0 0 4598175219545276416 0 3 1 = 13585322938215706600 := by decide +kernel
theorem sqP12 : pieceX sqA4 sqG4 0 0 4598175219545276416 0 3 2 = 13823362477007828847 ∧ pieceY sqA4 sqG4 0 0 4598175219545276416 0 3 2 = 13585322938215706600 := by decide +kernel
theorem sqP13 : pieceX sqA4 sqG4 0 0 4598175219545276416 0 3 3 = 13827483446840915008 ∧ pieceY sqA4 sqG4 0 0 4598175219545276416 0 3 3 = 13589404472778279030 := by decide +kernel
theorem sqS1X : sumC (pieceX sqA4 sqG4 0 0 4598175219545276416 0 3) 3 = 13835102255934011387 := sumC3 sqP10.1 sqP11.1 sqP12.1 sqP13.1 (by decide +kernel)
theorem sqS1Y : sumC (pieceY sqA4 sqG4 0 0 4598175219545276416 0 3) 3 = 13596880189142003764 := sumC3 sqP10.2 sqP11.2 sqP12.2 sqP13.2 (by decide +kernel)
end Go.Proofs.Ytcfkhhnkboealaa
