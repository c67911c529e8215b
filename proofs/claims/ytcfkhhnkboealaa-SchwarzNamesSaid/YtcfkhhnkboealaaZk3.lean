/- Half planes bent to polygons: the triangle, from a place to itself. -/
import Derived.Test.YtcfkhhnkboealaaZj
namespace Go.Proofs.Ytcfkhhnkboealaa
open Go.RowKit
set_option linter.unusedVariables false
set_option linter.unusedSimpArgs false
set_option maxRecDepth 100000
set_option maxHeartbeats 4000000
theorem sqT0 : pieceX sqA3 sqG3 0 4607182418800017408 0 0 2 0 = 9223372036854775808 ∧ pieceY sqA3 sqG3 0 4607182418800017408 0 0 2 0 = 0 := by decide +kernel
theorem sqT1 : pieceX sqA3 sqG3 0 4607182418800017408 0 0 2 1 = 9223372036854775808 ∧ pieceY sqA3 sqG3 0 4607182418800017408 0 0 2 1 = 0 := by decide +kernel
theorem sqT2 : pieceX sqA3 sqG3 0 4607182418800017408 0 0 2 2 = 9223372036854775808 ∧ pieceY sqA3 sqG3 0 4607182418800017408 0 0 2 2 = 0 := by decide +kernel
theorem sqTX : sumC (pieceX sqA3 sqG3 0 4607182418800017408 0 0 2) 2 = 9223372036854775808 := sumC2 sqT0.1 sqT1.1 sqT2.1 (by decide +kernel)
theorem sqTY : sumC (pieceY sqA3 sqG3 0 4607182418800017408 0 0 2) 2 = 0 := sumC2 sqT0.2 sqT1.2 sqT2.2 (by decide +kernel)
end Go.Proofs.Ytcfkhhnkboealaa
