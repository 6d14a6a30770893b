/- The document's second example, reckoned. No program in sight but SHA-256's plain law. -/
import Derived.Test.YtideobdggdmeiaaSha5St
namespace Go.Proofs.Ytideobdggdmeiaa
open Go.RowKit
set_option maxRecDepth 1000000
def jefe : List UInt8 := [74, 101, 102, 101]
def whatdo : List UInt8 := [119, 104, 97, 116, 32, 100, 111, 32, 121, 97, 32, 119, 97, 110, 116, 32, 102, 111, 114, 32, 110, 111, 116, 104, 105, 110, 103, 63]
def tag2 : List UInt8 := [91, 220, 193, 70, 191, 96, 117, 78, 106, 4, 36, 38, 8, 149, 117, 199, 90, 0, 63, 8, 157, 39, 57, 131, 157, 236, 88, 185, 100, 236, 56, 67]
set_option maxHeartbeats 4000000 in
theorem tagged_plain : A5.tag jefe whatdo = tag2 := by kernel_rfl
end Go.Proofs.Ytideobdggdmeiaa
