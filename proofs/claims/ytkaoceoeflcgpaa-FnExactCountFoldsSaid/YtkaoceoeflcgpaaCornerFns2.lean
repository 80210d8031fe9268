/- Contracts of the reference's IsMountain, IsValley; of CountPeaks, StripAt. -/
import Derived.Test.YtkaoceoeflcgpaaCornerFns
namespace Go.Proofs.Ytkaoceoeflcgpaa
open Go.RowKit
set_option linter.unusedVariables false
set_option linter.unusedSimpArgs false

def peaksV (s : ByteArray) : Int := if strip s.data.toList then (crlN s 102 s.size : Int) else -1
theorem peaksV_no {s : ByteArray} (h : strip s.data.toList = false) : peaksV s = -1 := by unfold peaksV; rw [h]; rfl
theorem peaksV_yes {s : ByteArray} (h : strip s.data.toList = true) : peaksV s = crlN s 102 s.size := by unfold peaksV; rw [h]; rfl
theorem crlN_hit {s : ByteArray} {c : UInt8} {k : Nat} (h : crl s c k = true) : crlN s c (k + 1) = crlN s c k + 1 := by show crlN s c k + (if crl s c k then 1 else 0) = _; rw [h]; rfl
theorem crlN_miss {s : ByteArray} {c : UInt8} {k : Nat} (h : crl s c k = false) : crlN s c (k + 1) = crlN s c k := by show crlN s c k + (if crl s c k then 1 else 0) = _; rw [h]; rfl

end Go.Proofs.Ytkaoceoeflcgpaa
