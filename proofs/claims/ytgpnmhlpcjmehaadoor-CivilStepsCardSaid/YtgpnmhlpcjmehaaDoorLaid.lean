/- What the rows lay: the library's table of powers of ten as the walks need it; the door's own heap meets it. -/
import Derived.Test.YtgpnmhlpcjmehaaDoorRows
import Derived.Test.YtgpnmhlpcjmehaaDoorGlob
import Derived.MakeChecks
import Derived.Stop.LaidErr
import Derived.LaidMore
import Derived.Stop.Joined
import Derived.ProofKit
namespace Go.Proofs.YtgpnmhlpcjmehaaDoorG
open Go.RowKit
open Go.Proofs.YtgpnmhlpcjmehaaDoor
abbrev LAID : List (String × DataW Unit) := [("math/bits.deBruijn32tab", Rows.laid_math_bits_deBruijn32tab), ("math/bits.deBruijn64tab", Rows.laid_math_bits_deBruijn64tab), ("internal/strconv.uint64pow10", Rows.laid_internal_strconv_uint64pow10)]
theorem door_met (os : Os) (args : Array Value) : laidMetH Tryd.prog LAID ((World.doorLaid Tryd.prog 400 os).forCall (fun _ _ => 0) ⟨#[], args, []⟩).memory :=
  laidMetH_of_parts3 (fuel := 8) (laidMet_of_run' 8 (by kernel_rfl) (by kernel_rfl)) (by kernel_rfl) (by kernel_rfl)
theorem G_of {W : World} (h : laidMetH Tryd.prog LAID W) : G W := by
  rw [MakeChecks.laidMetH_plain _ _ _ (by kernel_rfl)] at h
  have h3 : laidMet Tryd.prog (("internal/strconv.uint64pow10", Lib.tabData .u64 Lib.pow10Tab) :: []) W := h.tail.tail
  exact Lib.tabIs_of_head (t := 76) (e := 70) (n := 20) G_at (by kernel_rfl) (by kernel_rfl) (by kernel_rfl) (by kernel_rfl) (by kernel_rfl) h3
end Go.Proofs.YtgpnmhlpcjmehaaDoorG
