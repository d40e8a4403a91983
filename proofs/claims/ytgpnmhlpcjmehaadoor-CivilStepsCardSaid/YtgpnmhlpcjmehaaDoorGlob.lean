/- The library's table of powers of ten, as it was laid: a fact that every later world keeps. -/
import Derived.Test.YtgpnmhlpcjmehaaDoorProg
import Derived.Lib.LaidTab
import Derived.WalkSmall
import Derived.LaidMore
import Derived.LaidHandle
import Derived.Shelf.Strconv.Itoa3
import Derived.KernelRfl
namespace Go.Proofs.YtgpnmhlpcjmehaaDoorG
open Go.RowKit
def G (w : World) : Prop := Lib.TabIs Tryd.prog w "internal/strconv.uint64pow10" .u64 Lib.pow10Tab
theorem G_at : Tryd.prog.globalNamed "internal/strconv.uint64pow10" = some 0 := by kernel_rfl
theorem G_below {w w' : World} (h : G w) (hb : Below w.heap.size w w') : G w' := by
  have hc : w.cell? ⟨0, 0, none⟩ = some (.int .u64 1) := Lib.TabIs.cell h G_at 0 (by decide)
  exact var?_below hb G_at (World.block_lt_of_cell? _ _ hc) h
end Go.Proofs.YtgpnmhlpcjmehaaDoorG
