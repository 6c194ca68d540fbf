/- Boxes that lie in memory. -/
import Derived.Test.YtihjefncjkdnpaaBase
import Derived.Below
namespace Go.Proofs.Ytihjefncjkdnpaa
open Go.RowKit
set_option linter.unusedVariables false
set_option linter.unusedSimpArgs false

/-- boxes lie in memory: n of them, 18 numbers each -/
def BoxAt (w : World) (p : Option Addr) (n : Nat) (bx : Nat → Nat → Int) : Prop := 0 < n → ∃ b off, p = some ⟨b, off, none⟩ ∧ b < w.heap.size ∧ ∀ i, i < n → ∀ j, j < 18 → w.cell? ⟨b, off + (i * 18 + j), none⟩ = some (.int .i64 (bx i j))
theorem BoxAt.later {w wr : World} {p : Option Addr} {n : Nat} {bx : Nat → Nat → Int} {B : Nat} (h : BoxAt w p n bx) (hb : Below B w wr) (hB : w.heap.size ≤ B) : BoxAt wr p n bx := by
  intro h0
  obtain ⟨b, off, e, hz, hc⟩ := h h0
  exact ⟨b, off, e, Nat.lt_of_lt_of_le hz hb.size, fun i hi j hj => by rw [(bcell hb).1 _ _ (Nat.lt_of_lt_of_le hz hB)]; exact hc i hi j hj⟩
end Go.Proofs.Ytihjefncjkdnpaa
