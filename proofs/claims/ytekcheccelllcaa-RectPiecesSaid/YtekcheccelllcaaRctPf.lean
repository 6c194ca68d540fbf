/- Layer 07: the walk of RectPieces, joined. -/
import Derived.Test.YtekcheccelllcaaRctPb
import Derived.Test.YtekcheccelllcaaRctPc
import Derived.Test.YtekcheccelllcaaRctPd
import Derived.Test.YtekcheccelllcaaRctPe
namespace Go.Proofs.Ytekcheccelllcaa
open Go.RowKit
theorem RectPieces_walk (ax ay aw ah bx b2 bw bh cx cy : Int) (w : World) (hax : -9223372036854775808 ≤ ax ∧ ax ≤ 9223372036854775807) (hay : -9223372036854775808 ≤ ay ∧ ay ≤ 9223372036854775807) (haw : -9223372036854775808 ≤ aw ∧ aw ≤ 9223372036854775807) (hah : -9223372036854775808 ≤ ah ∧ ah ≤ 9223372036854775807) (hbx : -9223372036854775808 ≤ bx ∧ bx ≤ 9223372036854775807) (hb2 : -9223372036854775808 ≤ b2 ∧ b2 ≤ 9223372036854775807) (hbw : -9223372036854775808 ≤ bw ∧ bw ≤ 9223372036854775807) (hbh : -9223372036854775808 ≤ bh ∧ bh ≤ 9223372036854775807) : Calls Try.prog 9 #[.agg #[.int .i64 ax, .int .i64 ay, .int .i64 aw, .int .i64 ah], .agg #[.int .i64 bx, .int .i64 b2, .int .i64 bw, .int .i64 bh], .agg #[.int .i64 cx, .int .i64 cy]] w fun e w' => e = .returned (.bool true) ∧ Below w.heap.size w w' := (RectPieces_A ax ay aw ah bx b2 bw bh cx cy w hax hay haw hah hbx hb2 hbw hbh).2 (Lib.hid (RectPieces_B0 ax ay aw ah bx b2 bw bh cx cy w hax hay haw hah hbx hb2 hbw hbh)) (Lib.hid (RectPieces_B1 ax ay aw ah bx b2 bw bh cx cy w hax hay haw hah hbx hb2 hbw hbh)) (Lib.hid (RectPieces_B2 ax ay aw ah bx b2 bw bh cx cy w hax hay haw hah hbx hb2 hbw hbh)) (Lib.hid (RectPieces_B3 ax ay aw ah bx b2 bw bh cx cy w hax hay haw hah hbx hb2 hbw hbh))
end Go.Proofs.Ytekcheccelllcaa
