/- Layer 13: the marks of the lists that were told. -/
import Derived.Test.YtebalohoblaedaaGlyPg
import Derived.Laws.BytesArg
namespace Go.Proofs.Ytebalohoblaedaa
open Go.RowKit
set_option linter.unusedVariables false
set_option linter.unusedSimpArgs false

theorem u8_of_wrap (i : Nat) : UInt8.ofNat (IntKind.u8.wrap (i : Int)).toNat = UInt8.ofNat i := by
  have : (IntKind.u8.wrap (i : Int)).toNat = i % 256 := by
    unfold IntKind.wrap
    simp [IntKind.signed, IntKind.bits]
    omega
  rw [this]
  exact UInt8.toNat_inj.1 (by simp)
/-- the two bytes of a mark as a text -/
theorem conv_mark {w : World} {b i k : Nat} (h : w.heap[b]? = some (.cells #[.int .u8 (IntKind.u8.wrap (i : Int)), .int .u8 (IntKind.u8.wrap (k : Int))] 5 (0, 0))) : (convert 95 9 (.slice (some ⟨b, 0, none⟩) 2 2)).run Try.prog w = .ok (.string ⟨#[UInt8.ofNat i, UInt8.ofNat k]⟩) w := by
  have := run_convert_bytes_arg w 95 5 Try.underlying95 Try.underlying5 b 0 2 2 [IntKind.u8.wrap (i : Int), IntKind.u8.wrap (k : Int)] rfl (fun j hj => by
    rw [cell_of_row _ _ _ _ _ _ h]
    rcases j with _ | _ | j
    · rfl
    · rfl
    · omega) 9 Try.underlying9
  rw [this]
  simp [strOfNums, u8_of_wrap]
end Go.Proofs.Ytebalohoblaedaa
