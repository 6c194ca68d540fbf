/- A lent tree is a tree that lies in memory. -/
import Derived.Test.YtihjefncjkdnpaaLntD
namespace Go.Proofs.Ytihjefncjkdnpaa
open Go.RowKit Go.Deep
set_option linter.unusedVariables false
set_option linter.unusedSimpArgs false

theorem LentAt.tree {w : World} {B : Nat} {v : Value} {T : List Nd} (h : LentAt w B v T) (ok : ∀ x ∈ T, NdOk x) (len : T.length ≤ 9223372036854775807) : TreeAt w v T := by
  obtain ⟨g, c, cs, hC⟩ := h.cells
  refine ⟨ok, len, some ⟨g, 0, none⟩, c, hC.v, by have := hC.cap.1; omega, by have := hC.cap.2; unfold maxLen at this; omega, fun _ => ⟨g, 0, rfl, hC.lt, fun i hi => ?_⟩⟩
  obtain ⟨gk, ck, cv, e, hk, hc, _⟩ := hC.kid i hi
  refine ⟨_, cv, hk, hc, fun j hj => ?_⟩
  have hl : j < (ndV (T.getD i zNd) (.slice (some ⟨gk, 0, none⟩) (T.getD i zNd).kids.length ck) cv).length := by rw [ndV_len]; exact hj
  have := hC.nd i hi j _ (by rw [e]; exact List.getElem?_eq_getElem hl)
  rw [Nat.zero_add, this, List.getElem?_eq_getElem hl]
end Go.Proofs.Ytihjefncjkdnpaa
