/- Trees: plain laws: what a right tree is. -/
import Derived.Test.YtihjefncjkdnpaaTreD
namespace Go.Proofs.Ytihjefncjkdnpaa
open Go.RowKit Go.Deep
set_option linter.unusedVariables false
set_option linter.unusedSimpArgs false

theorem check_len {T : List Nd} (h : (checkT T).1 = 0) : 0 < T.length ∧ T.length ≤ 4096 := by
  unfold checkT at h
  split at h
  · cases h
  · omega
theorem res_each {T : List Nd} : ∀ (l : List Nd) (n : Nat) (t : Nat → Bool) (d : Nat → Int), (resT T l n t d).1 = 0 → ∀ i, i < l.length → ∃ t d, wrongAt T (n + i) (l.getD i zNd) t d = 0
  | [], _, _, _, _, i, hi => absurd hi (Nat.not_lt_zero _)
  | x :: l, n, t, d, h, i, hi => by
    rw [resT_cons] at h
    by_cases hw : wrongAt T n x t d = 0
    · rw [if_pos hw] at h
      cases i with
      | zero => exact ⟨t, d, hw⟩
      | succ i =>
        have := res_each l (n + 1) _ _ h i (by simpa using hi)
        rw [show n + (i + 1) = n + 1 + i by omega]
        exact this
    · rw [if_neg hw] at h
      exact absurd h hw
theorem check_each {T : List Nd} (h : (checkT T).1 = 0) (i : Nat) (hi : i < T.length) : ∃ t d, wrongAt T i (T.getD i zNd) t d = 0 := by
  have hl := check_len h
  unfold checkT at h
  rw [if_neg (by omega)] at h
  have := res_each T 0 _ _ h i hi
  rwa [Nat.zero_add] at this
theorem wrong_names {T : List Nd} {n : Nat} {x : Nd} {t : Nat → Bool} {d : Nat → Int} (h : wrongAt T n x t d = 0) : ¬ namesBad T n x := by
  intro hb
  by_cases hk : x.kind < 1 ∨ 11 < x.kind
  · rw [wrong_kind hk] at h; cases h
  · rw [wrong_name hk hb] at h; cases h
/-- in a right tree no two nodes have one name -/
theorem check_ids {T : List Nd} (h : (checkT T).1 = 0) (i j : Nat) (hi : i < T.length) (hj : j < T.length) (hne : i ≠ j) (h0 : 0 < (T.getD i zNd).id.size) : (T.getD j zNd).id.data.toList ≠ (T.getD i zNd).id.data.toList := by
  have key : ∀ a b, a < b → b < T.length → 0 < (T.getD b zNd).id.size → (T.getD a zNd).id.data.toList ≠ (T.getD b zNd).id.data.toList := by
    intro a b hab hb h1 e
    obtain ⟨t, d, hw⟩ := check_each h b hb
    have hn := wrong_names hw
    apply hn
    unfold namesBad
    refine .inl ⟨h1, .inl ?_⟩
    unfold idIn
    rw [List.any_eq_true]
    refine ⟨T.getD a zNd, ?_, ?_⟩
    · rw [List.getD_eq_getElem?_getD, List.getElem?_eq_getElem (by omega)]
      exact List.mem_take_iff_getElem.2 ⟨a, by omega, rfl⟩
    · rw [decide_eq_true_eq]
      cases hx : (T.getD a zNd).id; cases hy : (T.getD b zNd).id
      rw [hx, hy] at e
      simp only [ByteArray.mk.injEq]
      exact Array.ext' e
  rcases Nat.lt_or_ge i j with hij | hij
  · intro e
    refine key i j hij hj ?_ e.symm
    rw [Lib.size_eq, e, ← Lib.size_eq]; exact h0
  · intro e
    exact key j i (by omega) hi h0 e
end Go.Proofs.Ytihjefncjkdnpaa
