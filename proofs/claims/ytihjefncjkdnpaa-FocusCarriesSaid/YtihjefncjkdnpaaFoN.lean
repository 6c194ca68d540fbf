/- Focus: who has the focus when it goes on, in plain Lean. -/
import Derived.Test.YtihjefncjkdnpaaFoA
namespace Go.Proofs.Ytihjefncjkdnpaa
open Go.RowKit Go.Deep
set_option linter.unusedVariables false
set_option linter.unusedSimpArgs false

def atI (L : List Int) (x : Int) : Int := ixF (fun y => decide (y = x)) L
/-- the one that is by steps on; i: the place -/
def stepI (L : List Int) (i by' : Int) : Int := L.getD ((i + by') % (L.length : Int)).toNat 0
def nextR (L : List Int) (at' by' : Int) : Int :=
  if L.length = 0 then -1
  else if atI L at' < 0 ∧ by' = 0 then -1
  else stepI L (if atI L at' < 0 ∧ by' < 0 then 0 else atI L at') by'
theorem atI_range (L : List Int) (x : Int) : -1 ≤ atI L x ∧ atI L x < (L.length : Int) ∧ (0 ≤ atI L x → L.getD (atI L x).toNat 0 = x) ∧ (atI L x < 0 → x ∉ L) := by
  unfold atI
  rcases ixF_spec (fun y => decide (y = x)) L with ⟨e, h⟩ | ⟨i, e, hi, h, _⟩
  · rw [e]
    refine ⟨by omega, by omega, fun h => by omega, fun _ hm => ?_⟩
    obtain ⟨j, hj, rfl⟩ := List.getElem_of_mem hm
    have := h j hj
    rw [List.getD_eq_getElem?_getD, List.getElem?_eq_getElem hj] at this
    simp at this
  · rw [e]
    exact ⟨by omega, by omega, fun _ => by simpa using h, fun h => by omega⟩
theorem tmod_bd (x : Int) {k : Int} (hk : 0 < k) : -k < x.tmod k ∧ x.tmod k < k := by
  have h1 := Int.tmod_lt_of_pos x hk
  refine ⟨?_, h1⟩
  have h2 := Int.tmod_lt_of_pos (-x) hk
  rw [Int.neg_tmod] at h2
  omega
theorem tmod_emod (x : Int) {k : Int} (hk : 0 < k) : (x.tmod k) % k = x % k := by
  have h := Int.tmod_add_mul_tdiv x k
  have e : x % k = (x.tmod k + k * x.tdiv k) % k := by rw [h]
  rw [e, Int.add_mul_emod_self_left]
theorem norm_mod (x : Int) {k : Int} (hk : 0 < k) : (x.tmod k + k) % k = x % k := by
  rw [Int.add_emod_right, tmod_emod x hk]
theorem add_tmod (i x : Int) {k : Int} (hk : 0 < k) : (i + x.tmod k) % k = (i + x) % k := by
  rw [Int.add_emod, tmod_emod x hk, ← Int.add_emod]
/-- as the program reckons -/
theorem prog_mod (i x : Int) {k : Int} (hk : 0 < k) : ((i + x.tmod k).tmod k + k) % k = (i + x) % k := by
  rw [norm_mod _ hk, add_tmod i x hk]
/-- as the reference reckons -/
theorem ref_mod (i x : Int) {k : Int} (hk : 0 < k) : (i % k + x % k) % k = (i + x) % k := by rw [← Int.add_emod]
theorem mod_of (x : Int) {k : Int} (hk : 0 < k) : (0 ≤ x.tmod k → x.tmod k = x % k) ∧ (x.tmod k < 0 → x.tmod k + k = x % k) := by
  have hb := tmod_bd x hk
  have he := tmod_emod x hk
  refine ⟨fun h => ?_, fun h => ?_⟩
  · rw [← he, Int.emod_eq_of_lt h hb.2]
  · rw [← he, ← Int.add_emod_right, Int.emod_eq_of_lt (by omega) (by omega)]
theorem mod_range (x : Int) {k : Int} (hk : 0 < k) : 0 ≤ x % k ∧ x % k < k := ⟨Int.emod_nonneg _ (by omega), Int.emod_lt_of_pos _ hk⟩
end Go.Proofs.Ytihjefncjkdnpaa
