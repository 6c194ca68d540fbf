/- Contracts of scroll.Thumb and its reference. -/
import Derived.Test.YtegdokchkblpiaaScrB
import Derived.Deep.DeepCutAuto
namespace Go.Proofs.Ytegdokchkblpiaa
open Go.RowKit

/-- the length of a thumb, and a thumb, for a view and a content in their ranges -/
def longF (v c : Int) : Int := max 1 (v * v / c)
def thumbAt (v c a : Int) : Int := if c ≤ v ∨ v = 0 then 0 else min (max a 0) (c - v) * (v - longF v c) / (c - v)
def thumbLen (v c : Int) : Int := if c ≤ v ∨ v = 0 then v else longF v c
def viewF (v : Int) : Int := min (max v 0) 4096

theorem viewF_bd (v : Int) : 0 ≤ viewF v ∧ viewF v ≤ 4096 := by unfold viewF; omega

theorem sq_bd (v : Int) (h0 : 0 ≤ v) (h1 : v ≤ 4096) : 0 ≤ v * v ∧ v * v ≤ 16777216 := by
  refine ⟨Int.mul_nonneg h0 h0, ?_⟩
  have := Int.mul_le_mul h1 h1 h0 (by omega : (0 : Int) ≤ 4096)
  omega

theorem longF_bd (v c : Int) (h0 : 0 ≤ v) (h : v < c) (hv : v ≠ 0) : 1 ≤ longF v c ∧ longF v c ≤ v := by
  unfold longF
  have : v * v / c ≤ v := by
    apply Int.ediv_le_of_le_mul (by omega)
    exact Int.mul_le_mul_of_nonneg_left (by omega) h0
  omega

theorem thumb_arith (x d r : Int) (hx0 : 0 ≤ x) (hx1 : x ≤ 2097152) (hd0 : 0 ≤ d) (hd1 : d ≤ 4096) (hr0 : 1 ≤ r) (hr1 : r ≤ 2097152) : wrap64 ((wrap64 (x * wrap64 d)).tdiv r) = x * d / r := by
  have e1 : wrap64 d = d := IntWalk.wrap64_in d ⟨by omega, by omega⟩
  have p0 : 0 ≤ x * d := Int.mul_nonneg hx0 hd0
  have p1 : x * d ≤ 2097152 * 4096 := Int.mul_le_mul hx1 hd1 hd0 (by omega)
  have e2 : wrap64 (x * d) = x * d := IntWalk.wrap64_in _ ⟨by omega, by omega⟩
  have e3 : (x * d).tdiv r = x * d / r := by rw [Int.tdiv_eq_ediv_of_nonneg p0]
  have q0 : 0 ≤ x * d / r := Int.ediv_nonneg p0 (by omega)
  have q1 : x * d / r ≤ x * d := Int.ediv_le_self r p0
  rw [e1, e2, e3]
  exact IntWalk.wrap64_in _ ⟨by omega, by omega⟩

theorem thumb_off (u c a : Int) (h : c ≤ u ∨ u = 0) : 0 = thumbAt u c a := by unfold thumbAt; rw [if_pos h]
theorem thumb_len_off (u c : Int) (h : c ≤ u ∨ u = 0) : u = thumbLen u c := by unfold thumbLen; rw [if_pos h]
theorem thumb_len_on (u c d : Int) (h : u < c) (hne : (u == 0) = false) (hd : d = longF u c) : d = thumbLen u c := by
  have : u ≠ 0 := by simpa using hne
  unfold thumbLen; rw [if_neg (by omega)]; exact hd
theorem thumb_on (u c a X d : Int) (h : u < c) (hu : 0 ≤ u ∧ u ≤ 4096) (hc : c ≤ 1048576) (hne : (u == 0) = false) (hX : X = min (max a 0) (c - u)) (hd : d = longF u c) :
    wrap64 ((wrap64 (X * wrap64 (u - d))).tdiv (c - u)) = thumbAt u c a := by
  have hne' : u ≠ 0 := by simpa using hne
  have hl := longF_bd u c hu.1 h hne'
  rw [thumb_arith X (u - d) (c - u) (by omega) (by omega) (by omega) (by omega) (by omega) (by omega)]
  unfold thumbAt; rw [if_neg (by omega), ← hX, ← hd]
theorem thumb_on0 (u c a : Int) (h : u < c) (hu : 0 ≤ u ∧ u ≤ 4096) (hc : c ≤ 1048576) (hne : (u == 0) = false) (ha : a < 0) :
    wrap64 ((wrap64 0).tdiv (c - u)) = thumbAt u c a := by
  have := thumb_on u c a 0 (longF u c) h hu hc hne (by omega) rfl
  rw [Int.zero_mul] at this
  exact this

set_option maxHeartbeats 1000000 in
theorem scroll_Thumb_any (v c a : Int) (w : World) : Calls Try.prog 15 #[.int .i64 v, .int .i64 c, .int .i64 a] w fun e w' => e = .returned (.tuple #[.int .i64 (thumbAt (viewF v) (ptF c) (ptF a)), .int .i64 (thumbLen (viewF v) (ptF c))]) ∧ w = w' := by
  have h1 := ptF_bd c; have h2 := ptF_bd a
  go_enter Try.func15, Try.ntmps15
  go_upto_region 1 with fail
  go_cut [0] (fun s wx => s = .int .i64 (viewF v) ∧ w = wx)
  case first =>
    go_wp2_with fail
    all_goals go_meet
    all_goals exact ⟨by unfold viewF; (first | rfl | (congr 1; done) | (congr 1; omega)), rfl⟩
  case rest =>
    obtain ⟨rfl, rfl⟩ := hcut
    have h3 := viewF_bd v
    have h4 := sq_bd _ h3.1 h3.2
    go_wp2_with (go_at_call 39; refine (scroll_point_any _ _).mono ?_; rintro e w' ⟨rfl, rfl⟩)
    all_goals go_ret2
    all_goals refine ⟨ret_int2 ?_ ?_, rfl⟩
    all_goals first
      | exact thumb_off _ _ _ (by first | (left; assumption) | (rename_i h; simpa using h))
      | exact thumb_len_off _ _ (by first | (left; assumption) | (rename_i h; simpa using h))
      | exact thumb_on0 _ _ _ (by omega) h3 h1.2 (by simp_all) (by omega)
      | exact thumb_on _ _ _ _ _ (by omega) h3 h1.2 (by simp_all) (by omega) (by unfold longF; omega)
      | exact thumb_len_on _ _ _ (by omega) (by simp_all) (by unfold longF; omega)

theorem thumb_on' (u c a X d : Int) (h : u < c) (hu : 0 ≤ u ∧ u ≤ 4096) (hc : c ≤ 1048576) (hne : (u == 0) = false) (hX : X = min (max a 0) (c - u)) (hd : d = longF u c) :
    wrap64 ((wrap64 (X * (u - d))).tdiv (c - u)) = thumbAt u c a := by
  have hne' : u ≠ 0 := by simpa using hne
  have hl := longF_bd u c hu.1 h hne'
  have := thumb_on u c a X d h hu hc hne hX hd
  rwa [show wrap64 (u - d) = u - d from IntWalk.wrap64_in _ ⟨by omega, by omega⟩] at this

theorem brought_view (v : Int) : broughtF (ptF v) 0 4096 = viewF v := by unfold broughtF viewF ptF; omega

set_option maxHeartbeats 1000000 in
theorem ref_Thumb_any (v c a : Int) (w : World) : Calls Try.prog 16 #[.int .i64 v, .int .i64 c, .int .i64 a] w fun e w' => e = .returned (.tuple #[.int .i64 (thumbAt (viewF v) (ptF c) (ptF a)), .int .i64 (thumbLen (viewF v) (ptF c))]) ∧ w = w' := by
  have h1 := ptF_bd c; have h2 := ptF_bd a
  go_enter Try.func16, Try.ntmps16
  go_upto_region 1 with fail
  go_cut [0] (fun s wx => s = .int .i64 (viewF v) ∧ w = wx)
  case first =>
    go_wp2_with (first | (go_at_call 36; refine (ref_point_any _ _).mono ?_; rintro e w' ⟨rfl, rfl⟩) | (go_at_call 35; refine (ref_brought_any _ _ _ _).mono ?_; rintro e w' ⟨rfl, rfl⟩))
    all_goals go_meet
    all_goals exact ⟨by rw [brought_view], rfl⟩
  case rest =>
    obtain ⟨rfl, rfl⟩ := hcut
    have h3 := viewF_bd v
    have h4 := sq_bd _ h3.1 h3.2
    go_wp2_with (first | (go_at_call 36; refine (ref_point_any _ _).mono ?_; rintro e w' ⟨rfl, rfl⟩) | (go_at_call 35; refine (ref_brought_any _ _ _ _).mono ?_; rintro e w' ⟨rfl, rfl⟩))
    all_goals go_ret2
    all_goals refine ⟨ret_int2 ?_ ?_, rfl⟩
    all_goals (try simp only [beq_iff_eq] at *)
    all_goals first
      | exact thumb_off _ _ _ (by omega)
      | exact (by assumption : viewF v = 0).symm.trans (thumb_len_off _ _ (by omega))
      | exact thumb_len_off _ _ (by omega)
      | (have h5 : 0 ≤ viewF v * viewF v / ptF c := Int.ediv_nonneg h4.1 (by omega)
         first
           | exact thumb_on _ _ _ _ _ (by omega) h3 h1.2 (by simp_all) (by unfold broughtF; omega) (by unfold longF; simp at *; omega)
           | exact thumb_on' _ _ _ _ _ (by omega) h3 h1.2 (by simp_all) (by unfold broughtF; omega) (by unfold longF; simp at *; omega)
           | exact thumb_len_on _ _ _ (by omega) (by simp_all) (by unfold longF; simp at *; omega))
end Go.Proofs.Ytegdokchkblpiaa
