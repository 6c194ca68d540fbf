/- TreeCheck: the walk; words that the laws share. -/
import Derived.Test.YtcihihncgpddfaaLtZ
import Derived.Test.YtcihihncgpddfaaSmZ
import Derived.Test.YtcihihncgpddfaaWkA
import Derived.Test.YtcihihncgpddfaaTrrF
namespace Go.Proofs.Ytcihihncgpddfaa
open Go.RowKit Go.Deep
set_option linter.unusedVariables false
set_option linter.unusedSimpArgs false

/-- the forms of a lent tree's four values -/
theorem LentAt.forms {w : World} {B : Nat} {tv full vk vc : Value} {T : List Nd} (h : LentAt w B tv full vk vc T) : ∃ g cg qk dk qc dc, tv = .slice (some ⟨g, 0, none⟩) T.length cg ∧ full = .slice (some ⟨g, 0, none⟩) (T.length + 2) cg ∧ vk = .slice qk T.length dk ∧ vc = .slice qc T.length dc := by
  obtain ⟨rfl, kf, cf, L⟩ := h
  rcases row_form L.row with ⟨_, h0, _⟩ | ⟨g, cg, rfl, _⟩
  · omega
  · obtain ⟨qk, dk, rfl⟩ : ∃ q c, vk = .slice q T.length c := by
      rcases row_form L.kl with ⟨h1, h2, _⟩ | ⟨g, c, h1, _⟩
      · exact ⟨none, 0, by rw [h2]; exact h1⟩
      · exact ⟨_, _, h1⟩
    obtain ⟨qc, dc, rfl⟩ : ∃ q c, vc = .slice q T.length c := by
      rcases row_form L.cl with ⟨h1, h2, _⟩ | ⟨g, c, h1, _⟩
      · exact ⟨none, 0, by rw [h2]; exact h1⟩
      · exact ⟨_, _, h1⟩
    exact ⟨g, cg, qk, dk, qc, dc, rfl, rfl, rfl, rfl⟩
theorem not_beyond {T : List Nd} (h : ¬ 134217728 < sumW T) : T.length ≤ 134217728 ∧ ∀ x ∈ T, x.kids.length ≤ 134217728 ∧ x.cols.length ≤ 134217728 := by
  have h1 := sumW_len T
  refine ⟨by omega, fun x hx => ?_⟩
  have := sumW_mem hx
  unfold wgt at this
  omega
theorem LentAt.at_ {w : World} {B g cg : Nat} {full vk vc : Value} {T : List Nd} (h : LentAt w B (.slice (some ⟨g, 0, none⟩) T.length cg) full vk vc T) (ok : ∀ x ∈ T, NdOk x) : TreeAt w (.slice (some ⟨g, 0, none⟩) T.length cg) T := by
  obtain ⟨p, c, _, h⟩ := h.tree ok
  exact h
set_option maxRecDepth 100000 in
set_option maxHeartbeats 8000000 in
theorem TreeCheck_walk (pt : Option Addr) (ct : Nat) (T : List Nd) (w : World) (hT : TreeAt w (.slice pt T.length ct) T) (hD : ∀ x ∈ T, NdDeep x) : Calls Try.prog 3 #[.agg #[.slice pt T.length ct]] w fun e w' => e = .returned (.bool true) ∧ Below w.heap.size w w' := by
  have HOK := Lib.hid hT.ok
  obtain ⟨w1, hw1⟩ : ∃ x, x = w.alloc (.cells #[.slice pt T.length ct] 24) := ⟨_, rfl⟩
  have B1 : Below w.heap.size w w1 := by rw [hw1]; exact below_al (Below.refl _ _) _
  have c1 : w1.cell? ⟨w.heap.size, 0, none⟩ = some (.slice pt T.length ct) := by rw [hw1]; simp [go_sem]
  have z1 : w.heap.size < w1.heap.size := by rw [hw1]; simp <;> omega
  have HT1 := Lib.hid (hT.later B1)
  have HB1 := Lib.hid B1
  obtain ⟨tb, htb⟩ : ∃ x, x = w.heap.size := ⟨_, rfl⟩
  have HC1 := Lib.hid c1
  have HCC := Lib.hid (fun w' (h : Below w1.heap.size w1 w') => show w'.cell? ⟨tb, 0, none⟩ = some (.slice pt T.length ct) by rw [htb, (bcell h).1 _ _ z1]; exact HC1.out)
  have HZZ := Lib.hid (fun w' (h : Below w1.heap.size w1 w') => show tb < w'.heap.size by have := h.size; omega)
  have HNB := Lib.hid (beyond_any pt ct T w1 HT1.out hD)
  rw [← htb] at c1 z1
  clear B1 hT hD
  go_enter Try.func3, Try.ntmps3
  go_upto_region 1 with (fail)
  rw [← hw1, ← htb]
  clear hw1 htb
  go_wp2_with fail
  refine HNB.out.mono ?_
  clear HNB
  rintro e w2 ⟨rfl, hb2⟩
  have c2 := HCC.out w2 hb2
  have z2 := HZZ.out w2 hb2
  have HB2 := Lib.hid hb2
  clear c1 z1 hb2
  by_cases hbig : 134217728 < sumW T
  · rw [decide_eq_true hbig]
    go_wp2
    go_ret
    exact ⟨rfl, below_via HB2.out HB1.out⟩
  · rw [decide_eq_false hbig]
    have HNK := Lib.hid (not_beyond hbig)
    clear hbig
    go_wp2_with fail
    refine (lent_any pt ct T w2 (HT1.out.later HB2.out) HNK.out.1 HNK.out.2).mono ?_
    rintro e wl ⟨tv, full, vk, vc, rfl, LA, hbl⟩
    obtain ⟨g, cg, qk, dk, qc, dc, rfl, rfl, rfl, rfl⟩ := LA.forms
    obtain ⟨w4, hw4⟩ : ∃ x, x = wl.alloc (.cells #[.slice (some ⟨g, 0, none⟩) T.length cg, .slice (some ⟨g, 0, none⟩) (T.length + 2) cg, .slice qk T.length dk, .slice qc T.length dc] 29) := ⟨_, rfl⟩
    have Bl4 : Below wl.heap.size wl w4 := by rw [hw4]; exact below_al (Below.refl _ _) _
    have HB4 := Lib.hid (below_via Bl4 (below_via hbl HB2.out))
    have HL4 := Lib.hid (LA.later Bl4)
    obtain ⟨xb, hxb⟩ : ∃ x, x = wl.heap.size := ⟨_, rfl⟩
    have HXK := Lib.hid (show w4.heap[xb]? = some (.cells #[.slice (some ⟨g, 0, none⟩) T.length cg, .slice (some ⟨g, 0, none⟩) (T.length + 2) cg, .slice qk T.length dk, .slice qc T.length dc] 29 (0, 0)) by rw [hw4, hxb]; exact heap_alloc_new _ _)
    have HXC := Lib.hid (fun w' (h : Below w4.heap.size w4 w') => show w'.cell? ⟨xb, 0, none⟩ = some (.slice (some ⟨g, 0, none⟩) T.length cg) ∧ w'.cell? ⟨xb, 1, none⟩ = some (.slice (some ⟨g, 0, none⟩) (T.length + 2) cg) ∧ w'.cell? ⟨xb, 2, none⟩ = some (.slice qk T.length dk) ∧ w'.cell? ⟨xb, 3, none⟩ = some (.slice qc T.length dc) ∧ xb < w'.heap.size from by
      have hx := (h.block _ (lt_of_block HXK.out)).trans HXK.out
      exact ⟨blk_cell (cs := [.slice (some ⟨g, 0, none⟩) T.length cg, .slice (some ⟨g, 0, none⟩) (T.length + 2) cg, .slice qk T.length dk, .slice qc T.length dc]) hx rfl, blk_cell (cs := [.slice (some ⟨g, 0, none⟩) T.length cg, .slice (some ⟨g, 0, none⟩) (T.length + 2) cg, .slice qk T.length dk, .slice qc T.length dc]) hx rfl, blk_cell (cs := [.slice (some ⟨g, 0, none⟩) T.length cg, .slice (some ⟨g, 0, none⟩) (T.length + 2) cg, .slice qk T.length dk, .slice qc T.length dc]) hx rfl, blk_cell (cs := [.slice (some ⟨g, 0, none⟩) T.length cg, .slice (some ⟨g, 0, none⟩) (T.length + 2) cg, .slice qk T.length dk, .slice qc T.length dc]) hx rfl, lt_of_block hx⟩)
    obtain ⟨x4, -, -, -, y4⟩ := HXC.out w4 (Below.refl _ _)
    clear c2 z2 Bl4 hbl LA
    go_upto_region 4 with (fail)
    rw [← hw4, ← hxb]
    clear hw4 hxb
    have HM4 := Lib.hid (Below.refl w4.heap.size w4)
    obtain ⟨e1, n1, hc⟩ : ∃ a b, checkT T = (a, b) := ⟨_, _, rfl⟩
    have HC := Lib.hid hc
    clear hc
    go_wp2_with fail
    refine (tree_Check_any _ _ T w4 (HL4.out.at_ HOK.out)).mono ?_
    rw [HC.out]
    rintro e w5 ⟨rfl, hb5⟩
    have HB5 := Lib.hid (below_via hb5 HB4.out)
    have HM5 := Lib.hid (below_via hb5 HM4.out)
    have c5 := HCC.out w5 HB5.out
    have z5 := HZZ.out w5 HB5.out
    clear hb5 x4 y4
    simp only
    go_wp2_with fail
    refine (ref_Check_any pt ct T w5 (HT1.out.later HB5.out)).mono ?_
    rw [HC.out]
    rintro e w6 ⟨rfl, hb6⟩
    have HB6 := Lib.hid (below_via hb6 HB5.out)
    have HM6 := Lib.hid (below_via hb6 HM5.out)
    have c6 := HCC.out w6 HB6.out
    have z6 := HZZ.out w6 HB6.out
    obtain ⟨x60, x61, x62, x63, y6⟩ := HXC.out w6 HM6.out
    clear hb6 c5 z5
    have b1 : (e1 == e1) = true := by rw [beq_iff_eq]
    have b2 : (n1 == n1) = true := by rw [beq_iff_eq]
    simp only
    go_wp2_with fail
    refine (stays_any _ _ _ _ pt ct T _ w6 (HL4.out.later HM6.out) (HT1.out.later HB6.out)).mono ?_
    rintro e ws ⟨rfl, hbs⟩
    have HBs := Lib.hid (below_via hbs HB6.out)
    clear hbs
    go_wp2_with fail
    refine (wakes_any _).mono ?_
    rintro e wf ⟨rfl, hbf⟩
    have BF := Lib.hid (below_via (below_via hbf HBs.out) HB1.out)
    clear hbf
    go_wp2
    go_ret
    exact ⟨rfl, BF.out⟩
end Go.Proofs.Ytcihihncgpddfaa
