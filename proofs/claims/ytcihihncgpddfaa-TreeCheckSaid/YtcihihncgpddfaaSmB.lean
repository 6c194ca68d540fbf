/- Layer 10: the laws' beyond: have a tree's nodes too many bytes and items? -/
import Derived.Test.YtcihihncgpddfaaLntA
import Derived.Outline
import Derived.Test.YtcihihncgpddfaaTreV
namespace Go.Proofs.Ytcihihncgpddfaa
open Go.RowKit Go.Deep
set_option linter.unusedVariables false
set_option linter.unusedSimpArgs false

def wgt (x : Nd) : Nat := 1 + x.id.size + x.cls.size + x.text.size + x.kids.length + x.cols.length
def sumW (T : List Nd) : Nat := (T.map wgt).sum
theorem sumW_snoc {T : List Nd} {k : Nat} (h : k < T.length) : sumW (T.take (k + 1)) = sumW (T.take k) + wgt (T.getD k zNd) := by
  unfold sumW
  rw [List.take_succ_eq_append_getElem h, List.map_append, List.sum_append, List.getD_eq_getElem?_getD, List.getElem?_eq_getElem h]
  simp
theorem sumW_le (T : List Nd) (k : Nat) : sumW (T.take k) ≤ sumW T := by
  have e : sumW T = sumW (T.take k) + sumW (T.drop k) := by
    unfold sumW
    rw [← List.sum_append, ← List.map_append, List.take_append_drop]
  omega
theorem sumW_mem {T : List Nd} : ∀ {x : Nd}, x ∈ T → wgt x ≤ sumW T := by
  induction T with
  | nil => intro x h; cases h
  | cons a T ih =>
    intro x h
    have e : sumW (a :: T) = wgt a + sumW T := by simp [sumW]
    rcases List.mem_cons.1 h with rfl | h
    · omega
    · have := ih h; omega
theorem sumW_len (T : List Nd) : T.length ≤ sumW T := by
  induction T with
  | nil => exact Nat.zero_le _
  | cons a T ih =>
    have e : sumW (a :: T) = wgt a + sumW T := by simp [sumW]
    have : 1 ≤ wgt a := by unfold wgt; omega
    simp only [List.length_cons]; omega
set_option maxRecDepth 100000 in
set_option maxHeartbeats 8000000 in
theorem beyond_any (p : Option Addr) (c : Nat) (T : List Nd) (w : World) (hT : TreeAt w (.slice p T.length c) T) (hD : ∀ x ∈ T, NdDeep x) : Calls Try.prog 13 #[.agg #[.slice p T.length c]] w fun e w' => e = .returned (.bool (decide (134217728 < sumW T))) ∧ Below w.heap.size w w' := by
  have hlen := hT.len
  obtain ⟨_, _, p1, c1, e, _, _, hn⟩ := hT
  injection e with e1 _ e3
  subst e1 e3
  obtain ⟨W1, hW1⟩ : ∃ x, x = w.alloc (.cells #[.slice p T.length c] 24) := ⟨_, rfl⟩
  have B1 : Below w.heap.size w W1 := by rw [hW1]; exact below_al (Below.refl _ _) _
  have t0 : W1.cell? ⟨w.heap.size, 0, none⟩ = some (.slice p T.length c) := by rw [hW1]; simp [go_sem]
  have z0 : w.heap.size < W1.heap.size := by rw [hW1]; simp
  have HN := Lib.hid hn
  have HB1 := Lib.hid B1
  have HT0 := Lib.hid t0
  have HD := Lib.hid hD
  obtain ⟨r, hr⟩ : ∃ r, r = decide (134217728 < sumW T) := ⟨_, rfl⟩
  rw [← hr]
  have HR := Lib.hid hr
  clear hn B1 hD hr
  go_enter Try.func13, Try.ntmps13
  go_upto_region 1 with (fail)
  rw [← hW1]
  clear hW1
  go_wp2
  go_loopw [3, 4] (fun nv iv wr => ∃ j m : Nat, j ≤ T.length ∧ iv = .int .i64 j ∧ nv = .int .i64 m ∧ RowKit.Hid (m = sumW (T.take j)) ∧ m ≤ 134217728 ∧ RowKit.Hid (Below W1.heap.size W1 wr)) (fun _ iv _ => T.length - (intOf iv).toNat)
  case atStart => exact ⟨0, 0, Nat.zero_le _, rfl, rfl, Lib.hid rfl, by omega, Lib.hid (Below.refl _ _)⟩
  case round =>
    clear t0
    obtain ⟨j, m, hj, rfl, rfl, HS, hm, BW⟩ := hrel
    have SW := BW.out.size
    have t0 : wr.cell? ⟨w.heap.size, 0, none⟩ = some (.slice p T.length c) := by rw [(bcell BW.out).1 _ _ z0]; exact HT0.out
    have y0 : w.heap.size < wr.heap.size := by omega
    by_cases hlt : j < T.length
    · have hji : (j : Int) < (T.length : Int) := by omega
      obtain ⟨b, off, rfl, hb, hn⟩ := HN.out (by omega)
      have BWW := Lib.hid (below_via BW.out HB1.out)
      have hbw : b < wr.heap.size := by have := BWW.out.size; omega
      obtain ⟨kv, cv, hk, hq, hc⟩ := (hn j hlt).later BWW.out (Nat.le_refl _) hb
      have hdx : NdDeep (T.getD j zNd) := HD.out _ (by rw [List.getD_eq_getElem?_getD, List.getElem?_eq_getElem hlt]; exact List.getElem_mem hlt)
      have hsn := sumW_snoc hlt
      clear hn
      generalize T.getD j zNd = x at hk hq hc hdx hsn
      have RNG0 := nd_range hc
      have ONE0 := ndV_one hk hq
      have LEN0 := ndV_len x kv cv
      obtain ⟨pk, ck, rfl, -⟩ := hk
      obtain ⟨pc, cc, rfl, -⟩ := hq
      obtain ⟨cs, hcs⟩ : ∃ cs, cs = ndV x (.slice pk x.kids.length ck) (.slice pc x.cols.length cc) := ⟨_, rfl⟩
      rw [← hcs] at RNG0 ONE0 LEN0
      have RNG := Lib.hid RNG0
      have ONE := Lib.hid ONE0
      have LEN := Lib.hid LEN0
      have HCS := Lib.hid hcs
      have d1 := hdx.kids
      have d2 := hdx.cols
      have d3 := hdx.id
      have d4 := hdx.cls
      have d5 := hdx.text
      have HSN := Lib.hid hsn
      clear hc RNG0 ONE0 LEN0 hcs hdx hsn
      go_wp2_with (first | ((with_reducible refine wpList_load_node ?g1 (.tmp 16) ?g2 b (off + j * 34) ?g3 cs LEN.out RNG.out ?_); (case g1 => rfl); (case g2 => rfl); (case g3 => rfl)) | ((with_reducible refine wpList_store_node ?g1 (.tmp 5) (.tmp 17) ?g2 _ _ cs ?g3 ?g4 ?g5 LEN.out ONE.out ?_); (case g1 => rfl); (case g2 => rfl); (case g3 => rfl); (case g4 => rfl); (case g5 => rfl)))
      intro w3 hb3 hz3 hr3
      have a1 : w3.cell? ⟨wr.heap.size, 1, none⟩ = some (.string x.id) := by have := hr3 1 (.string x.id) (by rw [HCS.out]; rfl); rwa [Nat.zero_add] at this
      have a2 : w3.cell? ⟨wr.heap.size, 2, none⟩ = some (.string x.cls) := by have := hr3 2 (.string x.cls) (by rw [HCS.out]; rfl); rwa [Nat.zero_add] at this
      have a22 : w3.cell? ⟨wr.heap.size, 22, none⟩ = some (.string x.text) := by have := hr3 22 (.string x.text) (by rw [HCS.out]; rfl); rwa [Nat.zero_add] at this
      have a3 : w3.cell? ⟨wr.heap.size, 3, none⟩ = some (.slice pk x.kids.length ck) := by have := hr3 3 (.slice pk x.kids.length ck) (by rw [HCS.out]; rfl); rwa [Nat.zero_add] at this
      have a28 : w3.cell? ⟨wr.heap.size, 28, none⟩ = some (.slice pc x.cols.length cc) := by have := hr3 28 (.slice pc x.cols.length cc) (by rw [HCS.out]; rfl); rwa [Nat.zero_add] at this
      have BF := Lib.hid (below_via hb3 BW.out)
      clear hr3 hb3
      by_cases hbig : 134217728 < m + wgt x
      · have HBIG := Lib.hid hbig
        have hgt : (134217728 : Int) < (m : Int) + 1 + (x.id.size : Int) + (x.cls.size : Int) + (x.text.size : Int) + (x.kids.length : Int) + (x.cols.length : Int) := by unfold wgt at hbig; omega
        have HRT := Lib.hid (show r = true by
          rw [HR.out, decide_eq_true_eq]
          have h1 := sumW_le T (j + 1)
          rw [HSN.out, ← HS.out] at h1
          have := HBIG.out
          omega)
        clear hbig
        go_wp2
        go_ret
        exact ⟨ret_bool HRT.out.symm, below_via BF.out HB1.out⟩
      · have hle : m + wgt x ≤ 134217728 := by omega
        have hgt : ¬ (134217728 : Int) < (m : Int) + 1 + (x.id.size : Int) + (x.cls.size : Int) + (x.text.size : Int) + (x.kids.length : Int) + (x.cols.length : Int) := by unfold wgt at hbig; omega
        have hgt2 : ((m : Int) + 1 + (x.id.size : Int) + (x.cls.size : Int) + (x.text.size : Int) + (x.kids.length : Int) + (x.cols.length : Int)) = ((m + wgt x : Nat) : Int) := by unfold wgt; omega
        have HLE := Lib.hid hle
        have HG2 := Lib.hid hgt2
        have HS2 := Lib.hid (show m + wgt x = sumW (T.take (j + 1)) by rw [HSN.out, ← HS.out])
        clear hbig hle hgt2
        go_wp2
        go_roundw
        case rel => exact ⟨j + 1, m + wgt x, by omega, by go_num, by rw [HG2.out], HS2, HLE.out, BF⟩
        case measure => simp [intOf]; omega
    · obtain rfl : j = T.length := by omega
      have BF := Lib.hid (below_via BW.out HB1.out)
      have HRT := Lib.hid (show r = false by
        rw [HR.out, decide_eq_false_iff_not]
        have := HS.out
        rw [List.take_length] at this
        omega)
      clear SW
      go_wp2
      go_ret
      exact ⟨ret_bool HRT.out.symm, BF.out⟩
end Go.Proofs.Ytcihihncgpddfaa
