/- TreeOnly: the walk. -/
import Derived.Test.YtcihihncgpddfaaWkA
namespace Go.Proofs.Ytcihihncgpddfaa
open Go.RowKit Go.Deep
set_option linter.unusedVariables false
set_option linter.unusedSimpArgs false

theorem ndR_ok {B : List Int} (hB : Byte8 B) (hl : B.length ≤ 1048576) (s : Rs) : NdOk (ndR B s).1 := partsR_ok hB hl s 13
theorem dec_fit {B : List Int} (hB : Byte8 B) : ∀ x ∈ (decT B).1, NdOk x := by
  by_cases h : 1048576 < B.length
  · rw [decT_long h]; intro x hx; cases hx
  · have hl : B.length ≤ 1048576 := by omega
    by_cases hc : (endS B (ndsS B).2).code = 0
    · by_cases hk : (checkT (ndsS B).1).1 = 0
      · rw [decT_ok hl hc hk]
        exact manyR_all (fun s => ndR_ok hB hl s) _ _
      · rw [decT_check hl hc hk]; intro x hx; cases hx
    · rw [decT_code hl hc]; intro x hx; cases hx
theorem conv_bytes {w : World} {v : Value} {B : List Int} (h : BytesAt w v B) : (convert 36 9 v).run Try.prog w = .ok (.string (strOfNums B)) w := by
  obtain ⟨p, c, rfl, _, _, h4⟩ := h
  rcases Nat.eq_zero_or_pos B.length with h0 | h0
  · have hB : B = [] := List.eq_nil_of_length_eq_zero h0
    subst hB
    cases p with
    | none => exact run_convert_bytes_nil w 36 5 Try.underlying36 Try.underlying5 0 c 9 Try.underlying9
    | some a =>
      show (convert 36 9 (.slice (some a) 0 c)).run Try.prog w = _
      rw [run_convert_bytes_string w 36 9 5 _ 0 c Try.underlying36 Try.underlying5 Try.underlying9, run_bytesToString w a 0 c [] (by rfl)]
      rfl
  · obtain ⟨b, off, rfl, hb, hc⟩ := h4 h0
    exact run_convert_bytes_arg w 36 5 Try.underlying36 Try.underlying5 b off B.length c B rfl hc 9 Try.underlying9
set_option maxRecDepth 100000 in
set_option maxHeartbeats 8000000 in
theorem TreeOnly_walk (sv : Value) (B : List Int) (w : World) (hB : BytesAt w sv B) (hby : Byte8 B) : Calls Try.prog 9 #[sv] w fun e w' => e = .returned (.bool true) ∧ Below w.heap.size w w' := by
  have HC := Lib.hid (tree_Decode_any sv B w hB hby)
  have HF := Lib.hid (dec_fit hby)
  have HO := Lib.hid (fun h => dec_only (B := B) hby h)
  have HW := Lib.hid (fun h => dec_wrong (B := B) h)
  have HB := Lib.hid hB
  obtain ⟨p, c, rfl, -⟩ := hB
  clear hby
  obtain ⟨D, hD⟩ : ∃ d, d = decT B := ⟨_, rfl⟩
  go_enter Try.func9, Try.ntmps9
  go_wp2_with fail
  refine HC.out.mono ?_
  clear HC
  rintro e w1 ⟨tv, kvs, cvs, rfl, own, hb⟩
  rw [← hD] at HF HO HW own ⊢
  clear hD
  obtain ⟨T, c1, a1⟩ := D
  have HB1 := Lib.hid hb
  simp only at HF HO HW own ⊢
  obtain ⟨pt, ct, rfl, hT⟩ := own.tree HF.out
  have HT := Lib.hid hT
  clear hb own hT
  by_cases hc : c1 = 0
  · subst hc
    obtain ⟨h1, h2, rfl⟩ := HO.out rfl
    obtain ⟨w2, hw2⟩ : ∃ x, x = w1.alloc (.cells #[.slice pt T.length ct] 24) := ⟨_, rfl⟩
    have B2 : Below w1.heap.size w1 w2 := by rw [hw2]; exact below_al (Below.refl _ _) _
    have k2 : w2.heap[w1.heap.size]? = some (.cells #[.slice pt T.length ct] 24 (0, 0)) := by rw [hw2]; exact heap_alloc_new _ _
    have HT2 := Lib.hid (HT.out.later B2)
    have HC := Lib.hid (tree_Check_any pt ct T w2 HT2.out)
    rw [h1] at HC
    have HE := Lib.hid h2
    have c2 := cell_of_one k2
    have z2 := lt_of_block k2
    have K2 := Lib.hid k2
    have HB2 := Lib.hid (below_via B2 HB1.out)
    clear B2 k2 h1 h2 HO HW
    go_upto_region 4 with (fail)
    rw [← hw2]
    clear hw2
    go_wp2_with fail
    refine HC.out.mono ?_
    rintro e w3 ⟨rfl, hb⟩
    have K3 := Lib.hid ((hb.block _ (lt_of_block K2.out)).trans K2.out)
    have HT3 := Lib.hid (HT2.out.later hb)
    have HB3 := Lib.hid (below_via hb HB2.out)
    have c3 := cell_of_one K3.out
    have z3 := lt_of_block K3.out
    have HN := Lib.hid (tree_Encode_any pt ct T w3 HT3.out)
    clear hb c2 z2 HC HT2 K2 HB2
    simp only
    go_wp2_with fail
    refine HN.out.mono ?_
    rintro e w4 ⟨v4, rfl, own, hb⟩
    rw [HE.out] at own ⊢
    simp only at own ⊢
    have HB4 := Lib.hid (below_via hb HB3.out)
    have hq1 := conv_bytes (row_bytes own)
    have hq2 := conv_bytes (HB.out.later HB4.out (Nat.le_refl _))
    obtain ⟨p4, k4, rfl⟩ := row_sl own
    clear hb own HN c3 z3 K3 HT3
    go_wp2_with fail
    refine (wakes_any _).mono ?_
    rintro e w5 ⟨rfl, hb⟩
    have HB5 := Lib.hid (below_via hb HB4.out)
    clear hb hq1 hq2
    go_wp2
    go_ret
    exact ⟨rfl, HB5.out⟩
  · have hT0 : T = [] := HW.out hc
    subst hT0
    have hcb : (c1 == 0) = false := beq_eq_false_iff_ne.2 hc
    clear hc HO HW
    go_wp2_with fail
    refine (wakes_any _).mono ?_
    rintro e w5 ⟨rfl, hb⟩
    have HB5 := Lib.hid (below_via hb (below_al HB1.out _))
    clear hb
    go_wp2
    go_ret
    exact ⟨rfl, HB5.out⟩
end Go.Proofs.Ytcihihncgpddfaa
