/- Trees: contract of the reference's names. -/
import Derived.Test.YtihjefncjkdnpaaTrrC
import Derived.Outline
namespace Go.Proofs.Ytihjefncjkdnpaa
open Go.RowKit Go.Deep
set_option linter.unusedVariables false
set_option linter.unusedSimpArgs false

theorem below_drewN_ {B : Nat} {a w : World} (h : Below B a w) (n : Nat) : Below B a (w.drewN n) := ⟨h.os, h.tape, h.output, h.size, h.block⟩
theorem idIn_yes {T : List Nd} {n i : Nat} {s : ByteArray} (hi : i < n) (hn : n ≤ T.length) (h : (T.getD i zNd).id.toList = s.toList) : idIn (T.take n) s = true := by
  unfold idIn
  rw [List.any_eq_true]
  refine ⟨T.getD i zNd, ?_, ?_⟩
  · rw [List.getD_eq_getElem?_getD, List.getElem?_eq_getElem (by omega)]
    exact List.mem_take_iff_getElem.2 ⟨i, by omega, rfl⟩
  · rw [decide_eq_true_eq]
    rw [ByteArray.toList_eq, ByteArray.toList_eq] at h
    cases hx : (T.getD i zNd).id; cases s
    rw [hx] at h
    simp only [ByteArray.mk.injEq]
    exact Array.ext' h
theorem idIn_no {T : List Nd} {n : Nat} {s : ByteArray} (h : ∀ i, i < n → i < T.length → (T.getD i zNd).id.toList ≠ s.toList) : idIn (T.take n) s = false := by
  unfold idIn
  rw [List.any_eq_false]
  intro y hy
  obtain ⟨i, hi, rfl⟩ := List.mem_take_iff_getElem.1 hy
  rw [decide_eq_true_eq]
  intro e
  refine h i (by omega) (by omega) ?_
  rw [List.getD_eq_getElem?_getD, List.getElem?_eq_getElem (by omega)]
  simp [e]
/-- a bool is answered that says whether Q -/
def RetIff (Q : Prop) (w : World) (e : Ending) (w' : World) : Prop := ∃ r : Bool, e = .returned (.bool r) ∧ (r = true ↔ Q) ∧ Below w.heap.size w w'
theorem ret_iff_mk {Q : Prop} {w w' : World} {r : Bool} (h : r = true ↔ Q) (hb : Below w.heap.size w w') : RetIff Q w (.returned (.bool r)) w' := ⟨r, rfl, h, hb⟩
def nmB (s : ByteArray) : Bool := decide (0 < s.size) && !nameB s
set_option maxRecDepth 100000 in
set_option maxHeartbeats 8000000 in
theorem ref_names_any (p : Option Addr) (c n : Nat) (T : List Nd) (x : Nd) (w : World) (hT : TreeAt w (.slice p T.length c) T) (hlt : n < T.length) (hx : T.getD n zNd = x) : Calls Try.prog 76 #[.agg #[.slice p T.length c], .int .i64 n] w (RetIff (¬ namesBad T n x) w) := by
  have hxo : NdOk x := by rw [← hx, List.getD_eq_getElem?_getD, List.getElem?_eq_getElem hlt]; exact hT.ok _ (List.getElem_mem hlt)
  have HXO := Lib.hid hxo
  have HT := Lib.hid hT
  obtain ⟨w0, hw0⟩ : ∃ w0, w0 = w.alloc (.cells #[.slice p T.length c] 24) := ⟨_, rfl⟩
  have B0 : Below w.heap.size w w0 := by rw [hw0]; exact below_al (Below.refl _ _) _
  have z0 : w.heap.size < w0.heap.size := by rw [hw0]; simp
  have x0 : w0.cell? ⟨w.heap.size, 0, none⟩ = some (.slice p T.length c) := by rw [hw0]; simp [go_sem]
  have HW0 := Lib.hid hw0
  have HT0 := Lib.hid (hT.later B0)
  have hlen := hT.len
  obtain ⟨_, _, p', c', e, _, _, hnd⟩ := hT
  injection e with e1 _ e2
  subst e1 e2
  obtain ⟨b, off, rfl, hb, hnd⟩ := hnd (by omega)
  obtain ⟨kv, cv, hkv, hcv, hc⟩ := (hnd n hlt).later B0 (Nat.le_refl _) hb
  rw [hx] at hkv hcv hc
  have RNG0 := nd_range hc
  have ONE0 := ndV_one hkv hcv
  have c1e : (ndV x kv cv)[1]? = some (.string x.id) := rfl
  have c2e : (ndV x kv cv)[2]? = some (.string x.cls) := rfl
  have len0 := ndV_len x kv cv
  generalize ndV x kv cv = cs at *
  have RNG := Lib.hid RNG0
  have ONE := Lib.hid ONE0
  have LEN := Lib.hid len0
  have C1 := Lib.hid c1e
  have C2 := Lib.hid c2e
  have HX := Lib.hid hx
  have hbw : b < w0.heap.size := by have := B0.size; omega
  have hnT : (n : Int) < (T.length : Int) := by omega
  clear hc hkv hcv RNG0 ONE0 len0 c1e c2e hw0 hx hxo hnd
  go_enter Try.func76, Try.ntmps76
  go_upto_region 1 with (fail)
  rw [← HW0.out]
  go_wp2_with (first | ((with_reducible refine wpList_load_node ?g1 (.tmp 10) ?g2 b (off + n * 34) ?g3 cs LEN.out RNG.out ?_); (case g1 => rfl); (case g2 => rfl); (case g3 => rfl)) | ((with_reducible refine wpList_store_node ?g1 (.tmp 5) (.tmp 11) ?g2 _ _ cs ?g3 ?g4 ?g5 LEN.out ONE.out ?_); (case g1 => rfl); (case g2 => rfl); (case g3 => rfl); (case g4 => rfl); (case g5 => rfl)))
  intro w3 hb3 hz3 hr3
  have n1 : w3.cell? ⟨w0.heap.size, 1, none⟩ = some (.string x.id) := by have := hr3 1 _ C1.out; simpa using this
  have n2 : w3.cell? ⟨w0.heap.size, 2, none⟩ = some (.string x.cls) := by have := hr3 2 _ C2.out; simpa using this
  have x3 : w3.cell? ⟨w.heap.size, 0, none⟩ = some (.slice (some ⟨b, off, none⟩) T.length c) := by rw [(bcell hb3).1 _ _ z0]; exact x0
  have B3 : Below w.heap.size w w3 := below_via hb3 B0
  clear hr3 hb3 x0 HW0
  go_upto_region 2 with (fail)
  obtain ⟨bc, hbc⟩ : ∃ bc, bc = (nmB x.id || nmB x.cls) := ⟨_, rfl⟩
  have HBC := Lib.hid hbc
  clear hbc
  go_cut [31] (fun s wx => s = .bool bc ∧ wx = w3)
  case first =>
    rcases (show x.id.size = 0 ∨ 0 < x.id.size by omega) with h0 | h0
    · have ID := Lib.hid (show nmB x.id = false by unfold nmB; rw [decide_eq_false (by omega)]; rfl)
      have e1 : x.id.toList = [] := by rw [ByteArray.toList_eq]; exact List.eq_nil_of_length_eq_zero (by rw [← Lib.size_eq]; exact h0)
      clear h0
      rcases (show x.cls.size = 0 ∨ 0 < x.cls.size by omega) with g0 | g0
      · have CL := Lib.hid (show nmB x.cls = false by unfold nmB; rw [decide_eq_false (by omega)]; rfl)
        have f1 : x.cls.toList = [] := by rw [ByteArray.toList_eq]; exact List.eq_nil_of_length_eq_zero (by rw [← Lib.size_eq]; exact g0)
        clear g0
        go_wp2
        go_meet
        exact ⟨congrArg Value.bool (by rw [HBC.out, ID.out, CL.out]; rfl), rfl⟩
      · have f2 := ne_nil_of_pos g0
        have f3 : x.cls.toList.isEmpty = false := by rw [List.isEmpty_eq_false_iff]; exact f2
        have CL := Lib.hid (show nmB x.cls = !nameB x.cls by unfold nmB; rw [decide_eq_true g0, Bool.true_and])
        clear g0
        go_wp2_with fail
        refine (ref_Name_any x.cls _ HXO.out.cls).mono ?_
        rintro e w' ⟨rfl, rfl⟩
        go_wp2
        go_meet
        exact ⟨congrArg Value.bool (by rw [HBC.out, ID.out, CL.out]; rfl), rfl⟩
    · have e2 := ne_nil_of_pos h0
      have e3 : x.id.toList.isEmpty = false := by rw [List.isEmpty_eq_false_iff]; exact e2
      cases hnm : nameB x.id
      · have ID := Lib.hid (show nmB x.id = true by unfold nmB; rw [decide_eq_true h0, hnm]; rfl)
        have NM := Lib.hid hnm
        clear hnm h0
        go_wp2_with fail
        refine (ref_Name_any x.id _ HXO.out.id).mono ?_
        rw [NM.out]
        rintro e w' ⟨rfl, rfl⟩
        go_wp2
        go_meet
        exact ⟨congrArg Value.bool (by rw [HBC.out, ID.out]; rfl), rfl⟩
      · have ID := Lib.hid (show nmB x.id = false by unfold nmB; rw [hnm, Bool.not_true, Bool.and_false])
        have NM := Lib.hid hnm
        clear hnm h0
        go_wp2_with fail
        refine (ref_Name_any x.id _ HXO.out.id).mono ?_
        rw [NM.out]
        rintro e w' ⟨rfl, rfl⟩
        rcases (show x.cls.size = 0 ∨ 0 < x.cls.size by omega) with g0 | g0
        · have CL := Lib.hid (show nmB x.cls = false by unfold nmB; rw [decide_eq_false (by omega)]; rfl)
          have f1 : x.cls.toList = [] := by rw [ByteArray.toList_eq]; exact List.eq_nil_of_length_eq_zero (by rw [← Lib.size_eq]; exact g0)
          clear g0
          go_wp2
          go_meet
          exact ⟨congrArg Value.bool (by rw [HBC.out, ID.out, CL.out]; rfl), rfl⟩
        · have f2 := ne_nil_of_pos g0
          have f3 : x.cls.toList.isEmpty = false := by rw [List.isEmpty_eq_false_iff]; exact f2
          have CL := Lib.hid (show nmB x.cls = !nameB x.cls by unfold nmB; rw [decide_eq_true g0, Bool.true_and])
          clear g0
          go_wp2_with fail
          refine (ref_Name_any x.cls _ HXO.out.cls).mono ?_
          rintro e w' ⟨rfl, rfl⟩
          go_wp2
          go_meet
          exact ⟨congrArg Value.bool (by rw [HBC.out, ID.out, CL.out]; rfl), rfl⟩
  case rest =>
    obtain ⟨rfl, hwc⟩ := hcut
    rw [hwc]
    clear hwc
    cases bc
    · have hno : nmB x.id = false ∧ nmB x.cls = false := by
        have := HBC.out.symm
        rwa [Bool.or_eq_false_iff] at this
      have HNO := Lib.hid hno
      clear hno HBC n2
      go_wp2
      go_loopw [6] (fun i wr => ∃ k : Nat, k ≤ n ∧ i = .int .i64 k ∧ RowKit.Hid (∀ j, j < k → 0 < x.id.size → (T.getD j zNd).id.toList ≠ x.id.toList) ∧ Below w3.heap.size w3 wr) (fun i _ => n - (intOf i).toNat)
      case atStart => exact ⟨0, Nat.zero_le _, rfl, Lib.hid (fun j hj => absurd hj (Nat.not_lt_zero _)), Below.refl _ _⟩
      case round =>
        obtain ⟨k, hk, rfl, HA, BW⟩ := hrel
        have SW := BW.size
        have hz0w : w.heap.size < w3.heap.size := by omega
        have xw : wr.cell? ⟨w.heap.size, 0, none⟩ = some (.slice (some ⟨b, off, none⟩) T.length c) := by rw [(bcell BW).1 _ _ hz0w]; exact x3
        have m1 : wr.cell? ⟨w0.heap.size, 1, none⟩ = some (.string x.id) := by rw [(bcell BW).1 _ _ hz3]; exact n1
        by_cases hkn : k < n
        · obtain ⟨_, _, p', c', e, _, _, hnd⟩ := HT.out
          injection e with e1 _ e2
          subst e1 e2
          obtain ⟨b', off', e, hb', hnd⟩ := hnd (by omega)
          injection e with e
          injection e with e1 e2
          subst e1 e2
          have BWw : Below w.heap.size w wr := below_via BW B3
          obtain ⟨_, _, _, _, hcy⟩ := (hnd k (by omega)).later BWw (Nat.le_refl _) hb
          generalize hy : T.getD k zNd = y at hcy
          have y1 : wr.cell? ⟨b, off + k * 34 + 1, none⟩ = some (.string y.id) := hcy 1 (by omega)
          have HY := Lib.hid hy
          have hbww : b < wr.heap.size := by omega
          have hkT : (k : Int) < (T.length : Int) := by omega
          have hkn' : (k : Int) < (n : Int) := by omega
          clear hcy hy hnd BWw
          rcases (show x.id.size = 0 ∨ 0 < x.id.size by omega) with h0 | h0
          · have HA' := Lib.hid (show ∀ j, j < k + 1 → 0 < x.id.size → (T.getD j zNd).id.toList ≠ x.id.toList from fun j hj h => by omega)
            have e1 : x.id.toList = [] := by rw [ByteArray.toList_eq]; exact List.eq_nil_of_length_eq_zero (by rw [← Lib.size_eq]; exact h0)
            clear h0 HA
            go_upto_region 7 with (fail)
            go_quiet (fail)
            all_goals go_wp2
            go_roundw
            case rel => exact ⟨k + 1, by omega, by go_num, HA', below_drewN_ BW _⟩
            case measure => simp [intOf]; omega
          · have e2 := ne_nil_of_pos h0
            have e3 : x.id.toList.isEmpty = false := by rw [List.isEmpty_eq_false_iff]; exact e2
            by_cases heq : y.id.toList = x.id.toList
            · have HB := Lib.hid (show namesBad T n x from .inl ⟨h0, .inl (idIn_yes hkn (by omega) (by rw [HY.out]; exact heq))⟩)
              have d : (y.id.toList == x.id.toList) = true := by rw [beq_iff_eq]; exact heq
              clear heq h0
              go_upto_region 7 with (fail)
              go_quiet (fail)
              all_goals go_wp2
              go_ret
              exact ret_iff_mk (iff_of_false (by simp) (fun h => h HB.out)) (below_drewN_ (below_via BW B3) _)
            · have HA' := Lib.hid (show ∀ j, j < k + 1 → 0 < x.id.size → (T.getD j zNd).id.toList ≠ x.id.toList from fun j hj h => by
                by_cases e : j = k
                · subst e; rw [HY.out]; exact heq
                · exact HA.out j (by omega) h)
              have d : (y.id.toList == x.id.toList) = false := by rw [beq_eq_false_iff_ne]; exact heq
              clear heq h0 HA
              go_upto_region 7 with (fail)
              go_quiet (fail)
              all_goals go_wp2
              go_roundw
              case rel => exact ⟨k + 1, by omega, by go_num, HA', below_drewN_ BW _⟩
              case measure => simp [intOf]; omega
        · obtain rfl : k = n := by omega
          have HB := Lib.hid (show ¬ namesBad T k x by
            rintro (⟨h0, h | h⟩ | ⟨h0, h⟩)
            · rw [idIn_no (fun i hi hiT => HA.out i hi h0)] at h; cases h
            · have := HNO.out.1
              unfold nmB at this
              rw [decide_eq_true h0, h] at this; cases this
            · have := HNO.out.2
              unfold nmB at this
              rw [decide_eq_true h0, h] at this; cases this)
          have BF : Below w.heap.size w wr := below_via BW B3
          clear HA hk hkn
          go_wp2
          go_ret
          exact ret_iff_mk (iff_of_true rfl HB.out) BF
    · have HB := Lib.hid (show namesBad T n x by
        have := HBC.out.symm
        rw [Bool.or_eq_true] at this
        unfold nmB at this
        rw [Bool.and_eq_true, Bool.and_eq_true, decide_eq_true_eq, decide_eq_true_eq, Bool.not_eq_true', Bool.not_eq_true'] at this
        rcases this with ⟨h, h'⟩ | ⟨h, h'⟩
        · exact .inl ⟨h, .inr h'⟩
        · exact .inr ⟨h, h'⟩)
      go_wp2
      go_ret
      exact ret_iff_mk (iff_of_false (by simp) (fun h => h HB.out)) B3
end Go.Proofs.Ytihjefncjkdnpaa
