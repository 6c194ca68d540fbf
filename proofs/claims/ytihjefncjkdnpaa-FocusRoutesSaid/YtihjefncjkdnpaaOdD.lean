/- Trees: contracts of the reference's Walk, Order, Find. -/
import Derived.Test.YtihjefncjkdnpaaOdC
import Derived.LoopN
namespace Go.Proofs.Ytihjefncjkdnpaa
open Go.RowKit Go.Deep
set_option linter.unusedVariables false
set_option linter.unusedSimpArgs false

set_option maxRecDepth 100000 in
set_option maxHeartbeats 8000000 in
theorem ref_Walk_any (p : Option Addr) (c : Nat) (T : List Nd) (sv : Value) (stop : List Int) (w : World) (hT : TreeAt w (.slice p T.length c) T) (hS : IntsAt w sv stop) : Calls Try.prog 65 #[.agg #[.slice p T.length c], sv] w fun e w' => ∃ v, e = .returned v ∧ w'.ownsRow w.heap.size 121 2 v (visL T stop).length (cellsO (visL T stop)) ∧ Below w.heap.size w w' := by
  have HT := Lib.hid hT
  have hlen := hT.len
  have HS := Lib.hid hS
  obtain ⟨cd, hcd⟩ : ∃ z, z = (checkT T).1 := ⟨_, rfl⟩
  have HCD := Lib.hid hcd
  have HP := Lib.hid (fun (L : List (Int × Int)) (hL : visL T stop = L) v w' (h1 : w'.ownsRow w.heap.size 121 2 v L.length (cellsO L)) (h2 : Below w.heap.size w w') => show ∃ v', Ending.returned v = .returned v' ∧ w'.ownsRow w.heap.size 121 2 v' (visL T stop).length (cellsO (visL T stop)) ∧ Below w.heap.size w w' from ⟨v, rfl, by rw [hL]; exact h1, h2⟩)
  clear hT hcd hS
  go_enter Try.func65, Try.ntmps65
  go_wp2_with fail
  refine (ref_Check_any p c T _ (HT.out.later (by go_grown))).mono ?_
  rw [← HCD.out]
  generalize (checkT T).2 = c2 at *
  rintro e w1 ⟨rfl, hb1⟩
  have B1 : Below w.heap.size w w1 := below_via hb1 (by go_grown)
  have x0 : w1.cell? ⟨w.heap.size, 0, none⟩ = some (.slice p T.length c) := by rw [(bcell hb1).1 _ _ (by simp)]; simp [go_sem]
  have z0 : w.heap.size < w1.heap.size := by have := hb1.size; simp at this; omega
  clear hb1
  by_cases h0 : cd = 0
  · have k0 : (cd != 0) = false := by rw [bne_eq_false_iff_eq]; exact h0
    have HCK := Lib.hid (HCD.out.symm.trans h0)
    have hN := check_len HCK.out
    have HV := Lib.hid (show visL T stop = downS (stepV stop) T T.length 0 1 [] by unfold visL walkS; rw [if_pos HCK.out])
    have HW := Lib.hid (ref_walk_any w p c T HT.out HCK.out sv stop HS.out T.length 0 1 [] (.slice none 0 0) w1 (by omega) (by omega) (by omega) (by rw [← HV.out]; exact (len_walk (stepV_one stop) T [] rfl).2) ⟨rfl, .inl ⟨rfl, rfl⟩⟩ B1)
    obtain ⟨ps, cs, rfl, _⟩ := HS.out
    clear h0 hN HCD
    go_wp2_with fail
    refine HW.out.mono ?_
    rintro e w2 ⟨v2, rfl, hP⟩
    have HR := Lib.hid (HP.out _ HV.out _ _ hP.own hP.be)
    clear hP HW HP
    go_wp2
    go_ret
    exact HR.out
  · have k0 : (cd != 0) = true := by rw [bne_iff_ne]; exact h0
    have HV := Lib.hid (show visL T stop = [] by unfold visL walkS; rw [if_neg (fun h => h0 (HCD.out.trans h))])
    have HR := Lib.hid (HP.out [] HV.out (.slice none 0 0) w1 ⟨rfl, .inl ⟨rfl, rfl⟩⟩ B1)
    clear h0 HP
    go_wp2
    go_ret
    exact HR.out
theorem row_sink_ {w : World} {base base' : Nat} {t : TypeId} {k : Nat} {v : Value} {n : Nat} {xs : List Value} (h : w.ownsRow base t k v n xs) (hb : base' ≤ base) : w.ownsRow base' t k v n xs := by
  obtain ⟨hl, h | ⟨g, cap, cur, e, hb', hr⟩⟩ := h
  · exact ⟨hl, .inl h⟩
  · exact ⟨hl, .inr ⟨g, cap, cur, e, by omega, hr⟩⟩
theorem fst_snoc (L : List (Int × Int)) {j : Nat} (hj : j < L.length) : ((L.take (j + 1)).map fun x => Value.int .i64 x.1) = ((L.take j).map fun x => Value.int .i64 x.1) ++ [.int .i64 (L.getD j (0, 0)).1] := by
  rw [List.take_succ_eq_append_getElem hj, List.map_append, List.getD_eq_getElem?_getD, List.getElem?_eq_getElem hj]
  rfl
set_option maxRecDepth 100000 in
set_option maxHeartbeats 8000000 in
theorem ref_Order_any (p : Option Addr) (c : Nat) (T : List Nd) (w : World) (hT : TreeAt w (.slice p T.length c) T) : Calls Try.prog 35 #[.agg #[.slice p T.length c]] w fun e w' => ∃ v, e = .returned v ∧ w'.ownsRow w.heap.size 3 1 v (ordL T).length ((ordL T).map (Value.int .i64)) ∧ Below w.heap.size w w' := by
  obtain ⟨i0, hi, hz0, hz1, hz2⟩ := info_parts infoIntO
  have HI := Lib.hid (And.intro hi (And.intro hz0 (And.intro hz1 hz2)))
  have HT := Lib.hid hT
  have hlen := hT.len
  have hvl := (len_walk (stepV_one []) T [] rfl).2
  have HP := Lib.hid (fun v w' (h1 : w'.ownsRow w.heap.size 3 1 v (visL T []).length ((visL T []).map fun x => Value.int .i64 x.1)) (h2 : Below w.heap.size w w') => show ∃ v', Ending.returned v = .returned v' ∧ w'.ownsRow w.heap.size 3 1 v' (ordL T).length ((ordL T).map (Value.int .i64)) ∧ Below w.heap.size w w' from ⟨v, rfl, by
    rw [← visL_ord, List.length_map, List.map_map]; exact h1, h2⟩)
  have hvl2 : (visL T []).length ≤ 4096 := hvl
  clear hi hz0 hz1 hz2 hT hvl
  go_enter Try.func35, Try.ntmps35
  go_wp2_with fail
  refine (ref_Walk_any p c T (.slice none 0 0) [] _ (HT.out.later (by go_grown)) ⟨none, 0, rfl, Nat.le_refl _, by omega, fun _ => rfl, fun h => by cases h⟩).mono ?_
  generalize visL T [] = L at *
  rintro e w1 ⟨v, rfl, own, hb1⟩
  have B1 : Below w.heap.size w w1 := below_via hb1 (by go_grown)
  have HOV := Lib.hid own
  obtain ⟨pv, cv, rfl, hcv⟩ : ∃ p c, v = .slice p L.length c ∧ L.length ≤ c := by
    rcases row_form own with ⟨rfl, h0, _⟩ | ⟨g, c, rfl, h1, _⟩
    · exact ⟨none, 0, by rw [h0], by omega⟩
    · exact ⟨_, _, rfl, h1⟩
  have hw1 : w.heap.size ≤ w1.heap.size := B1.size
  clear own hb1 HT
  go_wp2
  go_loopw [5, 4] (fun i lv wr => ∃ j : Nat, j ≤ L.length ∧ i = .int .i64 j ∧ RowKit.Hid (wr.ownsRow w1.heap.size 3 1 lv j ((L.take j).map fun x => Value.int .i64 x.1)) ∧ Below w1.heap.size w1 wr) (fun i _ _ => L.length - (intOf i).toNat)
  case atStart => exact ⟨0, Nat.zero_le _, rfl, Lib.hid ⟨rfl, .inl ⟨rfl, rfl⟩⟩, Below.refl _ _⟩
  case round =>
    obtain ⟨j, hj, rfl, HO, BR⟩ := hrel
    have zr := BR.size
    by_cases hlt : j < L.length
    · have hji : (j : Int) < (L.length : Int) := by omega
      rcases row_form HOV.out with ⟨_, h0, _⟩ | ⟨g, cg, e, _, _, hgz, _⟩
      · omega
      injection e with e1 _ e3
      subst e1 e3
      obtain ⟨a, ha⟩ : ∃ a, a = (L.getD j (0, 0)).1 := ⟨_, rfl⟩
      have HA := Lib.hid ha
      have cj : wr.cell? ⟨g, j * 2, none⟩ = some (.int .i64 a) := by
        rw [(bcell BR).1 _ _ hgz]
        have := row_cells HOV.out (j * 2) (.int .i64 a) (by
          rw [cellsO_get L (j * 2) (by omega)]
          unfold cellQ
          rw [if_pos (by omega), show j * 2 / 2 = j by omega, ha])
        rwa [Nat.zero_add] at this
      have hgw : g < wr.heap.size := by omega
      have HOWN := Lib.hid (HO.out.alloc (.cells #[.int .i64 a] 3))
      have HON := Lib.hid (show ∀ u ∈ [Value.int .i64 a], u.oneCell' = true from fun u hu => by simp at hu; rcases hu with rfl; rfl)
      have h63 : j + 1 ≤ maxLen := by unfold maxLen; omega
      clear ha
      go_wp2_with (at_builtin; go_must (refine append_keep rfl (.tmp 14) (.tmp 20) 25 rfl w1.heap.size 3 i0 _ 1 8 Try.underlying25 HI.out.1 HI.out.2.1 HI.out.2.2.1 HI.out.2.2.2 rfl (by decide) _ j _ rfl HOWN.out ⟨wr.heap.size, 0, none⟩ 1 1 [.int .i64 a] rfl rfl ?n1 HON.out h63 ?n2 ?n3 ?_))
      try case n1 => exact World.news_of_block (cs := #[.int .i64 a]) (t := 3) (fr := (0, 0)) (heap_alloc_new wr _)
      case n2 => omega
      case n3 => first | omega | (simp; omega)
      intro v' w2 own2 gr pl
      have HO2 := Lib.hid (show w2.ownsRow w1.heap.size 3 1 v' (j + 1) ((L.take (j + 1)).map fun x => Value.int .i64 x.1) by rw [fst_snoc L hlt, ← HA.out, List.map_take]; exact own2)
      have B2 : Below w1.heap.size w1 w2 := Below.grown (BR.alloc zr _) gr (by simp; omega) (fun k hk => (row_lt HO.out k hk).2)
      clear own2 gr pl HO HOWN HON
      go_wp2
      go_roundw
      case rel => exact ⟨j + 1, by omega, by go_num, HO2, B2⟩
      case measure => simp [intOf]; omega
    · obtain rfl : j = L.length := by omega
      have HR := Lib.hid (HP.out u4 wr (by have := row_sink_ HO.out hw1; rwa [List.take_length] at this) (below_via BR B1))
      clear hlt hj HO HP
      go_wp2
      go_ret
      exact HR.out
def RetFi (T : List Nd) (id : ByteArray) (w : World) (e : Ending) (w' : World) : Prop := e = .returned (.int .i64 (findR T id)) ∧ Below w.heap.size w w'
set_option maxRecDepth 100000 in
set_option maxHeartbeats 8000000 in
theorem ref_Find_any (p : Option Addr) (c : Nat) (T : List Nd) (id : ByteArray) (w : World) (hT : TreeAt w (.slice p T.length c) T) (hid : id.size ≤ 9223372036854775807) : Calls Try.prog 48 #[.agg #[.slice p T.length c], .string id] w (RetFi T id w) := by
  have HT := Lib.hid hT
  have hlen := hT.len
  have HP := Lib.hid (fun w' (x : Int) (hx : findR T id = x) (hb : Below w.heap.size w w') => show RetFi T id w (.returned (.int .i64 x)) w' by rw [← hx]; exact ⟨rfl, hb⟩)
  obtain ⟨cd, hcd⟩ : ∃ z, z = (checkT T).1 := ⟨_, rfl⟩
  have HCD := Lib.hid hcd
  have HF := Lib.hid (show findR T id = if (checkT T).1 = 0 ∧ 0 < id.size then idxF T id else -1 from rfl)
  generalize RetFi T id w = post at *
  generalize findR T id = R at *
  clear hT hcd
  go_enter Try.func48, Try.ntmps48
  go_wp2_with fail
  refine (ref_Check_any p c T _ (HT.out.later (by go_grown))).mono ?_
  rw [← HCD.out]
  generalize (checkT T).2 = c2 at *
  rintro e w1 ⟨rfl, hb1⟩
  have B1 : Below w.heap.size w w1 := below_via hb1 (by go_grown)
  have x0 : w1.cell? ⟨w.heap.size, 0, none⟩ = some (.slice p T.length c) := by rw [(bcell hb1).1 _ _ (by simp)]; simp [go_sem]
  have z0 : w.heap.size < w1.heap.size := by have := hb1.size; simp at this; omega
  clear hb1
  by_cases h0 : cd = 0 ∧ 0 < id.size
  · obtain ⟨h0, hp⟩ := h0
    have k0 : (cd == 0) = true := by simpa using h0
    have hne : id.toList.isEmpty = false := by
      have := ne_nil_of_pos_ hp
      simpa using this
    have hne2 : (!id.toList.isEmpty) = true := by rw [hne]; rfl
    have HR := Lib.hid (HF.out.trans (if_pos ⟨HCD.out.symm.trans h0, hp⟩))
    clear HF h0 hp HCD
    go_wp2
    go_loop [7] (fun i => ∃ k : Nat, k ≤ T.length ∧ i = .int .i64 k ∧ RowKit.Hid (∀ j, j < k → (T.getD j zNd).id ≠ id)) (fun i => T.length - (intOf i).toNat)
    case atStart => exact ⟨0, Nat.zero_le _, rfl, Lib.hid (fun j hj => absurd hj (Nat.not_lt_zero _))⟩
    case round =>
      obtain ⟨k, hk, rfl, HN⟩ := hrel
      by_cases hlt : k < T.length
      · have hki : (k : Int) < (T.length : Int) := by omega
        obtain ⟨_, _, p', c', e, _, _, hnd⟩ := HT.out
        injection e with e1 _ e2
        subst e1 e2
        obtain ⟨b, off, rfl, hb, hnd⟩ := hnd (by omega)
        obtain ⟨kv, cv, hkv, _, hc⟩ := hnd k hlt
        have c1 : w1.cell? ⟨b, off + k * 34 + 1, none⟩ = some (.string (T.getD k zNd).id) := by rw [(bcell B1).1 _ _ hb]; exact hc 1 (by omega)
        have hbw : b < w1.heap.size := by have := B1.size; omega
        obtain ⟨nid, hnid⟩ : ∃ z, z = (T.getD k zNd).id := ⟨_, rfl⟩
        have HNI := Lib.hid hnid
        rw [← hnid] at c1
        clear hc hnd hkv hnid
        by_cases he : nid = id
        · subst he
          have HE := Lib.hid (HP.out w1 _ (HR.out.trans (idxF_hit hlt HNI.out.symm HN.out)) B1)
          clear HP HR HN HNI
          go_wp2
          exact HE.out
        · have d : (nid.toList == id.toList) = false := by rw [beq_eq_false_iff_ne]; exact fun e => he (bytes_ext e)
          have HN' := Lib.hid (show ∀ j, j < k + 1 → (T.getD j zNd).id ≠ id from fun j hj => by
            by_cases e : j = k
            · rw [e, ← HNI.out]; exact he
            · exact HN.out j (by omega))
          clear he HN HNI
          go_wp2
          go_round
          case rel => exact ⟨k + 1, by omega, by go_num, HN'⟩
          case measure => simp [intOf]; omega
      · obtain rfl : k = T.length := by omega
        have HE := Lib.hid (HP.out w1 _ (HR.out.trans (idxF_miss HN.out)) B1)
        clear hlt hk HN HP HR
        go_wp2
        exact HE.out
  · have HE := Lib.hid (HP.out w1 _ (HF.out.trans (if_neg (fun h => h0 ⟨HCD.out.trans h.1, h.2⟩))) B1)
    clear HP HF HCD
    rcases (show cd ≠ 0 ∨ (cd = 0 ∧ id.size = 0) by omega) with h | ⟨rfl, h⟩
    · have k0 : (cd == 0) = false := by simpa using h
      clear h h0
      go_wp2
      refine wp_loop_rounds 1 ?_
      rw [rounds_succ]
      go_wp2
      exact HE.out
    · have hne : id.toList.isEmpty = true := by
        have : id.data.toList = [] := by rw [← List.length_eq_zero_iff, ← Lib.size_eq]; omega
        rw [ByteArray.toList_eq, this]; rfl
      have hne2 : (!id.toList.isEmpty) = false := by rw [hne]; rfl
      clear h h0
      go_wp2
      refine wp_loop_rounds 1 ?_
      rw [rounds_succ]
      go_wp2
      exact HE.out
end Go.Proofs.Ytihjefncjkdnpaa
