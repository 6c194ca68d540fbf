/- Focus: contracts of Carry, both. -/
import Derived.Test.YtihjefncjkdnpaaFoF
namespace Go.Proofs.Ytihjefncjkdnpaa
open Go.RowKit Go.Deep
set_option linter.unusedVariables false
set_option linter.unusedSimpArgs false

/-- a node read whole, where a guard lets it -/
theorem wpList_load_node_on {ops : Array Oper} {rest : List Oper} {op : Oper} {a : Act} {w : World} {Q : Exit → Act → World → Prop} (hw : Region.wanted op (yielded ops a.tmps) = true) (x : Operand) (ho : op.op = .load 53 x) (b o : Nat) (hx : a.eval x = .pointer (some ⟨b, o, none⟩)) (cs : List Value) (hl : cs.length = 34) (hc : w.rangeAt b o cs)
    (h : wpList Try.prog ops Q rest (a.put op.dst (.agg cs.toArray)) w) : wpList Try.prog ops Q (op :: rest) a w :=
  wpList_step fun K hK => by
    rw [if_pos hw]
    exact wp_load_mid _ x ho b o hx cs _ hc Try.underlying53 rfl (by rw [hl]; exact infoN) (hK _ _ h)
/-- who has the focus in another tree -/
def carryN (old now : List Nd) (i : Int) : Int :=
  if (checkT old).1 = 0 ∧ 0 ≤ i ∧ i < (old.length : Int) then (if 0 ≤ findR now (old.getD i.toNat zNd).id ∧ canT now (findR now (old.getD i.toNat zNd).id) = true then findR now (old.getD i.toNat zNd).id else -1) else -1
def RetC (old now : List Nd) (i : Int) (w : World) (e : Ending) (w' : World) : Prop := e = .returned (.int .i64 (carryN old now i)) ∧ Below w.heap.size w w'
set_option maxRecDepth 100000 in
set_option maxHeartbeats 8000000 in
theorem focus_Carry_any (po pn : Option Addr) (co cn : Nat) (old now : List Nd) (i : Int) (w : World) (ho : TreeAt w (.slice po old.length co) old) (hn : TreeAt w (.slice pn now.length cn) now) : Calls Try.prog 18 #[.agg #[.slice po old.length co], .agg #[.slice pn now.length cn], .int .i64 i] w (RetC old now i w) := by
  have HTO := Lib.hid ho
  have HTN := Lib.hid hn
  have hlo := ho.len
  have hln := hn.len
  have HP := Lib.hid (fun w' (x : Int) (hx : carryN old now i = x) (hb : Below w.heap.size w w') => show RetC old now i w (.returned (.int .i64 x)) w' by rw [← hx]; exact ⟨rfl, hb⟩)
  obtain ⟨cd, hcd⟩ : ∃ z, z = (checkT old).1 := ⟨_, rfl⟩
  have HCD := Lib.hid hcd
  have HF := Lib.hid (show carryN old now i = if (checkT old).1 = 0 ∧ 0 ≤ i ∧ i < (old.length : Int) then (if 0 ≤ findR now (old.getD i.toNat zNd).id ∧ canT now (findR now (old.getD i.toNat zNd).id) = true then findR now (old.getD i.toNat zNd).id else -1) else -1 from rfl)
  generalize RetC old now i w = post at *
  generalize carryN old now i = R at *
  clear ho hn hcd
  go_enter Try.func18, Try.ntmps18
  go_wp2_with fail
  refine (tree_Check_any po co old _ (HTO.out.later (by go_grown))).mono ?_
  rw [← HCD.out]
  generalize (checkT old).2 = c2 at *
  rintro e w1 ⟨rfl, hb1⟩
  have B1 : Below w.heap.size w w1 := below_via hb1 (by go_grown)
  have t0 := (hb1.block w.heap.size (by simp; omega)).trans ((heap_alloc_old _ _ (by simp)).trans (heap_alloc_new _ _))
  have t1 : w1.heap[w.heap.size + 1]? = some (.cells #[.slice pn now.length cn] 24 (0, 0)) := by
    have := heap_alloc_new (w.alloc (.cells #[.slice po old.length co] 24)) (.cells #[.slice pn now.length cn] 24)
    rw [World.size_alloc] at this
    exact (hb1.block _ (by simp)).trans this
  have x0 := cell_of_one t0
  have x1 := cell_of_one t1
  have z1 := lt_of_block t1
  have z0 : w.heap.size < w1.heap.size := by omega
  clear hb1 t0 t1
  by_cases h0 : cd = 0 ∧ 0 ≤ i ∧ i < (old.length : Int)
  · obtain ⟨h0, hi0, hi1⟩ := h0
    obtain ⟨k, rfl⟩ : ∃ k : Nat, i = (k : Int) := ⟨i.toNat, by omega⟩
    have k0 : (cd != 0) = false := by rw [bne_eq_false_iff_eq]; exact h0
    have HR := Lib.hid (HF.out.trans (if_pos ⟨HCD.out.symm.trans h0, hi0, hi1⟩))
    rw [Int.toNat_natCast] at HR
    have hkN : k < old.length := by omega
    obtain ⟨_, _, p', c', e, _, _, hnd⟩ := HTO.out
    injection e with e1 _ e2
    subst e1 e2
    obtain ⟨b, off, rfl, hb, hnd⟩ := hnd (by omega)
    obtain ⟨kv, cv, hkv, _, hc⟩ := hnd k hkN
    have hok := HTO.out.ok _ (nd_get hkN)
    have hids := hok.id
    have c1 : w1.cell? ⟨b, off + k * 34 + 1, none⟩ = some (.string (old.getD k zNd).id) := by rw [(bcell B1).1 _ _ hb]; exact hc 1 (by omega)
    have hbw : b < w1.heap.size := by have := B1.size; omega
    generalize (old.getD k zNd).id = id at *
    obtain ⟨hr0, hr1, hr2⟩ := findR_range now id
    have HFI := Lib.hid (fun w' (h : Below w1.heap.size w1 w') => tree_Find_any pn cn now id w' (HTN.out.later (below_via h B1)) hids)
    generalize findR now id = fi at *
    have HSF := Lib.hid (fun w' (h : Below w1.heap.size w1 w') => show (w'.cell? ⟨w.heap.size, 0, none⟩ = some (.slice (some ⟨b, off, none⟩) old.length co) ∧ w'.cell? ⟨w.heap.size + 1, 0, none⟩ = some (.slice pn now.length cn) ∧ w'.cell? ⟨b, off + k * 34 + 1, none⟩ = some (.string id)) from by
      obtain ⟨hc, _⟩ := bcell h
      refine ⟨?_, ?_, ?_⟩ <;> (rw [hc _ _ (by assumption)]; assumption))
    clear HF h0 hkv hc hnd hok HCD hr2
    go_upto_region 4 with (fail)
    refine wp_region_noPanic ?_
    refine wp_region_lexH (fun w' => Below w1.heap.size w1 w') (by kernel_rfl) (by kernel_rfl) (fun _ _ _ _ _ h => h) (Below.drew (Below.refl _ _)) ?_
    apply lexH_run (by rfl)
    · (intro w h; have FK := HSF.out w h; clear h; go_split_ands; go_simp; try rfl)
    (try simp only [Act.put, List.setIfInBounds_toArray, List.set_cons_zero, List.set_cons_succ])
    apply lexH_run (by rfl)
    · (intro w h; clear h; go_simp; try rfl)
    (try simp only [Act.put, List.setIfInBounds_toArray, List.set_cons_zero, List.set_cons_succ])
    apply lexH_run (by rfl)
    · (intro w h; have FK := HSF.out w h; clear h; go_split_ands; go_simp; try rfl)
    (try simp only [Act.put, List.setIfInBounds_toArray, List.set_cons_zero, List.set_cons_succ])
    apply lexH_run (by rfl)
    · (intro w h; clear h; go_simp; try rfl)
    (try simp only [Act.put, List.setIfInBounds_toArray, List.set_cons_zero, List.set_cons_succ])
    apply lexH_run (by rfl)
    · (intro w h; clear h; go_simp; try rfl)
    (try simp only [Act.put, List.setIfInBounds_toArray, List.set_cons_zero, List.set_cons_succ])
    apply lexH_run (by rfl)
    · (intro w h; clear h; go_simp; try rfl)
    (try simp only [Act.put, List.setIfInBounds_toArray, List.set_cons_zero, List.set_cons_succ])
    apply lexH_run (by rfl)
    · (intro w h; have FK := HSF.out w h; clear h; go_split_ands; go_simp; try rfl)
    (try simp only [Act.put, List.setIfInBounds_toArray, List.set_cons_zero, List.set_cons_succ])
    refine lexH_call (by kernel_rfl) (by rfl) (by go_simp; first | exact ⟨rfl, rfl⟩ | rfl) ?_
    intro hS
    refine (HFI.out _ hS).mono ?_
    rintro e w3 ⟨rfl, hb3⟩
    have HB3 := Lib.hid (below_via hb3 hS)
    refine ⟨_, rfl, HB3.out, ?_⟩
    clear hb3 hS HFI
    (try simp only [Act.put, List.setIfInBounds_toArray, List.set_cons_zero, List.set_cons_succ])
    apply lexH_run (by rfl)
    · (intro w h; clear h; go_simp; try rfl)
    (try simp only [Act.put, List.setIfInBounds_toArray, List.set_cons_zero, List.set_cons_succ])
    apply lexH_nil
    refine NoPanic.normal ?_
    have x3 := (HSF.out _ HB3.out).2.1
    have z3 : w.heap.size + 1 < w3.heap.size := by have := HB3.out.size; omega
    have B3 := below_via HB3.out B1
    clear HSF x0 x1 c1
    by_cases hf : fi < 0
    · have HE := Lib.hid (HP.out w3 _ (HR.out.trans (if_neg (fun h => by omega))) B3)
      clear HR HP
      go_wp2
      exact HE.out
    · obtain ⟨q, rfl⟩ : ∃ q : Nat, fi = (q : Int) := ⟨fi.toNat, by omega⟩
      have hqN : q < now.length := by omega
      obtain ⟨b2, off2, kv2, cv2, rfl, hbz, hk, hcn, hrg⟩ := HTN.out.node q hqN
      have hok := HTN.out.ok _ (nd_get hqN)
      obtain ⟨ns, hns⟩ : ∃ ns, ns = ndV (now.getD q zNd) kv2 cv2 := ⟨_, rfl⟩
      rw [← hns] at hrg
      have LEN := Lib.hid (show ns.length = 34 by rw [hns]; rfl)
      have RNG := Lib.hid (range_later hrg B3 hbz)
      have HCAN := Lib.hid (fun w => can_any (now.getD q zNd) kv2 cv2 ns hns hok w)
      have HCT := Lib.hid (show canT now (q : Int) = canB (now.getD q zNd) by unfold canT; rw [Int.toNat_natCast])
      generalize canB (now.getD q zNd) = cb at *
      rw [HCT.out] at HR
      have hf0 : (0 : Int) ≤ (q : Int) := by omega
      clear hk hcn hrg hok hns HCT hf
      go_wp2_with ((with_reducible refine wpList_load_node_on ?h1 (.tmp 42) ?h2 b2 (off2 + q * 34) ?h3 ns LEN.out RNG.out ?_); (case h1 => rfl); (case h2 => rfl); (case h3 => rfl))
      refine (HCAN.out _).mono ?_
      rintro e w4 ⟨rfl, hb4⟩
      have B4 := below_via hb4 B3
      clear hb4
      cases cb with
      | true =>
        have HE := Lib.hid (HP.out w4 _ (HR.out.trans (if_pos ⟨hf0, rfl⟩)) B4)
        clear HR HP
        go_wp2
        exact HE.out
      | false =>
        have HE := Lib.hid (HP.out w4 _ (HR.out.trans (if_neg (fun h => by cases h.2))) B4)
        clear HR HP
        go_wp2
        exact HE.out
  · have HE := Lib.hid (HP.out w1 _ (HF.out.trans (if_neg (fun h => h0 ⟨HCD.out.trans h.1, h.2⟩))) B1)
    clear HP HF HCD
    rcases (show cd ≠ 0 ∨ (cd = 0 ∧ i < 0) ∨ (cd = 0 ∧ 0 ≤ i ∧ (old.length : Int) ≤ i) by omega) with h | ⟨rfl, h⟩ | ⟨rfl, h, h2⟩
    · have k0 : (cd != 0) = true := by rw [bne_iff_ne]; exact h
      clear h h0
      go_wp2
      exact HE.out
    · clear h0
      go_wp2
      exact HE.out
    · clear h0
      go_wp2
      exact HE.out
end Go.Proofs.Ytihjefncjkdnpaa
