/- Focus: contracts of focus.Order and of the reference's. -/
import Derived.Test.YtihjefncjkdnpaaFoB
import Derived.Test.YtihjefncjkdnpaaOdD
namespace Go.Proofs.Ytihjefncjkdnpaa
open Go.RowKit Go.Deep
set_option linter.unusedVariables false
set_option linter.unusedSimpArgs false

/-- a node of a tree that lies in memory -/
theorem TreeAt.node {w : World} {p : Option Addr} {c : Nat} {T : List Nd} (h : TreeAt w (.slice p T.length c) T) (n : Nat) (hn : n < T.length) : ∃ b off kv cv, p = some ⟨b, off, none⟩ ∧ b < w.heap.size ∧ IntsAt w kv (T.getD n zNd).kids ∧ ItsAt w cv (T.getD n zNd).cols ∧ w.rangeAt b (off + n * 34) (ndV (T.getD n zNd) kv cv) := by
  obtain ⟨_, _, p', c', e, _, _, hnd⟩ := h
  injection e with e1 _ e2
  subst e1 e2
  obtain ⟨b, off, e, hb, hnd⟩ := hnd (by omega)
  obtain ⟨kv, cv, hk, hc, hcl⟩ := hnd n hn
  exact ⟨b, off, kv, cv, e, hb, hk, hc, nd_range hcl⟩
theorem nd_get {T : List Nd} {n : Nat} (hn : n < T.length) : T.getD n zNd ∈ T := by
  rw [List.getD_eq_getElem?_getD, List.getElem?_eq_getElem hn]
  exact List.getElem_mem hn
theorem range_later {w w' : World} {b o B : Nat} {cs : List Value} (h : w.rangeAt b o cs) (hb : Below B w w') (hB : b < B) : w'.rangeAt b o cs := fun j v hv => by
  rw [(bcell hb).1 _ _ hB]; exact h j v hv
set_option maxRecDepth 100000 in
set_option maxHeartbeats 8000000 in
theorem order1_pred (w0 : World) (p : Option Addr) (c : Nat) (T : List Nd) (bt : Nat) (hT : TreeAt w0 (.slice p T.length c) T) (hb : w0.heap[bt]? = some (.cells #[.slice p T.length c] 24 (0, 0))) : PredF w0 39 #[.pointer (some ⟨bt, 0, none⟩)] (ordL T) (fun n => !canT T n) := by
  refine ⟨fun args w => by rfl, fun n hn W B0 => ?_⟩
  obtain ⟨i, hi, rfl⟩ := List.getElem_of_mem hn
  obtain ⟨q, hq, hqN, _⟩ := ordL_get hi
  rw [List.getD_eq_getElem?_getD, List.getElem?_eq_getElem hi, Option.getD_some] at hq
  rw [hq]
  obtain ⟨b, off, kv, cv, rfl, hbz, hk, hc, hrg⟩ := hT.node q hqN
  have hok := hT.ok _ (nd_get hqN)
  have hlen := hT.len
  have x0 := cell_of_one ((B0.block _ (lt_of_block hb)).trans hb)
  have z0 : bt < W.heap.size := by have := B0.size; have := lt_of_block hb; omega
  obtain ⟨ns, hns⟩ : ∃ ns, ns = ndV (T.getD q zNd) kv cv := ⟨_, rfl⟩
  rw [← hns] at hrg
  have RNG := Lib.hid (range_later hrg B0 hbz)
  have LEN := Lib.hid (show ns.length = 34 by rw [hns]; rfl)
  have HCAN := Lib.hid (fun w => can_any (T.getD q zNd) kv cv ns hns hok w)
  have HCT := Lib.hid (show (!canT T (q : Int)) = !canB (T.getD q zNd) from by unfold canT; rw [Int.toNat_natCast])
  have hqi : (q : Int) < (T.length : Int) := by omega
  generalize (!canT T (q : Int)) = R at *
  clear hT hb hi hn hq hk hc hns hok hrg hbz B0
  go_enter Try.func39, Try.ntmps39
  go_wp2_with ((with_reducible refine wpList_load_node ?h1 (.tmp 7) ?h2 b (off + q * 34) ?h3 ns LEN.out RNG.out ?_); (case h1 => rfl); (case h2 => rfl); (case h3 => rfl))
  refine (HCAN.out _).mono ?_
  generalize canB (T.getD q zNd) = cb at *
  rintro e w1 ⟨rfl, hb1⟩
  go_wp2
  go_ret
  exact ⟨by rw [HCT.out]; rfl, hb1⟩
set_option maxRecDepth 100000 in
set_option maxHeartbeats 8000000 in
theorem focus_Order_any (p : Option Addr) (c : Nat) (T : List Nd) (w : World) (hT : TreeAt w (.slice p T.length c) T) : Calls Try.prog 12 #[.agg #[.slice p T.length c]] w fun e w' => ∃ v, e = .returned v ∧ w'.ownsRow w.heap.size 3 1 v (fosL T).length ((fosL T).map (Value.int .i64)) ∧ Below w.heap.size w w' := by
  have hlen := hT.len
  have hmf : ∀ (fn : Fn) (first cap : Array Value) (w : World), (Instr.makeFunc fn first cap).run Try.prog w = .ok (.func fn first cap) w := fun _ _ _ _ => rfl
  have B1 : Below w.heap.size w (w.alloc (.cells #[.slice p T.length c] 24)) := below_al (Below.refl _ _) _
  have HTO := Lib.hid (tree_Order_any p c T _ (hT.later B1))
  have V := Lib.hid (order1_pred _ p c T w.heap.size (hT.later B1) (heap_alloc_new _ _))
  have hl := stepO_len T
  have HE := Lib.hid (show ((ordL T).filter fun x => !(fun n => !canT T n) x) = fosL T by unfold fosL; congr 1; funext x; simp)
  obtain ⟨W, hW⟩ : ∃ W, W = w.alloc (.cells #[.slice p T.length c] 24) := ⟨_, rfl⟩
  have hz : W.heap.size = w.heap.size + 1 := by rw [hW]; simp
  have HZ := Lib.hid hz
  have x0 : W.cell? ⟨w.heap.size, 0, none⟩ = some (.slice p T.length c) := by rw [hW]; exact cell_of_one (heap_alloc_new _ _)
  have z0 : w.heap.size < W.heap.size := by omega
  have HW := Lib.hid hW
  rw [← hW] at HTO V B1
  clear hT hz hW
  go_enter Try.func12, Try.ntmps12
  go_wp2_with fail
  rw [← HW.out]
  refine HTO.out.mono ?_
  generalize ordL T = L at *
  rintro e w1 ⟨v, rfl, own, hb1⟩
  have x1 : w1.cell? ⟨w.heap.size, 0, none⟩ = some (.slice p T.length c) := by rw [(bcell hb1).1 _ _ z0]; exact x0
  have HD := Lib.hid (DeleteFunc_any W _ _ W.heap.size v L _ V.out w1 hb1 (Nat.le_refl _) own (by omega))
  rw [HE.out] at HD
  clear V HE HTO x0 own hb1 HW
  go_wp2_with fail
  refine HD.out.mono ?_
  rintro e w2 ⟨v2, rfl, own2, hb2⟩
  have HO := Lib.hid (row_sink_ own2 (show w.heap.size ≤ W.heap.size by omega))
  have HB := below_via hb2 B1
  clear own2 hb2 HD
  go_wp2
  go_ret
  exact ⟨_, rfl, HO.out, HB⟩
end Go.Proofs.Ytihjefncjkdnpaa
