/- Focus: contracts of can, slices.IndexFunc, slices.DeleteFunc, focus.Order. -/
import Derived.Test.YtihjefncjkdnpaaOdB
import Derived.Test.YtihjefncjkdnpaaTreN
import Derived.Lib.SliceRun
namespace Go.Proofs.Ytihjefncjkdnpaa
open Go.RowKit Go.Deep
set_option linter.unusedVariables false
set_option linter.unusedSimpArgs false

/-- may a node have the focus? -/
def canB (x : Nd) : Bool := decide (x.kind = 7) || decide (x.flags % 2 = 1)
def canT (T : List Nd) (n : Int) : Bool := canB (T.getD n.toNat zNd)
/-- who can have the focus, in the paint order -/
def fosL (T : List Nd) : List Int := (ordL T).filter fun n => canT T n
theorem and_one : ∀ n : Fin 256, bits BinOp.and IntKind.u8 (n.val : Int) 1 = (n.val : Int) % 2 := by decide +kernel
theorem and_one_ {c : Int} (h0 : 0 ≤ c) (h1 : c ≤ 255) : bits BinOp.and IntKind.u8 c 1 = c % 2 := by
  have := and_one ⟨c.toNat, by omega⟩
  rwa [show ((⟨c.toNat, by omega⟩ : Fin 256).val : Int) = c from Int.toNat_of_nonneg h0] at this
theorem box_node (w : World) (cs : List Value) (t : TypeId) (j : Nat) : (w.alloc (.cells cs.toArray t)).cell? ⟨w.heap.size, j, none⟩ = cs[j]? := by
  rw [cell_of_row _ w.heap.size j cs.toArray t (0, 0) (heap_alloc_new _ _)]
  simp
set_option maxRecDepth 100000 in
set_option maxHeartbeats 4000000 in
theorem can_cells (f : FuncId) (cs : List Value) (kd fl : Int) (hf : f = 40) (h0 : cs[0]? = some (.int .i8 kd)) (h33 : cs[33]? = some (.int .u8 fl)) (hr0 : 0 ≤ fl) (hr1 : fl ≤ 255) (w : World) : Calls Try.prog f #[.agg cs.toArray] w fun e w' => e = .returned (.bool (decide (kd = 7) || decide (fl % 2 = 1))) ∧ Below w.heap.size w w' := by
  subst hf
  have c0 := box_node w cs 53 0
  have c33 := box_node w cs 53 33
  rw [h0] at c0
  rw [h33] at c33
  have ha := and_one_ hr0 hr1
  clear h0 h33
  by_cases hk : kd = 7
  · have hk' : (kd == 7) = true := by simpa using hk
    have e : (decide (kd = 7) || decide (fl % 2 = 1)) = true := by simp [hk]
    rw [e]
    clear e hk
    go_enter Try.func40, Try.ntmps40
    go_wp2
    go_ret
    exact ⟨rfl, by go_grown⟩
  · have hk' : (kd == 7) = false := by simpa using hk
    obtain ⟨r, hr⟩ : ∃ r, r = decide (fl % 2 = 1) := ⟨_, rfl⟩
    have e : (decide (kd = 7) || decide (fl % 2 = 1)) = r := by simp [hk, hr]
    have hr' : (fl % 2 != 0) = r := by
      rw [hr]
      rcases (show fl % 2 = 0 ∨ fl % 2 = 1 by omega) with h | h <;> rw [h] <;> rfl
    rw [e]
    clear e hk hr
    go_enter Try.func40, Try.ntmps40
    go_wp2
    go_ret
    exact ⟨rfl, by go_grown⟩
theorem can_any (x : Nd) (kv cv : Value) (cs : List Value) (hcs : cs = ndV x kv cv) (hx : NdOk x) (w : World) : Calls Try.prog 40 #[.agg cs.toArray] w fun e w' => e = .returned (.bool (canB x)) ∧ Below w.heap.size w w' :=
  can_cells _ cs x.kind x.flags rfl (by rw [hcs]; rfl) (by rw [hcs]; rfl) hx.flags.1 hx.flags.2 w

/-- a function that tells of each of L's numbers -/
structure PredF (w0 : World) (K : FuncId) (cap : Array Value) (L : List Int) (P : Int → Bool) : Prop where
  enter : ∀ (args : Array Value) (w : World), (callFunc K args).run Try.prog w = .ok (.enter K args) w
  call : ∀ n ∈ L, ∀ W, Below w0.heap.size w0 W → Calls Try.prog K (#[.int .i64 n] ++ cap) W fun e W' => e = .returned (.bool (P n)) ∧ Below W.heap.size W W'
def ixF (P : Int → Bool) (L : List Int) : Int := match L.findIdx? P with
  | some i => (i : Int)
  | none => -1
theorem ixF_hit {P : Int → Bool} {L : List Int} {i : Nat} (hi : i < L.length) (h : P (L.getD i 0) = true) (hb : ∀ j, j < i → P (L.getD j 0) = false) : ixF P L = i := by
  have e : L.findIdx? P = some i := by
    rw [List.findIdx?_eq_some_iff_getElem]
    refine ⟨hi, ?_, fun j hj => ?_⟩
    · rwa [List.getD_eq_getElem?_getD, List.getElem?_eq_getElem hi] at h
    · have := hb j hj
      rw [List.getD_eq_getElem?_getD, List.getElem?_eq_getElem (by omega)] at this
      simpa using this
  unfold ixF
  rw [e]
theorem ixF_miss {P : Int → Bool} {L : List Int} (h : ∀ j, j < L.length → P (L.getD j 0) = false) : ixF P L = -1 := by
  have e : L.findIdx? P = none := by
    rw [List.findIdx?_eq_none_iff]
    intro y hy
    obtain ⟨j, hj, rfl⟩ := List.getElem_of_mem hy
    have := h j hj
    rwa [List.getD_eq_getElem?_getD, List.getElem?_eq_getElem hj] at this
  unfold ixF
  rw [e]
theorem ixF_spec (P : Int → Bool) (L : List Int) : (ixF P L = -1 ∧ ∀ j, j < L.length → P (L.getD j 0) = false) ∨ ∃ i : Nat, ixF P L = i ∧ i < L.length ∧ P (L.getD i 0) = true ∧ ∀ j, j < i → P (L.getD j 0) = false := by
  unfold ixF
  cases e : L.findIdx? P with
  | none =>
    left
    refine ⟨rfl, fun j hj => ?_⟩
    rw [List.findIdx?_eq_none_iff] at e
    rw [List.getD_eq_getElem?_getD, List.getElem?_eq_getElem hj]
    exact e _ (List.getElem_mem hj)
  | some i =>
    right
    rw [List.findIdx?_eq_some_iff_getElem] at e
    obtain ⟨hi, h1, h2⟩ := e
    refine ⟨i, rfl, hi, ?_, fun j hj => ?_⟩
    · rw [List.getD_eq_getElem?_getD, List.getElem?_eq_getElem hi]; exact h1
    · rw [List.getD_eq_getElem?_getD, List.getElem?_eq_getElem (by omega)]; simpa using h2 j hj
def RetX (P : Int → Bool) (L : List Int) (w : World) (e : Ending) (w' : World) : Prop := e = .returned (.int .i64 (ixF P L)) ∧ Below w.heap.size w w'
set_option maxRecDepth 100000 in
set_option maxHeartbeats 4000000 in
theorem IndexFunc_any (w0 : World) (K : FuncId) (cap : Array Value) (v : Value) (L : List Int) (P : Int → Bool) (V : PredF w0 K cap L P) (w : World) (h0 : Below w0.heap.size w0 w) (hv : IntsAt w v L) : Calls Try.prog 66 #[v, .func (.func K) #[] cap] w (RetX P L w) := by
  have hent := V.enter
  have HV := Lib.hid V
  obtain ⟨p, c, rfl, hl1, hl2, _, hc⟩ := hv
  have HC := Lib.hid hc
  have HRX := Lib.hid (fun w' (x : Int) (hx : ixF P L = x) (hb : Below w.heap.size w w') => show RetX P L w (.returned (.int .i64 x)) w' by rw [← hx]; exact ⟨rfl, hb⟩)
  have hlen : L.length ≤ 9223372036854775807 := by omega
  clear V hc
  generalize RetX P L w = post at *
  go_enter Try.func66, Try.ntmps66
  go_wp2
  go_loopw [8] (fun i wr => ∃ k : Nat, k ≤ L.length ∧ i = .int .i64 k ∧ Below w.heap.size w wr ∧ RowKit.Hid (∀ j, j < k → P (L.getD j 0) = false)) (fun i _ => L.length - (intOf i).toNat)
  case atStart => exact ⟨0, Nat.zero_le _, rfl, Below.refl _ _, Lib.hid (fun j hj => absurd hj (Nat.not_lt_zero _))⟩
  case round =>
    obtain ⟨k, hk, rfl, BW, HP⟩ := hrel
    by_cases hlt : k < L.length
    · have hki : (k : Int) < (L.length : Int) := by omega
      obtain ⟨b, off, rfl, hb, hcell⟩ := HC.out (by omega)
      have ck := hcell k hlt
      rw [← (bcell BW).1 _ _ hb] at ck
      have hbw : b < wr.heap.size := by have := BW.size; omega
      obtain ⟨x, hx⟩ : ∃ x, x = L.getD k 0 := ⟨_, rfl⟩
      have HX := Lib.hid hx
      rw [← hx] at ck
      have hcall := HV.out.call x (by rw [hx, List.getD_eq_getElem?_getD, List.getElem?_eq_getElem hlt]; exact List.getElem_mem hlt) wr (below_via BW h0)
      cases hp : P x with
      | true =>
        rw [hp] at hcall
        have HCL := Lib.hid hcall
        have HE := Lib.hid (ixF_hit hlt (by rw [← HX.out]; exact hp) HP.out)
        clear hcall hcell hx hp
        go_wp2_with fail
        refine HCL.out.mono ?_
        rintro e w1 ⟨rfl, hb1⟩
        have B1 := below_via hb1 BW
        clear hb1 HCL
        go_wp2
        exact HRX.out _ _ HE.out B1
      | false =>
        rw [hp] at hcall
        have HCL := Lib.hid hcall
        have HP' := Lib.hid (show ∀ j, j < k + 1 → P (L.getD j 0) = false from fun j hj => by
          by_cases e : j = k
          · rw [e, ← HX.out]; exact hp
          · exact HP.out j (by omega))
        clear hcall hcell hx hp HP
        go_wp2_with fail
        refine HCL.out.mono ?_
        rintro e w1 ⟨rfl, hb1⟩
        have B1 := below_via hb1 BW
        clear hb1 HCL
        go_wp2
        go_roundw
        case rel => exact ⟨k + 1, by omega, by go_num, B1, HP'⟩
        case measure => simp [intOf]; omega
    · obtain rfl : k = L.length := by omega
      have HE := Lib.hid (ixF_miss HP.out)
      clear hlt hk HP
      go_wp2
      exact HRX.out _ _ HE.out BW
end Go.Proofs.Ytihjefncjkdnpaa
