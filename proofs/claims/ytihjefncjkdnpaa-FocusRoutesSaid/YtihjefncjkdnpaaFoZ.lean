/- FoZ: FoA FoN FoB FoC FoD FoE FoF FoG FoH in one text. -/
import Derived.Test.YtihjefncjkdnpaaOdB
import Derived.Test.YtihjefncjkdnpaaTreN
import Derived.Lib.SliceRun
import Derived.Test.YtihjefncjkdnpaaLntA
import Derived.Test.YtihjefncjkdnpaaOdD
import Derived.Test.YtihjefncjkdnpaaHeld
namespace Go.Proofs.Ytihjefncjkdnpaa
open Go.RowKit Go.Deep
set_option linter.unusedVariables false
set_option linter.unusedSimpArgs false

/-- may a node have the focus? -/
def canB (x : Nd) : Bool := decide (x.kind = 7) || decide (x.flags % 2 = 1)
def canT (T : List Nd) (n : Int) : Bool := canB (T.getD n.toNat zNd)
/-- who can have the focus, in the paint order -/
def fosL (T : List Nd) : List Int := (ordL T).filter fun n => canT T n
theorem and_one : ∀ n : Fin 256, bits BinOp.and IntKind.u8 (n.val : Int) 1 = (n.val : Int) % 2 := by decide +kernel
theorem and_one_ {c : Int} (h0 : 0 ≤ c) (h1 : c ≤ 255) : bits BinOp.and IntKind.u8 c 1 = c % 2 := by
  have := and_one ⟨c.toNat, by omega⟩
  rwa [show ((⟨c.toNat, by omega⟩ : Fin 256).val : Int) = c from Int.toNat_of_nonneg h0] at this
theorem box_node (w : World) (cs : List Value) (t : TypeId) (j : Nat) : (w.alloc (.cells cs.toArray t)).cell? ⟨w.heap.size, j, none⟩ = cs[j]? := by
  rw [cell_of_row _ w.heap.size j cs.toArray t (0, 0) (heap_alloc_new _ _)]
  simp
set_option maxRecDepth 100000 in
set_option maxHeartbeats 4000000 in
theorem can_cells (f : FuncId) (cs : List Value) (kd fl : Int) (hf : f = 40) (h0 : cs[0]? = some (.int .i8 kd)) (h33 : cs[33]? = some (.int .u8 fl)) (hr0 : 0 ≤ fl) (hr1 : fl ≤ 255) (w : World) : Calls Try.prog f #[.agg cs.toArray] w fun e w' => e = .returned (.bool (decide (kd = 7) || decide (fl % 2 = 1))) ∧ Below w.heap.size w w' := by
  subst hf
  have c0 := box_node w cs 53 0
  have c33 := box_node w cs 53 33
  rw [h0] at c0
  rw [h33] at c33
  have ha := and_one_ hr0 hr1
  clear h0 h33
  by_cases hk : kd = 7
  · have hk' : (kd == 7) = true := by simpa using hk
    have e : (decide (kd = 7) || decide (fl % 2 = 1)) = true := by simp [hk]
    rw [e]
    clear e hk
    go_enter Try.func40, Try.ntmps40
    go_wp2
    go_ret
    exact ⟨rfl, by go_grown⟩
  · have hk' : (kd == 7) = false := by simpa using hk
    obtain ⟨r, hr⟩ : ∃ r, r = decide (fl % 2 = 1) := ⟨_, rfl⟩
    have e : (decide (kd = 7) || decide (fl % 2 = 1)) = r := by simp [hk, hr]
    have hr' : (fl % 2 != 0) = r := by
      rw [hr]
      rcases (show fl % 2 = 0 ∨ fl % 2 = 1 by omega) with h | h <;> rw [h] <;> rfl
    rw [e]
    clear e hk hr
    go_enter Try.func40, Try.ntmps40
    go_wp2
    go_ret
    exact ⟨rfl, by go_grown⟩
theorem can_any (x : Nd) (kv cv : Value) (cs : List Value) (hcs : cs = ndV x kv cv) (hx : NdOk x) (w : World) : Calls Try.prog 40 #[.agg cs.toArray] w fun e w' => e = .returned (.bool (canB x)) ∧ Below w.heap.size w w' :=
  can_cells _ cs x.kind x.flags rfl (by rw [hcs]; rfl) (by rw [hcs]; rfl) hx.flags.1 hx.flags.2 w

/-- a function that tells of each of L's numbers -/
structure PredF (w0 : World) (K : FuncId) (cap : Array Value) (L : List Int) (P : Int → Bool) : Prop where
  enter : ∀ (args : Array Value) (w : World), (callFunc K args).run Try.prog w = .ok (.enter K args) w
  call : ∀ n ∈ L, ∀ W, Below w0.heap.size w0 W → Calls Try.prog K (#[.int .i64 n] ++ cap) W fun e W' => e = .returned (.bool (P n)) ∧ Below W.heap.size W W'
def ixF (P : Int → Bool) (L : List Int) : Int := match L.findIdx? P with
  | some i => (i : Int)
  | none => -1
theorem ixF_hit {P : Int → Bool} {L : List Int} {i : Nat} (hi : i < L.length) (h : P (L.getD i 0) = true) (hb : ∀ j, j < i → P (L.getD j 0) = false) : ixF P L = i := by
  have e : L.findIdx? P = some i := by
    rw [List.findIdx?_eq_some_iff_getElem]
    refine ⟨hi, ?_, fun j hj => ?_⟩
    · rwa [List.getD_eq_getElem?_getD, List.getElem?_eq_getElem hi] at h
    · have := hb j hj
      rw [List.getD_eq_getElem?_getD, List.getElem?_eq_getElem (by omega)] at this
      simpa using this
  unfold ixF
  rw [e]
theorem ixF_miss {P : Int → Bool} {L : List Int} (h : ∀ j, j < L.length → P (L.getD j 0) = false) : ixF P L = -1 := by
  have e : L.findIdx? P = none := by
    rw [List.findIdx?_eq_none_iff]
    intro y hy
    obtain ⟨j, hj, rfl⟩ := List.getElem_of_mem hy
    have := h j hj
    rwa [List.getD_eq_getElem?_getD, List.getElem?_eq_getElem hj] at this
  unfold ixF
  rw [e]
theorem ixF_spec (P : Int → Bool) (L : List Int) : (ixF P L = -1 ∧ ∀ j, j < L.length → P (L.getD j 0) = false) ∨ ∃ i : Nat, ixF P L = i ∧ i < L.length ∧ P (L.getD i 0) = true ∧ ∀ j, j < i → P (L.getD j 0) = false := by
  unfold ixF
  cases e : L.findIdx? P with
  | none =>
    left
    refine ⟨rfl, fun j hj => ?_⟩
    rw [List.findIdx?_eq_none_iff] at e
    rw [List.getD_eq_getElem?_getD, List.getElem?_eq_getElem hj]
    exact e _ (List.getElem_mem hj)
  | some i =>
    right
    rw [List.findIdx?_eq_some_iff_getElem] at e
    obtain ⟨hi, h1, h2⟩ := e
    refine ⟨i, rfl, hi, ?_, fun j hj => ?_⟩
    · rw [List.getD_eq_getElem?_getD, List.getElem?_eq_getElem hi]; exact h1
    · rw [List.getD_eq_getElem?_getD, List.getElem?_eq_getElem (by omega)]; simpa using h2 j hj
def RetX (P : Int → Bool) (L : List Int) (w : World) (e : Ending) (w' : World) : Prop := e = .returned (.int .i64 (ixF P L)) ∧ Below w.heap.size w w'
set_option maxRecDepth 100000 in
set_option maxHeartbeats 4000000 in
theorem IndexFunc_any (w0 : World) (K : FuncId) (cap : Array Value) (v : Value) (L : List Int) (P : Int → Bool) (V : PredF w0 K cap L P) (w : World) (h0 : Below w0.heap.size w0 w) (hv : IntsAt w v L) : Calls Try.prog 66 #[v, .func (.func K) #[] cap] w (RetX P L w) := by
  have hent := V.enter
  have HV := Lib.hid V
  obtain ⟨p, c, rfl, hl1, hl2, _, hc⟩ := hv
  have HC := Lib.hid hc
  have HRX := Lib.hid (fun w' (x : Int) (hx : ixF P L = x) (hb : Below w.heap.size w w') => show RetX P L w (.returned (.int .i64 x)) w' by rw [← hx]; exact ⟨rfl, hb⟩)
  have hlen : L.length ≤ 9223372036854775807 := by omega
  clear V hc
  generalize RetX P L w = post at *
  go_enter Try.func66, Try.ntmps66
  go_wp2
  go_loopw [8] (fun i wr => ∃ k : Nat, k ≤ L.length ∧ i = .int .i64 k ∧ Below w.heap.size w wr ∧ RowKit.Hid (∀ j, j < k → P (L.getD j 0) = false)) (fun i _ => L.length - (intOf i).toNat)
  case atStart => exact ⟨0, Nat.zero_le _, rfl, Below.refl _ _, Lib.hid (fun j hj => absurd hj (Nat.not_lt_zero _))⟩
  case round =>
    obtain ⟨k, hk, rfl, BW, HP⟩ := hrel
    by_cases hlt : k < L.length
    · have hki : (k : Int) < (L.length : Int) := by omega
      obtain ⟨b, off, rfl, hb, hcell⟩ := HC.out (by omega)
      have ck := hcell k hlt
      rw [← (bcell BW).1 _ _ hb] at ck
      have hbw : b < wr.heap.size := by have := BW.size; omega
      obtain ⟨x, hx⟩ : ∃ x, x = L.getD k 0 := ⟨_, rfl⟩
      have HX := Lib.hid hx
      rw [← hx] at ck
      have hcall := HV.out.call x (by rw [hx, List.getD_eq_getElem?_getD, List.getElem?_eq_getElem hlt]; exact List.getElem_mem hlt) wr (below_via BW h0)
      cases hp : P x with
      | true =>
        rw [hp] at hcall
        have HCL := Lib.hid hcall
        have HE := Lib.hid (ixF_hit hlt (by rw [← HX.out]; exact hp) HP.out)
        clear hcall hcell hx hp
        go_wp2_with fail
        refine HCL.out.mono ?_
        rintro e w1 ⟨rfl, hb1⟩
        have B1 := below_via hb1 BW
        clear hb1 HCL
        go_wp2
        exact HRX.out _ _ HE.out B1
      | false =>
        rw [hp] at hcall
        have HCL := Lib.hid hcall
        have HP' := Lib.hid (show ∀ j, j < k + 1 → P (L.getD j 0) = false from fun j hj => by
          by_cases e : j = k
          · rw [e, ← HX.out]; exact hp
          · exact HP.out j (by omega))
        clear hcall hcell hx hp HP
        go_wp2_with fail
        refine HCL.out.mono ?_
        rintro e w1 ⟨rfl, hb1⟩
        have B1 := below_via hb1 BW
        clear hb1 HCL
        go_wp2
        go_roundw
        case rel => exact ⟨k + 1, by omega, by go_num, B1, HP'⟩
        case measure => simp [intOf]; omega
    · obtain rfl : k = L.length := by omega
      have HE := Lib.hid (ixF_miss HP.out)
      clear hlt hk HP
      go_wp2
      exact HRX.out _ _ HE.out BW
end Go.Proofs.Ytihjefncjkdnpaa
namespace Go.Proofs.Ytihjefncjkdnpaa
open Go.RowKit Go.Deep
set_option linter.unusedVariables false
set_option linter.unusedSimpArgs false

def atI (L : List Int) (x : Int) : Int := ixF (fun y => decide (y = x)) L
/-- the one that is by steps on; i: the place -/
def stepI (L : List Int) (i by' : Int) : Int := L.getD ((i + by') % (L.length : Int)).toNat 0
def nextR (L : List Int) (at' by' : Int) : Int :=
  if L.length = 0 then -1
  else if atI L at' < 0 ∧ by' = 0 then -1
  else stepI L (if atI L at' < 0 ∧ by' < 0 then 0 else atI L at') by'
theorem atI_range (L : List Int) (x : Int) : -1 ≤ atI L x ∧ atI L x < (L.length : Int) ∧ (0 ≤ atI L x → L.getD (atI L x).toNat 0 = x) ∧ (atI L x < 0 → x ∉ L) := by
  unfold atI
  rcases ixF_spec (fun y => decide (y = x)) L with ⟨e, h⟩ | ⟨i, e, hi, h, _⟩
  · rw [e]
    refine ⟨by omega, by omega, fun h => by omega, fun _ hm => ?_⟩
    obtain ⟨j, hj, rfl⟩ := List.getElem_of_mem hm
    have := h j hj
    rw [List.getD_eq_getElem?_getD, List.getElem?_eq_getElem hj] at this
    simp at this
  · rw [e]
    exact ⟨by omega, by omega, fun _ => by simpa using h, fun h => by omega⟩
theorem tmod_bd (x : Int) {k : Int} (hk : 0 < k) : -k < x.tmod k ∧ x.tmod k < k := by
  have h1 := Int.tmod_lt_of_pos x hk
  refine ⟨?_, h1⟩
  have h2 := Int.tmod_lt_of_pos (-x) hk
  rw [Int.neg_tmod] at h2
  omega
theorem tmod_emod (x : Int) {k : Int} (hk : 0 < k) : (x.tmod k) % k = x % k := by
  have h := Int.tmod_add_mul_tdiv x k
  have e : x % k = (x.tmod k + k * x.tdiv k) % k := by rw [h]
  rw [e, Int.add_mul_emod_self_left]
theorem norm_mod (x : Int) {k : Int} (hk : 0 < k) : (x.tmod k + k) % k = x % k := by
  rw [Int.add_emod_right, tmod_emod x hk]
theorem add_tmod (i x : Int) {k : Int} (hk : 0 < k) : (i + x.tmod k) % k = (i + x) % k := by
  rw [Int.add_emod, tmod_emod x hk, ← Int.add_emod]
/-- as the program reckons -/
theorem prog_mod (i x : Int) {k : Int} (hk : 0 < k) : ((i + x.tmod k).tmod k + k) % k = (i + x) % k := by
  rw [norm_mod _ hk, add_tmod i x hk]
/-- as the reference reckons -/
theorem ref_mod (i x : Int) {k : Int} (hk : 0 < k) : (i % k + x % k) % k = (i + x) % k := by rw [← Int.add_emod]
theorem mod_of (x : Int) {k : Int} (hk : 0 < k) : (0 ≤ x.tmod k → x.tmod k = x % k) ∧ (x.tmod k < 0 → x.tmod k + k = x % k) := by
  have hb := tmod_bd x hk
  have he := tmod_emod x hk
  refine ⟨fun h => ?_, fun h => ?_⟩
  · rw [← he, Int.emod_eq_of_lt h hb.2]
  · rw [← he, ← Int.add_emod_right, Int.emod_eq_of_lt (by omega) (by omega)]
theorem mod_range (x : Int) {k : Int} (hk : 0 < k) : 0 ≤ x % k ∧ x % k < k := ⟨Int.emod_nonneg _ (by omega), Int.emod_lt_of_pos _ hk⟩
end Go.Proofs.Ytihjefncjkdnpaa
namespace Go.Proofs.Ytihjefncjkdnpaa
open Go.RowKit Go.Deep
set_option linter.unusedVariables false
set_option linter.unusedSimpArgs false

theorem row_cut {w : World} {base : Nat} {t : TypeId} {g n c m : Nat} {xs : List Value} (h : w.ownsRow base t 1 (.slice (some ⟨g, 0, none⟩) n c) n xs) (hm : m ≤ n) : w.ownsRow base t 1 (.slice (some ⟨g, 0, none⟩) m c) m (xs.take m) := by
  obtain ⟨hl, ⟨e, _⟩ | ⟨g', cap, cur, e, hb, hh, hn, hx, hs, ht⟩⟩ := h
  · cases e
  · injection e with e1 _ e3
    injection e1 with e1
    injection e1 with e1
    subst e1 e3
    refine ⟨by rw [List.length_take, hl]; omega, .inr ⟨g, c, cur, rfl, hb, hh, by omega, hx, hs, ?_⟩⟩
    rw [← ht, List.take_take]
    congr 1
    omega
theorem row_at1_ {w : World} {base : Nat} {t : TypeId} {k g n c m : Nat} {xs : List Value} (h : w.ownsRow base t k (.slice (some ⟨g, 0, none⟩) m c) n xs) (i : Nat) (hi : i < n * k) : (∃ v, w.cell? ⟨g, i, none⟩ = some v) ∧ w.frozen? ⟨g, i, none⟩ = false := by
  have hc := row_cells h
  have hl : i < xs.length := by rw [h.1]; exact hi
  refine ⟨⟨xs[i], ?_⟩, ?_⟩
  · have := hc i _ (List.getElem?_eq_getElem hl)
    rwa [Nat.zero_add] at this
  · obtain ⟨_, ⟨e, _⟩ | ⟨g', cap, cur, e, _, hh, _⟩⟩ := h
    · cases e
    · injection e with e1 _ _
      injection e1 with e1
      injection e1 with e1
      subst e1
      exact frozen_of_row _ _ _ _ _ hh
theorem row_sets {base : Nat} {t : TypeId} {g n c : Nat} : ∀ (vs : List Value) (o : Nat) (w : World) (xs : List Value), w.ownsRow base t 1 (.slice (some ⟨g, 0, none⟩) n c) n xs → ∃ ys, (w.setCells g o vs).ownsRow base t 1 (.slice (some ⟨g, 0, none⟩) n c) n ys ∧ ys.take o = xs.take o
  | [], o, w, xs, h => ⟨xs, h, rfl⟩
  | v :: r, o, w, xs, h => by
    obtain ⟨ys, h1, h2⟩ := row_sets r (o + 1) _ _ (row_set h o v)
    refine ⟨ys, h1, ?_⟩
    have := congrArg (List.take o) h2
    rw [List.take_take, List.take_take, Nat.min_eq_left (Nat.le_succ o)] at this
    rw [this, List.take_set_of_le (Nat.le_refl o)]
theorem set_mid (A B : List Value) (x : Value) (h : 0 < B.length) : (A ++ B).set A.length x = (A ++ [x]) ++ B.drop 1 := by
  cases B with
  | nil => cases h
  | cons b B => simp
/-- what the first j leave, and what lies behind -/
def keepL (P : Int → Bool) (L : List Int) (j : Nat) : List Int := (L.take j).filter fun x => !P x
def laid (P : Int → Bool) (L : List Int) (j : Nat) : List Int := keepL P L j ++ L.drop (keepL P L j).length
theorem keepL_le (P : Int → Bool) (L : List Int) (j : Nat) : (keepL P L j).length ≤ j := by
  unfold keepL
  have := List.length_filter_le (fun x => !P x) (L.take j)
  have := List.length_take_le j L
  omega
theorem keepL_succ (P : Int → Bool) (L : List Int) {j : Nat} (hj : j < L.length) : keepL P L (j + 1) = keepL P L j ++ if P (L.getD j 0) then [] else [L.getD j 0] := by
  unfold keepL
  rw [List.take_succ_eq_append_getElem hj, List.filter_append]
  congr 1
  rw [List.getD_eq_getElem?_getD, List.getElem?_eq_getElem hj, Option.getD_some]
  cases h : P L[j] <;> simp [List.filter_cons, h]
theorem laid_len (P : Int → Bool) (L : List Int) {j : Nat} (hj : j ≤ L.length) : (laid P L j).length = L.length := by
  have := keepL_le P L j
  unfold laid
  rw [List.length_append, List.length_drop]
  omega
theorem laid_get (P : Int → Bool) (L : List Int) (j k : Nat) (h : (keepL P L j).length ≤ k) : (laid P L j).getD k 0 = L.getD k 0 := by
  unfold laid
  rw [List.getD_eq_getElem?_getD, List.getElem?_append_right h, List.getElem?_drop, List.getD_eq_getElem?_getD]
  congr 2
  omega
theorem laid_skip (P : Int → Bool) (L : List Int) {j : Nat} (hj : j < L.length) (hp : P (L.getD j 0) = true) : keepL P L (j + 1) = keepL P L j ∧ laid P L (j + 1) = laid P L j := by
  have h := keepL_succ P L hj
  rw [hp, if_pos rfl, List.append_nil] at h
  exact ⟨h, by unfold laid; rw [h]⟩
theorem laid_keep (P : Int → Bool) (L : List Int) {j : Nat} (hj : j < L.length) (hp : P (L.getD j 0) = false) (x : Int) (hx : x = L.getD j 0) : (keepL P L (j + 1)).length = (keepL P L j).length + 1 ∧ ((laid P L j).map (Value.int .i64)).set (keepL P L j).length (.int .i64 x) = (laid P L (j + 1)).map (Value.int .i64) := by
  have h := keepL_succ P L hj
  rw [hp, if_neg (by decide), ← hx] at h
  refine ⟨by rw [h]; simp, ?_⟩
  have hl := keepL_le P L j
  have e := set_mid ((keepL P L j).map (Value.int .i64)) ((L.drop (keepL P L j).length).map (Value.int .i64)) (.int .i64 x) (by simp; omega)
  rw [List.length_map] at e
  unfold laid
  rw [List.map_append, e, h]
  simp
theorem keepL_first (P : Int → Bool) (L : List Int) {i : Nat} (hi : i ≤ L.length) (h : ∀ j, j < i → P (L.getD j 0) = false) : keepL P L i = L.take i := by
  unfold keepL
  rw [List.filter_eq_self]
  intro x hx
  obtain ⟨j, hj, rfl⟩ := List.getElem_of_mem hx
  have hj' : j < i := by simp at hj; omega
  have := h j hj'
  rw [List.getD_eq_getElem?_getD, List.getElem?_eq_getElem (by omega)] at this
  simpa using this
theorem keepL_all (P : Int → Bool) (L : List Int) : keepL P L L.length = L.filter fun x => !P x := by unfold keepL; rw [List.take_length]
theorem laid_take (P : Int → Bool) (L : List Int) : ((laid P L L.length).map (Value.int .i64)).take (keepL P L L.length).length = (L.filter fun x => !P x).map (Value.int .i64) := by
  unfold laid
  rw [List.map_append, List.take_left' (by simp), keepL_all]
def RetD (B : Nat) (w0 : World) (L : List Int) (e : Ending) (w' : World) : Prop := ∃ v', e = .returned v' ∧ w'.ownsRow B 3 1 v' L.length (L.map (Value.int .i64)) ∧ Below w0.heap.size w0 w'
theorem zeroInt_ (w : World) : (zeroValue 3).run Try.prog w = .ok (.int .i64 0) w := by kernel_rfl
set_option maxRecDepth 100000 in
set_option maxHeartbeats 8000000 in
theorem DeleteFunc_any (w0 : World) (K : FuncId) (cap : Array Value) (B : Nat) (v : Value) (L : List Int) (P : Int → Bool) (V : PredF w0 K cap L P) (w : World) (h0 : Below w0.heap.size w0 w) (hB : w0.heap.size ≤ B) (hv : w.ownsRow B 3 1 v L.length (L.map (Value.int .i64))) (hL : L.length ≤ 9223372036854775807) : Calls Try.prog 37 #[v, .func (.func K) #[] cap] w (RetD B w0 (L.filter fun x => !P x)) := by
  have hent := V.enter
  have HV := Lib.hid V
  have HROW := Lib.hid hv
  have HIX := Lib.hid (IndexFunc_any w0 K cap v L P V w h0 (row_ints hv))
  have hsp := ixF_spec P L
  clear V
  rcases hsp with ⟨e1, hall⟩ | ⟨i, e1, hi, hpi, hlow⟩
  · have HRX := Lib.hid (fun w' (hb : Below w.heap.size w w') => show RetD B w0 (L.filter fun x => !P x) (.returned v) w' by
      have e : (L.filter fun x => !P x) = L := by
        rw [← keepL_all, keepL_first P L (Nat.le_refl _) hall, List.take_length]
      rw [e]
      exact ⟨v, rfl, row_later HROW.out hb, below_via hb h0⟩)
    have HE := Lib.hid e1
    generalize RetD B w0 (L.filter fun x => !P x) = post at *
    clear hall e1 hv
    go_enter Try.func37, Try.ntmps37
    go_wp2_with fail
    refine HIX.out.mono ?_
    rintro e w1 ⟨rfl, hb1⟩
    rw [HE.out]
    clear HIX HE
    go_wp2
    exact HRX.out _ hb1
  · obtain ⟨g, c, rfl, hgc, hcm, hgw, hgB⟩ : ∃ g c, v = .slice (some ⟨g, 0, none⟩) L.length c ∧ L.length ≤ c ∧ c ≤ maxLen ∧ g < w.heap.size ∧ B ≤ g := by
      rcases row_form hv with ⟨_, h, _⟩ | h
      · omega
      · obtain ⟨g, c, h1, h2, h3, h4, h5⟩ := h
        exact ⟨g, c, h1, h2, h3, h4, h5⟩
    unfold maxLen at hcm
    have HE := Lib.hid e1
    have K0 := Lib.hid (show (keepL P L (i + 1)).length = i ∧ laid P L (i + 1) = L by
      have h := keepL_first P L (show i ≤ L.length by omega) hlow
      obtain ⟨h1, h2⟩ := laid_skip P L hi hpi
      rw [h1, h2]
      unfold laid
      rw [h, List.length_take, Nat.min_eq_left (by omega)]
      exact ⟨rfl, List.take_append_drop i L⟩)
    have KL := Lib.hid (show (keepL P L L.length).length < L.length by
      have h1 := keepL_le P L i
      have h2 := (laid_skip P L hi hpi).1
      have up : ∀ q, i + 1 + q ≤ L.length → (keepL P L (i + 1 + q)).length ≤ i + q := by
        intro q
        induction q with
        | zero => intro _; rw [Nat.add_zero, h2]; exact h1
        | succ q ih =>
          intro hq
          rw [show i + 1 + (q + 1) = i + 1 + q + 1 by omega, keepL_succ P L (by omega), List.length_append]
          have := ih (by omega)
          split <;> simp <;> omega
      have := up (L.length - (i + 1)) (by omega)
      rw [show i + 1 + (L.length - (i + 1)) = L.length by omega] at this
      omega)
    have HRX := Lib.hid (fun w' (X : List Value) (h1 : w'.ownsRow B 3 1 (.slice (some ⟨g, 0, none⟩) L.length c) L.length X) (h2 : X.take (keepL P L L.length).length = (L.filter fun x => !P x).map (Value.int .i64)) (hb : Below w0.heap.size w0 w') => show RetD B w0 (L.filter fun x => !P x) (.returned (.slice (some ⟨g, 0, none⟩) (keepL P L L.length).length c)) w' by
      refine ⟨_, rfl, ?_, hb⟩
      have h3 := row_cut h1 (Nat.le_of_lt KL.out)
      rw [h2, keepL_all] at h3
      rw [keepL_all]
      exact h3)
    have HZ := Lib.hid (fun w => zeroInt_ w)
    generalize RetD B w0 (L.filter fun x => !P x) = post at *
    clear e1 hv hpi hlow
    go_enter Try.func37, Try.ntmps37
    go_wp2_with fail
    refine HIX.out.mono ?_
    rintro e w1 ⟨rfl, hb1⟩
    rw [HE.out]
    have R1 := Lib.hid (row_later HROW.out hb1)
    have B1 := below_via hb1 h0
    have g1 : g < w1.heap.size := by have := hb1.size; omega
    have hne1 : ((i : Int) == -1) = false := beq_eq_false_iff_ne.2 (by omega)
    clear HIX HE HROW hb1
    go_wp2
    go_loopw [5, 6] (fun a b wr => ∃ j : Nat, i < j ∧ j ≤ L.length ∧ b = .int .i64 j ∧ a = .int .i64 (keepL P L j).length ∧ Below w0.heap.size w0 wr ∧ g < wr.heap.size ∧ RowKit.Hid (wr.ownsRow B 3 1 (.slice (some ⟨g, 0, none⟩) L.length c) L.length ((laid P L j).map (Value.int .i64)))) (fun _ b _ => L.length - (intOf b).toNat)
    case atStart => exact ⟨i + 1, by omega, by omega, by go_num, by rw [K0.out.1], B1, g1, Lib.hid (by rw [K0.out.2]; exact R1.out)⟩
    case round =>
      clear R1 B1 g1
      obtain ⟨j, hij, hj, rfl, rfl, BR, gr, HR⟩ := hrel
      have hkl := keepL_le P L j
      generalize hm' : (keepL P L j).length = m at hkl ⊢
      have hm := hm'.symm
      have HM := Lib.hid hm
      clear hm'
      by_cases hlt : j < L.length
      · have hji : (j : Int) < (L.length : Int) := by omega
        have hmi : (m : Int) < (L.length : Int) := by omega
        have hll := laid_len P L hj
        obtain ⟨x, hx⟩ : ∃ x, x = L.getD j 0 := ⟨_, rfl⟩
        have HX := Lib.hid hx
        have cj : wr.cell? ⟨g, j, none⟩ = some (.int .i64 x) := by
          have := row_cells HR.out j (.int .i64 x) (by
            rw [List.getElem?_map, List.getElem?_eq_getElem (by omega)]
            have h := laid_get P L j j (by omega)
            rw [List.getD_eq_getElem?_getD, List.getElem?_eq_getElem (by omega), Option.getD_some, ← hx] at h
            rw [Option.map_some, h])
          rwa [Nat.zero_add] at this
        have hcall := HV.out.call x (by rw [hx, List.getD_eq_getElem?_getD, List.getElem?_eq_getElem hlt]; exact List.getElem_mem hlt) wr BR
        have hroom : m < L.length * 1 := by omega
        cases hp : P x with
        | true =>
          rw [hp] at hcall
          have HCL := Lib.hid hcall
          have HS := Lib.hid (laid_skip P L hlt (by rw [← HX.out]; exact hp))
          clear hcall hll hx hp hm
          go_wp2_with fail
          refine HCL.out.mono ?_
          rintro e w2 ⟨rfl, hb2⟩
          have B2 := below_via hb2 BR
          have HR2 := Lib.hid (row_later HR.out hb2)
          have g2 : g < w2.heap.size := by have := hb2.size; omega
          clear hb2 HCL HR
          go_wp2
          go_roundw
          case rel => exact ⟨j + 1, by omega, by omega, by go_num, by rw [HS.out.1, HM.out], B2, g2, Lib.hid (by rw [HS.out.2]; exact HR2.out)⟩
          case measure => simp [intOf]; omega
        | false =>
          rw [hp] at hcall
          have HCL := Lib.hid hcall
          have HS := Lib.hid (laid_keep P L hlt (by rw [← HX.out]; exact hp) x hx)
          clear hcall hll hx hp hm
          go_wp2_with fail
          refine HCL.out.mono ?_
          rintro e w2 ⟨rfl, hb2⟩
          have B2 := below_via hb2 BR
          have HR2 := Lib.hid (row_later HR.out hb2)
          have g2 : g < w2.heap.size := by have := hb2.size; omega
          obtain ⟨⟨u0, hu0⟩, f0⟩ := row_at1_ HR2.out m hroom
          clear hb2 HCL HR
          go_wp2
          go_roundw
          case rel =>
            refine ⟨j + 1, by omega, by omega, by go_num, by rw [HS.out.1, ← HM.out]; go_num, B2.setCell (by simpa using (by omega : w0.heap.size ≤ g)) _, by simpa using g2, Lib.hid ?_⟩
            have := row_set HR2.out m (.int .i64 x)
            rw [HM.out, HS.out.2] at this
            rwa [HM.out]
          case measure => simp [intOf]; omega
      · obtain rfl : j = L.length := by omega
        have hmL : m < L.length := by rw [hm]; exact KL.out
        have hmi : (m : Int) ≤ (L.length : Int) := by omega
        have hmc : (m : Int) ≤ (c : Int) := by omega
        have hmc2 : ¬ m = c := by omega
        have hcl : ∀ ty, (Builtin.clear_ #[25] ty #[.slice (some ⟨g, m, none⟩) (L.length - m) (c - m)]).run Try.prog wr = .ok (.tuple #[]) (wr.setCells g m (List.replicate (L.length - m) (.int .i64 0))) :=
          fun ty => Lib.run_clear_slice wr _ _ ty _ Try.underlying25 HZ.out rfl rfl g m _ _ (by omega) (fun t ht => by obtain ⟨⟨u, hu⟩, _⟩ := row_at1_ HR.out (m + t) (by omega); rw [hu]; rfl) (fun t ht => (row_at1_ HR.out (m + t) (by omega)).2)
        obtain ⟨X, hX1, hX2⟩ := row_sets (List.replicate (L.length - m) (.int .i64 0)) m wr _ HR.out
        have HF := Lib.hid (HRX.out _ X hX1 (by rw [← HM.out, hX2, HM.out]; exact laid_take P L) (below_setCells (by omega) _ _ _ BR))
        rw [← HM.out] at HF
        clear hX1 hX2 hlt hj HR HRX HM hm
        go_wp2
        exact HF.out
end Go.Proofs.Ytihjefncjkdnpaa
namespace Go.Proofs.Ytihjefncjkdnpaa
open Go.RowKit Go.Deep
set_option linter.unusedVariables false
set_option linter.unusedSimpArgs false

/-- a node of a tree that lies in memory -/
theorem TreeAt.node {w : World} {p : Option Addr} {c : Nat} {T : List Nd} (h : TreeAt w (.slice p T.length c) T) (n : Nat) (hn : n < T.length) : ∃ b off kv cv, p = some ⟨b, off, none⟩ ∧ b < w.heap.size ∧ IntsAt w kv (T.getD n zNd).kids ∧ ItsAt w cv (T.getD n zNd).cols ∧ w.rangeAt b (off + n * 34) (ndV (T.getD n zNd) kv cv) := by
  obtain ⟨_, _, p', c', e, _, _, hnd⟩ := h
  injection e with e1 _ e2
  subst e1 e2
  obtain ⟨b, off, e, hb, hnd⟩ := hnd (by omega)
  obtain ⟨kv, cv, hk, hc, hcl⟩ := hnd n hn
  exact ⟨b, off, kv, cv, e, hb, hk, hc, nd_range hcl⟩
theorem nd_get {T : List Nd} {n : Nat} (hn : n < T.length) : T.getD n zNd ∈ T := by
  rw [List.getD_eq_getElem?_getD, List.getElem?_eq_getElem hn]
  exact List.getElem_mem hn
theorem range_later {w w' : World} {b o B : Nat} {cs : List Value} (h : w.rangeAt b o cs) (hb : Below B w w') (hB : b < B) : w'.rangeAt b o cs := fun j v hv => by
  rw [(bcell hb).1 _ _ hB]; exact h j v hv
set_option maxRecDepth 100000 in
set_option maxHeartbeats 8000000 in
theorem order1_pred (w0 : World) (p : Option Addr) (c : Nat) (T : List Nd) (bt : Nat) (hT : TreeAt w0 (.slice p T.length c) T) (hb : w0.heap[bt]? = some (.cells #[.slice p T.length c] 24 (0, 0))) : PredF w0 39 #[.pointer (some ⟨bt, 0, none⟩)] (ordL T) (fun n => !canT T n) := by
  refine ⟨fun args w => by rfl, fun n hn W B0 => ?_⟩
  obtain ⟨i, hi, rfl⟩ := List.getElem_of_mem hn
  obtain ⟨q, hq, hqN, _⟩ := ordL_get hi
  rw [List.getD_eq_getElem?_getD, List.getElem?_eq_getElem hi, Option.getD_some] at hq
  rw [hq]
  obtain ⟨b, off, kv, cv, rfl, hbz, hk, hc, hrg⟩ := hT.node q hqN
  have hok := hT.ok _ (nd_get hqN)
  have hlen := hT.len
  have x0 := cell_of_one ((B0.block _ (lt_of_block hb)).trans hb)
  have z0 : bt < W.heap.size := by have := B0.size; have := lt_of_block hb; omega
  obtain ⟨ns, hns⟩ : ∃ ns, ns = ndV (T.getD q zNd) kv cv := ⟨_, rfl⟩
  rw [← hns] at hrg
  have RNG := Lib.hid (range_later hrg B0 hbz)
  have LEN := Lib.hid (show ns.length = 34 by rw [hns]; rfl)
  have HCAN := Lib.hid (fun w => can_any (T.getD q zNd) kv cv ns hns hok w)
  have HCT := Lib.hid (show (!canT T (q : Int)) = !canB (T.getD q zNd) from by unfold canT; rw [Int.toNat_natCast])
  have hqi : (q : Int) < (T.length : Int) := by omega
  generalize (!canT T (q : Int)) = R at *
  clear hT hb hi hn hq hk hc hns hok hrg hbz B0
  go_enter Try.func39, Try.ntmps39
  go_wp2_with ((with_reducible refine wpList_load_node ?h1 (.tmp 7) ?h2 b (off + q * 34) ?h3 ns LEN.out RNG.out ?_); (case h1 => rfl); (case h2 => rfl); (case h3 => rfl))
  refine (HCAN.out _).mono ?_
  generalize canB (T.getD q zNd) = cb at *
  rintro e w1 ⟨rfl, hb1⟩
  go_wp2
  go_ret
  exact ⟨by rw [HCT.out]; rfl, hb1⟩
set_option maxRecDepth 100000 in
set_option maxHeartbeats 8000000 in
theorem focus_Order_any (p : Option Addr) (c : Nat) (T : List Nd) (w : World) (hT : TreeAt w (.slice p T.length c) T) : Calls Try.prog 12 #[.agg #[.slice p T.length c]] w fun e w' => ∃ v, e = .returned v ∧ w'.ownsRow w.heap.size 3 1 v (fosL T).length ((fosL T).map (Value.int .i64)) ∧ Below w.heap.size w w' := by
  have hlen := hT.len
  have hmf : ∀ (fn : Fn) (first cap : Array Value) (w : World), (Instr.makeFunc fn first cap).run Try.prog w = .ok (.func fn first cap) w := fun _ _ _ _ => rfl
  have B1 : Below w.heap.size w (w.alloc (.cells #[.slice p T.length c] 24)) := below_al (Below.refl _ _) _
  have HTO := Lib.hid (tree_Order_any p c T _ (hT.later B1))
  have V := Lib.hid (order1_pred _ p c T w.heap.size (hT.later B1) (heap_alloc_new _ _))
  have hl := stepO_len T
  have HE := Lib.hid (show ((ordL T).filter fun x => !(fun n => !canT T n) x) = fosL T by unfold fosL; congr 1; funext x; simp)
  obtain ⟨W, hW⟩ : ∃ W, W = w.alloc (.cells #[.slice p T.length c] 24) := ⟨_, rfl⟩
  have hz : W.heap.size = w.heap.size + 1 := by rw [hW]; simp
  have HZ := Lib.hid hz
  have x0 : W.cell? ⟨w.heap.size, 0, none⟩ = some (.slice p T.length c) := by rw [hW]; exact cell_of_one (heap_alloc_new _ _)
  have z0 : w.heap.size < W.heap.size := by omega
  have HW := Lib.hid hW
  rw [← hW] at HTO V B1
  clear hT hz hW
  go_enter Try.func12, Try.ntmps12
  go_wp2_with fail
  rw [← HW.out]
  refine HTO.out.mono ?_
  generalize ordL T = L at *
  rintro e w1 ⟨v, rfl, own, hb1⟩
  have x1 : w1.cell? ⟨w.heap.size, 0, none⟩ = some (.slice p T.length c) := by rw [(bcell hb1).1 _ _ z0]; exact x0
  have HD := Lib.hid (DeleteFunc_any W _ _ W.heap.size v L _ V.out w1 hb1 (Nat.le_refl _) own (by omega))
  rw [HE.out] at HD
  clear V HE HTO x0 own hb1 HW
  go_wp2_with fail
  refine HD.out.mono ?_
  rintro e w2 ⟨v2, rfl, own2, hb2⟩
  have HO := Lib.hid (row_sink_ own2 (show w.heap.size ≤ W.heap.size by omega))
  have HB := below_via hb2 B1
  clear own2 hb2 HD
  go_wp2
  go_ret
  exact ⟨_, rfl, HO.out, HB⟩
end Go.Proofs.Ytihjefncjkdnpaa
namespace Go.Proofs.Ytihjefncjkdnpaa
open Go.RowKit Go.Deep
set_option linter.unusedVariables false
set_option linter.unusedSimpArgs false

set_option maxRecDepth 100000 in
set_option maxHeartbeats 4000000 in
theorem Index_any (v : Value) (L : List Int) (x : Int) (w : World) (hv : IntsAt w v L) : Calls Try.prog 41 #[v, .int .i64 x] w fun e w' => e = .returned (.int .i64 (atI L x)) ∧ w = w' := by
  obtain ⟨p, c, rfl, hl1, hl2, _, hc⟩ := hv
  have HC := Lib.hid hc
  have HRX := Lib.hid (fun (y : Int) (hy : atI L x = y) => show Ending.returned (.int .i64 y) = .returned (.int .i64 (atI L x)) by rw [hy])
  have HAT := Lib.hid (show atI L x = ixF (fun y => decide (y = x)) L from rfl)
  have hlen : L.length ≤ 9223372036854775807 := by omega
  generalize atI L x = R at *
  clear hc
  go_enter Try.func41, Try.ntmps41
  go_wp2
  go_loop [8] (fun i => ∃ k : Nat, k ≤ L.length ∧ i = .int .i64 k ∧ RowKit.Hid (∀ j, j < k → decide (L.getD j 0 = x) = false)) (fun i => L.length - (intOf i).toNat)
  case atStart => exact ⟨0, Nat.zero_le _, rfl, Lib.hid (fun j hj => absurd hj (Nat.not_lt_zero _))⟩
  case round =>
    obtain ⟨k, hk, rfl, HP⟩ := hrel
    by_cases hlt : k < L.length
    · have hki : (k : Int) < (L.length : Int) := by omega
      obtain ⟨b, off, rfl, hb, hcell⟩ := HC.out (by omega)
      have ck := hcell k hlt
      obtain ⟨y, hy⟩ : ∃ y, y = L.getD k 0 := ⟨_, rfl⟩
      have HY := Lib.hid hy
      rw [← hy] at ck
      clear hcell hy
      by_cases hp : y = x
      · have HE := Lib.hid (HRX.out _ (HAT.out.trans (ixF_hit (P := fun y => decide (y = x)) hlt (by rw [← HY.out]; simpa using hp) HP.out)))
        have hyx : (x == y) = true := by simpa using hp.symm
        clear hp HAT HRX HY
        go_wp2
        go_ret
        exact ⟨HE.out, rfl⟩
      · have hyx : (x == y) = false := by simpa using fun e => hp e.symm
        have HP' := Lib.hid (show ∀ j, j < k + 1 → decide (L.getD j 0 = x) = false from fun j hj => by
          by_cases e : j = k
          · rw [e, ← HY.out]; simpa using hp
          · exact HP.out j (by omega))
        clear hp HP HY
        go_wp2
        go_round
        case rel => exact ⟨k + 1, by omega, by go_num, HP'⟩
        case measure => simp [intOf]; omega
    · obtain rfl : k = L.length := by omega
      have HE := Lib.hid (HRX.out _ (HAT.out.trans (ixF_miss (P := fun y => decide (y = x)) HP.out)))
      clear hlt hk HP HAT HRX
      go_wp2
      go_ret
      exact ⟨HE.out, rfl⟩
theorem fosL_len (T : List Nd) : (fosL T).length ≤ 4096 := by
  unfold fosL
  have := List.length_filter_le (fun n => canT T n) (ordL T)
  have := stepO_len T
  omega
def RetN (L : List Int) (at' by' : Int) (w : World) (e : Ending) (w' : World) : Prop := e = .returned (.int .i64 (nextR L at' by')) ∧ Below w.heap.size w w'
set_option maxRecDepth 100000 in
set_option maxHeartbeats 8000000 in
theorem focus_Next_any (p : Option Addr) (c : Nat) (T : List Nd) (at' by' : Int) (w : World) (hT : TreeAt w (.slice p T.length c) T) : Calls Try.prog 14 #[.agg #[.slice p T.length c], .int .i64 at', .int .i64 by'] w (RetN (fosL T) at' by' w) := by
  have hlen := hT.len
  have HTO := Lib.hid (fun w' (hb : Below w.heap.size w w') => focus_Order_any p c T w' (hT.later hb))
  have hl := fosL_len T
  clear hT
  generalize fosL T = L at *
  have HR := Lib.hid (fun w' (x : Int) (hx : nextR L at' by' = x) (hb : Below w.heap.size w w') => show RetN L at' by' w (.returned (.int .i64 x)) w' by rw [← hx]; exact ⟨rfl, hb⟩)
  have HN := Lib.hid (show nextR L at' by' = if L.length = 0 then -1 else if atI L at' < 0 ∧ by' = 0 then -1 else stepI L (if atI L at' < 0 ∧ by' < 0 then 0 else atI L at') by' from rfl)
  have hat := atI_range L at'
  obtain ⟨h1, h2, _, _⟩ := hat
  have HIX := Lib.hid (fun (v : Value) (w : World) (hv : IntsAt w v L) => Index_any v L at' w hv)
  generalize RetN L at' by' w = post at *
  generalize atI L at' = i at *
  generalize nextR L at' by' = R at *
  go_enter Try.func14, Try.ntmps14
  go_wp2_with fail
  refine (HTO.out _ (by go_grown)).mono ?_
  rintro e w1 ⟨v, rfl, own, hb1⟩
  have B1 : Below w.heap.size w w1 := below_via hb1 (by go_grown)
  have HV := Lib.hid (row_ints own)
  clear HTO hb1
  rcases Nat.eq_zero_or_pos L.length with h0 | hpos
  · have HE := Lib.hid (HR.out w1 _ (HN.out.trans (if_pos h0)) B1)
    obtain ⟨pv, cv, rfl, _⟩ := HV.out
    have hk : ((L.length : Int) == 0) = true := by simp [h0]
    clear HR HN HIX HV own h0
    go_wp2
    exact HE.out
  · have HN1 := Lib.hid (HN.out.trans (if_neg (by omega)))
    have hk : ((L.length : Int) == 0) = false := beq_eq_false_iff_ne.2 (by omega)
    obtain ⟨pv, cv, rfl, hcv, hcv2, _, hcell⟩ := HV.out
    obtain ⟨b, off, rfl, hb, hcell⟩ := hcell hpos
    have HC := Lib.hid hcell
    have HI2 := Lib.hid (HIX.out _ w1 HV.out)
    have hkp : (0 : Int) < (L.length : Int) := by omega
    clear HN own HV HIX hcell
    obtain ⟨t1, t2⟩ := tmod_bd by' hkp
    by_cases hi : i < 0
    · rcases Int.lt_trichotomy by' 0 with hb0 | rfl | hb0
      · have HE := Lib.hid (HN1.out.trans ((if_neg (by omega)).trans (by rw [if_pos ⟨hi, hb0⟩])))
        have k0 : (by' == 0) = false := by simp; omega
        obtain ⟨u1, u2⟩ := tmod_bd (by') hkp
        obtain ⟨v1, v2⟩ := mod_range ((0) + by') hkp
        obtain ⟨q, hq⟩ : ∃ q : Nat, ((0) + by') % (L.length : Int) = (q : Int) := ⟨(((0) + by') % (L.length : Int)).toNat, by omega⟩
        have hqe : (by').tmod (L.length : Int) % (L.length : Int) = (q : Int) := by rw [tmod_emod _ hkp]; rw [Int.zero_add] at hq; exact hq
        have hqL : q < L.length := by omega
        have hqi : (q : Int) < (L.length : Int) := by omega
        have HE2 := Lib.hid (HR.out w1 (L.getD q 0) (by rw [HE.out]; unfold stepI; rw [hq, Int.toNat_natCast]) B1)
        have cq := HC.out q hqL
        generalize L.getD q 0 = y at *
        clear HR HN1 HC HE hq v1 v2
        go_wp2_with fail
        refine HI2.out.mono ?_
        rintro e w2 ⟨rfl, rfl⟩
        clear HI2
        go_wp2
        exact HE2.out
      · have HE := Lib.hid (HR.out w1 _ (HN1.out.trans (if_pos ⟨hi, rfl⟩)) B1)
        clear HR HN1 HC t1 t2
        go_wp2_with fail
        refine HI2.out.mono ?_
        rintro e w2 ⟨rfl, rfl⟩
        clear HI2
        go_wp2
        exact HE.out
      · have HE := Lib.hid (HN1.out.trans ((if_neg (fun h => by omega)).trans (by rw [if_neg (fun h => by omega)])))
        have k0 : (by' == 0) = false := by simp; omega
        obtain rfl : i = -1 := by omega
        obtain ⟨m1, m2⟩ := mod_range by' hkp
        obtain ⟨u1, u2⟩ := tmod_bd (-1 + by' % (L.length : Int)) hkp
        obtain ⟨v1, v2⟩ := mod_range ((-1) + by') hkp
        obtain ⟨q, hq⟩ : ∃ q : Nat, ((-1) + by') % (L.length : Int) = (q : Int) := ⟨(((-1) + by') % (L.length : Int)).toNat, by omega⟩
        have hqe : (-1 + by' % (L.length : Int)).tmod (L.length : Int) % (L.length : Int) = (q : Int) := by rw [tmod_emod _ hkp, Int.add_emod_emod]; exact hq
        have hqL : q < L.length := by omega
        have hqi : (q : Int) < (L.length : Int) := by omega
        have HE2 := Lib.hid (HR.out w1 (L.getD q 0) (by rw [HE.out]; unfold stepI; rw [hq, Int.toNat_natCast]) B1)
        have cq := HC.out q hqL
        generalize L.getD q 0 = y at *
        clear HR HN1 HC HE hq v1 v2
        go_wp2_with fail
        refine HI2.out.mono ?_
        rintro e w2 ⟨rfl, rfl⟩
        clear HI2
        go_wp2
        exact HE2.out
    · have HE := Lib.hid (HN1.out.trans ((if_neg (fun h => hi h.1)).trans (by rw [if_neg (fun h => hi h.1)])))
      obtain ⟨u1, u2⟩ := tmod_bd (i + by'.tmod (L.length : Int)) hkp
      obtain ⟨v1, v2⟩ := mod_range ((i) + by') hkp
      obtain ⟨q, hq⟩ : ∃ q : Nat, ((i) + by') % (L.length : Int) = (q : Int) := ⟨(((i) + by') % (L.length : Int)).toNat, by omega⟩
      have hqe : (i + by'.tmod (L.length : Int)).tmod (L.length : Int) % (L.length : Int) = (q : Int) := by rw [tmod_emod _ hkp, add_tmod i by' hkp]; exact hq
      have hqL : q < L.length := by omega
      have hqi : (q : Int) < (L.length : Int) := by omega
      have HE2 := Lib.hid (HR.out w1 (L.getD q 0) (by rw [HE.out]; unfold stepI; rw [hq, Int.toNat_natCast]) B1)
      have cq := HC.out q hqL
      generalize L.getD q 0 = y at *
      clear HR HN1 HC HE hq v1 v2
      go_wp2_with fail
      refine HI2.out.mono ?_
      rintro e w2 ⟨rfl, rfl⟩
      clear HI2
      go_wp2
      exact HE2.out
end Go.Proofs.Ytihjefncjkdnpaa
namespace Go.Proofs.Ytihjefncjkdnpaa
open Go.RowKit Go.Deep
set_option linter.unusedVariables false
set_option linter.unusedSimpArgs false

def rightB (T : List Nd) : Bool := decide ((checkT T).1 = 0)
set_option maxRecDepth 100000 in
set_option maxHeartbeats 4000000 in
theorem ref_right_any (p : Option Addr) (c : Nat) (T : List Nd) (w : World) (hT : TreeAt w (.slice p T.length c) T) : Calls Try.prog 34 #[.agg #[.slice p T.length c]] w fun e w' => e = .returned (.bool (rightB T)) ∧ Below w.heap.size w w' := by
  have HT := Lib.hid hT
  obtain ⟨cd, hcd⟩ : ∃ z, z = (checkT T).1 := ⟨_, rfl⟩
  have HCD := Lib.hid hcd
  have HR := Lib.hid (show rightB T = (cd == 0) by unfold rightB; rw [← hcd]; rfl)
  generalize rightB T = R at *
  clear hT hcd
  go_enter Try.func34, Try.ntmps34
  go_wp2_with fail
  refine (ref_Check_any p c T _ (HT.out.later (by go_grown))).mono ?_
  rw [← HCD.out]
  generalize (checkT T).2 = c2 at *
  rintro e w1 ⟨rfl, hb1⟩
  have B1 : Below w.heap.size w w1 := below_via hb1 (by go_grown)
  clear hb1
  go_wp2
  go_ret
  exact ⟨by rw [HR.out]; rfl, B1⟩
set_option maxRecDepth 100000 in
set_option maxHeartbeats 4000000 in
theorem Can_cells (f : FuncId) (cs : List Value) (kd fl : Int) (hf : f = 36) (h0 : cs[0]? = some (.int .i8 kd)) (h33 : cs[33]? = some (.int .u8 fl)) (hr0 : 0 ≤ fl) (hr1 : fl ≤ 255) (w : World) : Calls Try.prog f #[.agg cs.toArray] w fun e w' => e = .returned (.bool (decide (kd = 7) || decide (fl % 2 = 1))) ∧ Below w.heap.size w w' := by
  subst hf
  have c0 := box_node w cs 53 0
  have c33 := box_node w cs 53 33
  rw [h0] at c0
  rw [h33] at c33
  clear h0 h33
  by_cases hk : kd = 7
  · have hk' : (kd == 7) = true := by simpa using hk
    have e : (decide (kd = 7) || decide (fl % 2 = 1)) = true := by simp [hk]
    rw [e]
    clear e hk
    go_enter Try.func36, Try.ntmps36
    go_wp2
    go_ret
    exact ⟨rfl, by go_grown⟩
  · have hk' : (kd == 7) = false := by simpa using hk
    obtain ⟨r, hr⟩ : ∃ r, r = decide (fl % 2 = 1) := ⟨_, rfl⟩
    have e : (decide (kd = 7) || decide (fl % 2 = 1)) = r := by simp [hk, hr]
    have hr' : (fl % 2 == 1) = r := by rw [hr]; rfl
    rw [e]
    clear e hk hr
    go_enter Try.func36, Try.ntmps36
    go_wp2
    go_ret
    exact ⟨rfl, by go_grown⟩
theorem Can_any (x : Nd) (kv cv : Value) (cs : List Value) (hcs : cs = ndV x kv cv) (hx : NdOk x) (w : World) : Calls Try.prog 36 #[.agg cs.toArray] w fun e w' => e = .returned (.bool (canB x)) ∧ Below w.heap.size w w' :=
  Can_cells _ cs x.kind x.flags rfl (by rw [hcs]; rfl) (by rw [hcs]; rfl) hx.flags.1 hx.flags.2 w
def canUp (T : List Nd) (L : List Int) (j : Nat) : List Int := (L.take j).filter fun n => canT T n
theorem canUp_succ (T : List Nd) (L : List Int) {j : Nat} (hj : j < L.length) (x : Int) (hx : L.getD j 0 = x) : (canT T x = true → canUp T L (j + 1) = canUp T L j ++ [x]) ∧ (canT T x = false → canUp T L (j + 1) = canUp T L j) := by
  rw [List.getD_eq_getElem?_getD, List.getElem?_eq_getElem hj, Option.getD_some] at hx
  unfold canUp
  rw [List.take_succ_eq_append_getElem hj, List.filter_append, hx]
  exact ⟨fun h => by simp [h], fun h => by simp [h]⟩
theorem canUp_le (T : List Nd) (L : List Int) (j : Nat) : (canUp T L j).length ≤ j := by
  unfold canUp
  have := List.length_filter_le (fun n => canT T n) (L.take j)
  have := List.length_take_le j L
  omega
set_option maxRecDepth 100000 in
set_option maxHeartbeats 8000000 in
theorem ref_focus_Order_any (p : Option Addr) (c : Nat) (T : List Nd) (w : World) (hT : TreeAt w (.slice p T.length c) T) : Calls Try.prog 10 #[.agg #[.slice p T.length c]] w fun e w' => ∃ v, e = .returned v ∧ w'.ownsRow w.heap.size 3 1 v (fosL T).length ((fosL T).map (Value.int .i64)) ∧ Below w.heap.size w w' := by
  obtain ⟨i0, hi, hz0, hz1, hz2⟩ := info_parts infoIntO
  have HI := Lib.hid (And.intro hi (And.intro hz0 (And.intro hz1 hz2)))
  have HT := Lib.hid hT
  have hlen := hT.len
  obtain ⟨r, hr⟩ : ∃ r, r = rightB T := ⟨_, rfl⟩
  have HRB := Lib.hid hr
  have HP := Lib.hid (fun (X : List Int) (hX : fosL T = X) v w' (h1 : w'.ownsRow w.heap.size 3 1 v X.length (X.map (Value.int .i64))) (h2 : Below w.heap.size w w') => show ∃ v', Ending.returned v = .returned v' ∧ w'.ownsRow w.heap.size 3 1 v' (fosL T).length ((fosL T).map (Value.int .i64)) ∧ Below w.heap.size w w' from ⟨v, rfl, by rw [hX]; exact h1, h2⟩)
  clear hi hz0 hz1 hz2 hT hr
  go_enter Try.func10, Try.ntmps10
  go_wp2_with fail
  refine (ref_right_any p c T _ (HT.out.later (by go_grown))).mono ?_
  rw [← HRB.out]
  rintro e w1 ⟨rfl, hb1⟩
  have B1 : Below w.heap.size w w1 := below_via hb1 (by go_grown)
  have x1 : w1.cell? ⟨w.heap.size, 0, none⟩ = some (.slice p T.length c) := by rw [(bcell hb1).1 _ _ (by simp)]; simp [go_sem]
  have z1 : w.heap.size < w1.heap.size := by have := hb1.size; simp at this; omega
  clear hb1
  cases r with
  | false =>
    have HE := Lib.hid (show fosL T = [] by
      unfold fosL
      rw [ordL_wrong (fun h => by have := HRB.out; unfold rightB at this; rw [h] at this; simp at this)]; rfl)
    have HR := Lib.hid (HP.out [] HE.out (.slice none 0 0) w1 ⟨rfl, .inl ⟨rfl, rfl⟩⟩ B1)
    clear HP HE HRB
    go_wp2
    go_ret
    exact HR.out
  | true =>
    clear HRB
    go_wp2_with fail
    refine (ref_Order_any p c T _ (HT.out.later B1)).mono ?_
    have HG := Lib.hid (fun i (hi : i < (ordL T).length) => ordL_get hi)
    have hl := stepO_len T
    have HFO := Lib.hid (show fosL T = canUp T (ordL T) (ordL T).length by unfold fosL canUp; rw [List.take_length])
    generalize ordL T = L at *
    rintro e w2 ⟨v, rfl, own, hb2⟩
    have B2 := below_via hb2 B1
    have x2 : w2.cell? ⟨w.heap.size, 0, none⟩ = some (.slice p T.length c) := by rw [(bcell hb2).1 _ _ z1]; exact x1
    have z2 : w.heap.size < w2.heap.size := by have := hb2.size; omega
    have HV := Lib.hid (row_ints own)
    obtain ⟨pv, cv, rfl, hcv, hcv2, _, hcell⟩ := HV.out
    have HC := Lib.hid hcell
    clear hb2 own hcell x1 z1 B1 HV
    go_wp2
    go_loopw [6, 3] (fun i lv wr => ∃ j : Nat, j ≤ L.length ∧ i = .int .i64 j ∧ RowKit.Hid (wr.ownsRow w2.heap.size 3 1 lv (canUp T L j).length ((canUp T L j).map (Value.int .i64))) ∧ Below w2.heap.size w2 wr) (fun i _ _ => L.length - (intOf i).toNat)
    case atStart => exact ⟨0, Nat.zero_le _, rfl, Lib.hid ⟨rfl, .inl ⟨rfl, rfl⟩⟩, Below.refl _ _⟩
    case round =>
      obtain ⟨j, hj, rfl, HO, BR⟩ := hrel
      have zr := BR.size
      have xr : wr.cell? ⟨w.heap.size, 0, none⟩ = some (.slice p T.length c) := by rw [(bcell BR).1 _ _ z2]; exact x2
      have zwr : w.heap.size < wr.heap.size := by omega
      by_cases hlt : j < L.length
      · have hji : (j : Int) < (L.length : Int) := by omega
        obtain ⟨bv, ov, rfl, hbv, hcell⟩ := HC.out (by omega)
        have cj := hcell j hlt
        rw [← (bcell BR).1 _ _ hbv] at cj
        have hbvw : bv < wr.heap.size := by omega
        obtain ⟨q, hq, hqN, _⟩ := HG.out j hlt
        rw [hq] at cj
        have hqi : (q : Int) < (T.length : Int) := by omega
        have hqm : (q : Int) < 9223372036854775807 := by omega
        have BWR := below_via BR B2
        obtain ⟨b, off, kv, cvn, rfl, hbz, hk, hcn, hrg⟩ := HT.out.node q hqN
        have hok := HT.out.ok _ (nd_get hqN)
        obtain ⟨ns, hns⟩ : ∃ ns, ns = ndV (T.getD q zNd) kv cvn := ⟨_, rfl⟩
        rw [← hns] at hrg
        have LEN := Lib.hid (show ns.length = 34 by rw [hns]; rfl)
        have HRG := Lib.hid (fun w' (h : Below wr.heap.size wr w') => range_later hrg (below_via h BWR) hbz)
        have HCAN := Lib.hid (fun w => Can_any (T.getD q zNd) kv cvn ns hns hok w)
        have HCU := Lib.hid (canUp_succ T L hlt (q : Int) hq)
        have HCT := Lib.hid (show canT T (q : Int) = canB (T.getD q zNd) by unfold canT; rw [Int.toNat_natCast])
        generalize canB (T.getD q zNd) = cb at *
        have hcl := canUp_le T L j
        have HSF := Lib.hid (fun w' (h : Below wr.heap.size wr w') => show (w'.cell? ⟨w.heap.size, 0, none⟩ = some (.slice (some ⟨b, off, none⟩) T.length c) ∧ w'.cell? ⟨bv, ov + j, none⟩ = some (.int .i64 q)) from by
          obtain ⟨hc, _⟩ := bcell h
          refine ⟨?_, ?_⟩ <;> (rw [hc _ _ (by assumption)]; assumption))
        clear hcell hq hk hcn hrg hok hns
        go_upto_region 9 with (fail)
        refine wp_region_noPanic ?_
        refine wp_region_lexH (fun w' => Below wr.heap.size wr w') (by kernel_rfl) (by kernel_rfl) (fun _ _ _ _ _ h => h) (Below.drew (Below.refl _ _)) ?_
        apply lexH_run (by rfl)
        · (intro w h; clear h; go_simp; try rfl)
        (try simp only [Act.put, List.setIfInBounds_toArray, List.set_cons_zero, List.set_cons_succ])
        apply lexH_run (by rfl)
        · (intro w h; have FK := HSF.out w h; clear h; go_split_ands; go_simp; try rfl)
        (try simp only [Act.put, List.setIfInBounds_toArray, List.set_cons_zero, List.set_cons_succ])
        apply lexH_run (by rfl)
        · (intro w h; clear h; go_simp; try rfl)
        (try simp only [Act.put, List.setIfInBounds_toArray, List.set_cons_zero, List.set_cons_succ])
        apply lexH_run (by rfl)
        · (intro w h; clear h; go_simp; try rfl)
        (try simp only [Act.put, List.setIfInBounds_toArray, List.set_cons_zero, List.set_cons_succ])
        apply lexH_run (by rfl)
        · (intro w h; clear h; go_simp; try rfl)
        (try simp only [Act.put, List.setIfInBounds_toArray, List.set_cons_zero, List.set_cons_succ])
        apply lexH_run (by rfl)
        · (intro w h; have FK := HSF.out w h; clear h; go_split_ands; go_simp; try rfl)
        (try simp only [Act.put, List.setIfInBounds_toArray, List.set_cons_zero, List.set_cons_succ])
        apply lexH_run (by rfl)
        · (intro w h; clear h; go_simp; try rfl)
        (try simp only [Act.put, List.setIfInBounds_toArray, List.set_cons_zero, List.set_cons_succ])
        refine lexH_load (by rfl) 53 (.tmp 27) rfl b (off + q * 34) (by go_simp; try rfl) ns _ (fun w h => HRG.out w h) Try.underlying53 rfl (by rw [LEN.out]; exact infoN) ?_
        (try simp only [Act.put, List.setIfInBounds_toArray, List.set_cons_zero, List.set_cons_succ])
        refine lexH_call (by kernel_rfl) (by rfl) (by go_simp; first | exact ⟨rfl, rfl⟩ | rfl) ?_
        intro hS
        refine (HCAN.out _).mono ?_
        rintro e w3 ⟨rfl, hb3⟩
        have HB3 := Lib.hid (below_via hb3 hS)
        refine ⟨_, rfl, HB3.out, ?_⟩
        clear hb3 hS HCAN HRG LEN
        (try simp only [Act.put, List.setIfInBounds_toArray, List.set_cons_zero, List.set_cons_succ])
        apply lexH_run (by rfl)
        · (intro w h; clear h; go_simp; try rfl)
        (try simp only [Act.put, List.setIfInBounds_toArray, List.set_cons_zero, List.set_cons_succ])
        apply lexH_nil
        refine NoPanic.normal ?_
        cases cb with
        | true =>
          have HN := Lib.hid (HCU.out.1 HCT.out)
          have OWN3 := Lib.hid ((row_later HO.out HB3.out).alloc (.cells #[.int .i64 q] 3))
          have HON := Lib.hid (show ∀ u ∈ [Value.int .i64 (q : Int)], u.oneCell' = true from fun u hu => by simp at hu; rcases hu with rfl; rfl)
          have h63 : (canUp T L j).length + 1 ≤ maxLen := by unfold maxLen; omega
          have z3 := HB3.out.size
          have c3 : w3.cell? ⟨bv, ov + j, none⟩ = some (.int .i64 q) := (HSF.out _ HB3.out).2
          have hbv3 : bv < w3.heap.size := by omega
          clear HCU HCT HSF xr cj x2 z2 hqN hqi
          go_wp2_with (at_builtin; go_must (refine append_keep rfl (.tmp 31) (.tmp 36) 25 rfl w2.heap.size 3 i0 _ 1 8 Try.underlying25 HI.out.1 HI.out.2.1 HI.out.2.2.1 HI.out.2.2.2 rfl (by decide) _ (canUp T L j).length _ rfl OWN3.out ⟨w3.heap.size, 0, none⟩ 1 1 [.int .i64 (q : Int)] rfl rfl ?n1 HON.out h63 ?n2 ?n3 ?_))
          try case n1 => exact World.news_of_block (cs := #[.int .i64 (q : Int)]) (t := 3) (fr := (0, 0)) (heap_alloc_new w3 _)
          case n2 => omega
          case n3 => first | omega | (simp; omega)
          intro v' w4 own4 gr pl
          have HO4 := Lib.hid (show w4.ownsRow w2.heap.size 3 1 v' (canUp T L (j + 1)).length ((canUp T L (j + 1)).map (Value.int .i64)) by rw [HN.out]; simpa using own4)
          have B4 : Below w2.heap.size w2 w4 := Below.grown ((below_via HB3.out BR).alloc (by omega) _) gr (by simp; omega) (fun k hk => (row_lt HO.out k hk).2)
          clear own4 gr pl HO OWN3 HON HN
          go_wp2
          go_roundw
          case rel => exact ⟨j + 1, by omega, by go_num, HO4, B4⟩
          case measure => simp [intOf]; omega
        | false =>
          have HN := Lib.hid (HCU.out.2 HCT.out)
          have HO4 := Lib.hid (show w3.ownsRow w2.heap.size 3 1 u3 (canUp T L (j + 1)).length ((canUp T L (j + 1)).map (Value.int .i64)) by rw [HN.out]; exact row_later HO.out HB3.out)
          have B4 := below_via HB3.out BR
          clear HCU HCT HSF xr cj x2 z2 hqN hqi HO HN
          go_wp2
          go_roundw
          case rel => exact ⟨j + 1, by omega, by go_num, HO4, B4⟩
          case measure => simp [intOf]; omega
      · obtain rfl : j = L.length := by omega
        have HR := Lib.hid (HP.out _ HFO.out u3 wr (row_sink_ HO.out (by omega)) (below_via BR B2))
        clear hlt hj HO HP HFO
        go_wp2
        go_ret
        exact HR.out
end Go.Proofs.Ytihjefncjkdnpaa
namespace Go.Proofs.Ytihjefncjkdnpaa
open Go.RowKit Go.Deep
set_option linter.unusedVariables false
set_option linter.unusedSimpArgs false

set_option maxRecDepth 100000 in
set_option maxHeartbeats 4000000 in
theorem ref_mod_any (x : Int) (k : Nat) (hk : 0 < k) (hk2 : k ≤ 4096) (w : World) : Calls Try.prog 42 #[.int .i64 x, .int .i64 (k : Int)] w fun e w' => e = .returned (.int .i64 (x % (k : Int))) ∧ w = w' := by
  have hkp : (0 : Int) < (k : Int) := by omega
  have hk4 : (k : Int) ≤ 4096 := by omega
  obtain ⟨h1, h2⟩ := mod_of x hkp
  obtain ⟨t1, t2⟩ := tmod_bd x hkp
  obtain ⟨e1, e2⟩ := mod_range x hkp
  have HE1 := Lib.hid h1
  have HE2 := Lib.hid h2
  have HM := Lib.hid (show 0 ≤ x → x.tmod (k : Int) = x % (k : Int) from fun h => Int.tmod_eq_emod_of_nonneg h)
  obtain ⟨r, hr⟩ : ∃ r, r = x % (k : Int) := ⟨_, rfl⟩
  rcases Int.lt_or_le x 0 with hx | hx
  · rcases Int.lt_or_le (x.tmod (k : Int)) 0 with hn | hn
    · have HF := Lib.hid (h2 hn)
      clear h1 h2 HE1 HE2 HM hr e1 e2
      go_enter Try.func42, Try.ntmps42
      go_wp2
      go_ret
      exact ⟨by rw [← HF.out]; rfl, rfl⟩
    · have HF := Lib.hid (h1 hn)
      clear h1 h2 HE1 HE2 HM hr e1 e2
      go_enter Try.func42, Try.ntmps42
      go_wp2
      go_ret
      exact ⟨by rw [← HF.out]; rfl, rfl⟩
  · clear h1 h2 HE1 HE2 HM hr t1 t2
    go_enter Try.func42, Try.ntmps42
    go_wp2
    go_ret
    exact ⟨rfl, rfl⟩
/-- the last place -/
def lastI (L : List Int) (x : Int) : Nat → Int
  | 0 => -1
  | j + 1 => if L.getD j 0 = x then (j : Int) else lastI L x j
theorem lastI_range (L : List Int) (x : Int) : ∀ j, -1 ≤ lastI L x j ∧ lastI L x j < (j : Int)
  | 0 => by simp [lastI]
  | j + 1 => by
    have := lastI_range L x j
    rw [lastI]
    split <;> omega
theorem lastI_spec (L : List Int) (x : Int) : ∀ j, j ≤ L.length → (lastI L x j < 0 ∧ ∀ i, i < j → L.getD i 0 ≠ x) ∨ ∃ i : Nat, lastI L x j = i ∧ i < j ∧ L.getD i 0 = x
  | 0, _ => .inl ⟨by simp [lastI], fun i hi => by omega⟩
  | j + 1, hj => by
    rw [lastI]
    by_cases h : L.getD j 0 = x
    · rw [if_pos h]; exact .inr ⟨j, rfl, by omega, h⟩
    · rw [if_neg h]
      rcases lastI_spec L x j (by omega) with ⟨h1, h2⟩ | ⟨i, h1, h2, h3⟩
      · left
        refine ⟨h1, fun i hi => ?_⟩
        by_cases e : i = j
        · rw [e]; exact h
        · exact h2 i (by omega)
      · exact .inr ⟨i, h1, by omega, h3⟩
/-- in a list without repetition: the first place is the last -/
theorem lastI_first {L : List Int} (hd : L.Nodup) (x : Int) : lastI L x L.length = atI L x := by
  unfold atI
  rcases ixF_spec (fun y => decide (y = x)) L with ⟨e, h⟩ | ⟨i, e, hi, h, _⟩
  · rw [e]
    rcases lastI_spec L x L.length (Nat.le_refl _) with ⟨h1, _⟩ | ⟨i, _, h2, h3⟩
    · have := lastI_range L x L.length; omega
    · have := h i h2; simp at this; exact absurd h3 this
  · rw [e]
    have hx : L.getD i 0 = x := by simpa using h
    rcases lastI_spec L x L.length (Nat.le_refl _) with ⟨_, h2⟩ | ⟨k, h1, h2, h3⟩
    · exact absurd hx (h2 i hi)
    · rw [h1]
      rw [List.getD_eq_getElem?_getD, List.getElem?_eq_getElem hi, Option.getD_some] at hx
      rw [List.getD_eq_getElem?_getD, List.getElem?_eq_getElem h2, Option.getD_some] at h3
      have hp := List.pairwise_iff_getElem.1 hd
      rcases Nat.lt_trichotomy k i with hki | hki | hki
      · exact absurd (h3.trans hx.symm) (hp k i h2 hi hki)
      · rw [hki]
      · exact absurd (hx.trans h3.symm) (hp i k hi h2 hki)
theorem fosL_nodup (T : List Nd) : (fosL T).Nodup := by
  unfold fosL ordL
  have h : ((ordN T).map Int.ofNat).Nodup := List.pairwise_map.2 ((ordN_nodup T).imp fun hne e => hne (Int.ofNat.inj e))
  exact List.Pairwise.filter _ h
set_option maxRecDepth 100000 in
set_option maxHeartbeats 8000000 in
theorem ref_Next_any (p : Option Addr) (c : Nat) (T : List Nd) (at' by' : Int) (w : World) (hT : TreeAt w (.slice p T.length c) T) : Calls Try.prog 15 #[.agg #[.slice p T.length c], .int .i64 at', .int .i64 by'] w (RetN (fosL T) at' by' w) := by
  have hlen := hT.len
  have HTO := Lib.hid (fun w' (hb : Below w.heap.size w w') => ref_focus_Order_any p c T w' (hT.later hb))
  have hl := fosL_len T
  have HND := Lib.hid (fosL_nodup T)
  clear hT
  generalize fosL T = L at *
  have HR := Lib.hid (fun w' (x : Int) (hx : nextR L at' by' = x) (hb : Below w.heap.size w w') => show RetN L at' by' w (.returned (.int .i64 x)) w' by rw [← hx]; exact ⟨rfl, hb⟩)
  have HN := Lib.hid (show nextR L at' by' = if L.length = 0 then -1 else if atI L at' < 0 ∧ by' = 0 then -1 else stepI L (if atI L at' < 0 ∧ by' < 0 then 0 else atI L at') by' from rfl)
  have hat := atI_range L at'
  obtain ⟨h1, h2, _, _⟩ := hat
  have HLI := Lib.hid (lastI_first HND.out at')
  generalize RetN L at' by' w = post at *
  generalize atI L at' = i at *
  generalize nextR L at' by' = R at *
  go_enter Try.func15, Try.ntmps15
  go_wp2_with fail
  refine (HTO.out _ (by go_grown)).mono ?_
  rintro e w1 ⟨v, rfl, own, hb1⟩
  have B1 : Below w.heap.size w w1 := below_via hb1 (by go_grown)
  have HV := Lib.hid (row_ints own)
  clear HTO hb1
  rcases Nat.eq_zero_or_pos L.length with h0 | hpos
  · have HE := Lib.hid (HR.out w1 _ (HN.out.trans (if_pos h0)) B1)
    obtain ⟨pv, cv, rfl, _⟩ := HV.out
    have hk : ((L.length : Int) == 0) = true := by simp [h0]
    clear HR HN HV own h0
    go_wp2
    exact HE.out
  · have HN1 := Lib.hid (HN.out.trans (if_neg (by omega)))
    have hk : ((L.length : Int) == 0) = false := beq_eq_false_iff_ne.2 (by omega)
    obtain ⟨pv, cv, rfl, hcv, hcv2, _, hcell⟩ := HV.out
    obtain ⟨b, off, rfl, hb, hcell⟩ := hcell hpos
    have HC := Lib.hid hcell
    have hkp : (0 : Int) < (L.length : Int) := by omega
    clear HN own HV hcell
    go_wp2
    go_loop [10, 9] (fun jv iv => ∃ j : Nat, j ≤ L.length ∧ jv = .int .i64 j ∧ iv = .int .i64 (lastI L at' j)) (fun jv _ => L.length - (intOf jv).toNat)
    case atStart => exact ⟨0, Nat.zero_le _, rfl, rfl⟩
    case round =>
      obtain ⟨j, hj, rfl, rfl⟩ := hrel
      by_cases hlt : j < L.length
      · have hji : (j : Int) < (L.length : Int) := by omega
        have cj := HC.out j hlt
        have HS := Lib.hid (show lastI L at' (j + 1) = if L.getD j 0 = at' then (j : Int) else lastI L at' j from rfl)
        obtain ⟨y, hy⟩ : ∃ y, y = L.getD j 0 := ⟨_, rfl⟩
        rw [← hy] at cj HS
        clear hy
        generalize lastI L at' j = la at *
        by_cases he : y = at'
        · have HS2 := Lib.hid (HS.out.trans (if_pos he))
          have hye : (y == at') = true := by simpa using he
          clear HS he
          go_wp2
          go_round
          case rel => exact ⟨j + 1, by omega, by go_num, by rw [HS2.out]⟩
          case measure => simp [intOf]; omega
        · have HS2 := Lib.hid (HS.out.trans (if_neg he))
          have hye : (y == at') = false := by simpa using he
          clear HS he
          go_wp2
          go_round
          case rel => exact ⟨j + 1, by omega, by go_num, by rw [HS2.out]⟩
          case measure => simp [intOf]; omega
      · obtain rfl : j = L.length := by omega
        rw [HLI.out]
        clear hlt hj HLI
        have HMOD := Lib.hid (fun (x : Int) (w : World) => ref_mod_any x L.length hpos hl w)
        by_cases hi : i < 0
        · rcases Int.lt_trichotomy by' 0 with hb0 | rfl | hb0
          · have HE := Lib.hid (HN1.out.trans ((if_neg (fun h => by omega)).trans (by rw [if_pos ⟨hi, hb0⟩])))
            have k0 : (by' == 0) = false := by simp; omega
            obtain ⟨v1, v2⟩ := mod_range ((0) + by') hkp
            obtain ⟨a1, a2⟩ := mod_range ((L.length : Int)) hkp
            obtain ⟨b1, b2⟩ := mod_range by' hkp
            obtain ⟨q, hq⟩ : ∃ q : Nat, ((0) + by') % (L.length : Int) = (q : Int) := ⟨(((0) + by') % (L.length : Int)).toNat, by omega⟩
            have hqL : q < L.length := by omega
            have hqi : (q : Int) < (L.length : Int) := by omega
            have hq0 : by' % (L.length : Int) = (q : Int) := (by rw [Int.zero_add] at hq; exact hq)
            have hq1 : (q : Int) % (L.length : Int) = (q : Int) := Int.emod_eq_of_lt (Int.natCast_nonneg q) hqi
            clear hq b1 b2 a1 a2
            have HE2 := Lib.hid (HR.out w1 (L.getD q 0) (by rw [HE.out]; unfold stepI; rw [Int.zero_add, hq0]; rw [Int.toNat_natCast]) B1)
            have cq := HC.out q hqL
            generalize L.getD q 0 = y at *
            clear HR HN1 HC HE v1 v2
            go_wp2_with ((refine (HMOD.out _ _).mono ?_); rintro e w2 ⟨rfl, rfl⟩)
            exact HE2.out
          · have HE := Lib.hid (HR.out w1 _ (HN1.out.trans (if_pos ⟨hi, rfl⟩)) B1)
            clear HR HN1 HC
            go_wp2
            exact HE.out
          · have HE := Lib.hid (HN1.out.trans ((if_neg (fun h => by omega)).trans (by rw [if_neg (fun h => by omega)])))
            have k0 : (by' == 0) = false := by simp; omega
            obtain ⟨v1, v2⟩ := mod_range ((i) + by') hkp
            obtain ⟨a1, a2⟩ := mod_range (i) hkp
            obtain ⟨b1, b2⟩ := mod_range by' hkp
            obtain ⟨q, hq⟩ : ∃ q : Nat, ((i) + by') % (L.length : Int) = (q : Int) := ⟨(((i) + by') % (L.length : Int)).toNat, by omega⟩
            have hqL : q < L.length := by omega
            have hqi : (q : Int) < (L.length : Int) := by omega
            have hq0 := hq
            clear hq
            have HE2 := Lib.hid (HR.out w1 (L.getD q 0) (by rw [HE.out]; unfold stepI; rw [hq0]; rw [Int.toNat_natCast]) B1)
            have cq := HC.out q hqL
            generalize L.getD q 0 = y at *
            clear HR HN1 HC HE v1 v2
            go_wp2_with ((refine (HMOD.out _ _).mono ?_); rintro e w2 ⟨rfl, rfl⟩)
            exact HE2.out
        · have HE := Lib.hid (HN1.out.trans ((if_neg (fun h => hi h.1)).trans (by rw [if_neg (fun h => hi h.1)])))
          obtain ⟨v1, v2⟩ := mod_range ((i) + by') hkp
          obtain ⟨a1, a2⟩ := mod_range (i) hkp
          obtain ⟨b1, b2⟩ := mod_range by' hkp
          obtain ⟨q, hq⟩ : ∃ q : Nat, ((i) + by') % (L.length : Int) = (q : Int) := ⟨(((i) + by') % (L.length : Int)).toNat, by omega⟩
          have hqL : q < L.length := by omega
          have hqi : (q : Int) < (L.length : Int) := by omega
          have hq0 := hq
          clear hq
          have HE2 := Lib.hid (HR.out w1 (L.getD q 0) (by rw [HE.out]; unfold stepI; rw [hq0]; rw [Int.toNat_natCast]) B1)
          have cq := HC.out q hqL
          generalize L.getD q 0 = y at *
          clear HR HN1 HC HE v1 v2
          go_wp2_with ((refine (HMOD.out _ _).mono ?_); rintro e w2 ⟨rfl, rfl⟩)
          exact HE2.out
end Go.Proofs.Ytihjefncjkdnpaa
namespace Go.Proofs.Ytihjefncjkdnpaa
open Go.RowKit Go.Deep
set_option linter.unusedVariables false
set_option linter.unusedSimpArgs false

/-- a node read whole, where a guard lets it -/
theorem wpList_load_node_on {ops : Array Oper} {rest : List Oper} {op : Oper} {a : Act} {w : World} {Q : Exit → Act → World → Prop} (hw : Region.wanted op (yielded ops a.tmps) = true) (x : Operand) (ho : op.op = .load 53 x) (b o : Nat) (hx : a.eval x = .pointer (some ⟨b, o, none⟩)) (cs : List Value) (hl : cs.length = 34) (hc : w.rangeAt b o cs)
    (h : wpList Try.prog ops Q rest (a.put op.dst (.agg cs.toArray)) w) : wpList Try.prog ops Q (op :: rest) a w :=
  wpList_step fun K hK => by
    rw [if_pos hw]
    exact wp_load_mid _ x ho b o hx cs _ hc Try.underlying53 rfl (by rw [hl]; exact infoN) (hK _ _ h)
/-- who has the focus in another tree -/
def carryN (old now : List Nd) (i : Int) : Int :=
  if (checkT old).1 = 0 ∧ 0 ≤ i ∧ i < (old.length : Int) then (if 0 ≤ findR now (old.getD i.toNat zNd).id ∧ canT now (findR now (old.getD i.toNat zNd).id) = true then findR now (old.getD i.toNat zNd).id else -1) else -1
def RetC (old now : List Nd) (i : Int) (w : World) (e : Ending) (w' : World) : Prop := e = .returned (.int .i64 (carryN old now i)) ∧ Below w.heap.size w w'
set_option maxRecDepth 100000 in
set_option maxHeartbeats 8000000 in
theorem focus_Carry_any (po pn : Option Addr) (co cn : Nat) (old now : List Nd) (i : Int) (w : World) (ho : TreeAt w (.slice po old.length co) old) (hn : TreeAt w (.slice pn now.length cn) now) : Calls Try.prog 18 #[.agg #[.slice po old.length co], .agg #[.slice pn now.length cn], .int .i64 i] w (RetC old now i w) := by
  have HTO := Lib.hid ho
  have HTN := Lib.hid hn
  have hlo := ho.len
  have hln := hn.len
  have HP := Lib.hid (fun w' (x : Int) (hx : carryN old now i = x) (hb : Below w.heap.size w w') => show RetC old now i w (.returned (.int .i64 x)) w' by rw [← hx]; exact ⟨rfl, hb⟩)
  obtain ⟨cd, hcd⟩ : ∃ z, z = (checkT old).1 := ⟨_, rfl⟩
  have HCD := Lib.hid hcd
  have HF := Lib.hid (show carryN old now i = if (checkT old).1 = 0 ∧ 0 ≤ i ∧ i < (old.length : Int) then (if 0 ≤ findR now (old.getD i.toNat zNd).id ∧ canT now (findR now (old.getD i.toNat zNd).id) = true then findR now (old.getD i.toNat zNd).id else -1) else -1 from rfl)
  generalize RetC old now i w = post at *
  generalize carryN old now i = R at *
  clear ho hn hcd
  go_enter Try.func18, Try.ntmps18
  go_wp2_with fail
  refine (tree_Check_any po co old _ (HTO.out.later (by go_grown))).mono ?_
  rw [← HCD.out]
  generalize (checkT old).2 = c2 at *
  rintro e w1 ⟨rfl, hb1⟩
  have B1 : Below w.heap.size w w1 := below_via hb1 (by go_grown)
  have t0 := (hb1.block w.heap.size (by simp; omega)).trans ((heap_alloc_old _ _ (by simp)).trans (heap_alloc_new _ _))
  have t1 : w1.heap[w.heap.size + 1]? = some (.cells #[.slice pn now.length cn] 24 (0, 0)) := by
    have := heap_alloc_new (w.alloc (.cells #[.slice po old.length co] 24)) (.cells #[.slice pn now.length cn] 24)
    rw [World.size_alloc] at this
    exact (hb1.block _ (by simp)).trans this
  have x0 := cell_of_one t0
  have x1 := cell_of_one t1
  have z1 := lt_of_block t1
  have z0 : w.heap.size < w1.heap.size := by omega
  clear hb1 t0 t1
  by_cases h0 : cd = 0 ∧ 0 ≤ i ∧ i < (old.length : Int)
  · obtain ⟨h0, hi0, hi1⟩ := h0
    obtain ⟨k, rfl⟩ : ∃ k : Nat, i = (k : Int) := ⟨i.toNat, by omega⟩
    have k0 : (cd != 0) = false := by rw [bne_eq_false_iff_eq]; exact h0
    have HR := Lib.hid (HF.out.trans (if_pos ⟨HCD.out.symm.trans h0, hi0, hi1⟩))
    rw [Int.toNat_natCast] at HR
    have hkN : k < old.length := by omega
    obtain ⟨_, _, p', c', e, _, _, hnd⟩ := HTO.out
    injection e with e1 _ e2
    subst e1 e2
    obtain ⟨b, off, rfl, hb, hnd⟩ := hnd (by omega)
    obtain ⟨kv, cv, hkv, _, hc⟩ := hnd k hkN
    have hok := HTO.out.ok _ (nd_get hkN)
    have hids := hok.id
    have c1 : w1.cell? ⟨b, off + k * 34 + 1, none⟩ = some (.string (old.getD k zNd).id) := by rw [(bcell B1).1 _ _ hb]; exact hc 1 (by omega)
    have hbw : b < w1.heap.size := by have := B1.size; omega
    generalize (old.getD k zNd).id = id at *
    obtain ⟨hr0, hr1, hr2⟩ := findR_range now id
    have HFI := Lib.hid (fun w' (h : Below w1.heap.size w1 w') => tree_Find_any pn cn now id w' (HTN.out.later (below_via h B1)) hids)
    generalize findR now id = fi at *
    have HSF := Lib.hid (fun w' (h : Below w1.heap.size w1 w') => show (w'.cell? ⟨w.heap.size, 0, none⟩ = some (.slice (some ⟨b, off, none⟩) old.length co) ∧ w'.cell? ⟨w.heap.size + 1, 0, none⟩ = some (.slice pn now.length cn) ∧ w'.cell? ⟨b, off + k * 34 + 1, none⟩ = some (.string id)) from by
      obtain ⟨hc, _⟩ := bcell h
      refine ⟨?_, ?_, ?_⟩ <;> (rw [hc _ _ (by assumption)]; assumption))
    clear HF h0 hkv hc hnd hok HCD hr2
    go_upto_region 4 with (fail)
    refine wp_region_noPanic ?_
    refine wp_region_lexH (fun w' => Below w1.heap.size w1 w') (by kernel_rfl) (by kernel_rfl) (fun _ _ _ _ _ h => h) (Below.drew (Below.refl _ _)) ?_
    apply lexH_run (by rfl)
    · (intro w h; have FK := HSF.out w h; clear h; go_split_ands; go_simp; try rfl)
    (try simp only [Act.put, List.setIfInBounds_toArray, List.set_cons_zero, List.set_cons_succ])
    apply lexH_run (by rfl)
    · (intro w h; clear h; go_simp; try rfl)
    (try simp only [Act.put, List.setIfInBounds_toArray, List.set_cons_zero, List.set_cons_succ])
    apply lexH_run (by rfl)
    · (intro w h; have FK := HSF.out w h; clear h; go_split_ands; go_simp; try rfl)
    (try simp only [Act.put, List.setIfInBounds_toArray, List.set_cons_zero, List.set_cons_succ])
    apply lexH_run (by rfl)
    · (intro w h; clear h; go_simp; try rfl)
    (try simp only [Act.put, List.setIfInBounds_toArray, List.set_cons_zero, List.set_cons_succ])
    apply lexH_run (by rfl)
    · (intro w h; clear h; go_simp; try rfl)
    (try simp only [Act.put, List.setIfInBounds_toArray, List.set_cons_zero, List.set_cons_succ])
    apply lexH_run (by rfl)
    · (intro w h; clear h; go_simp; try rfl)
    (try simp only [Act.put, List.setIfInBounds_toArray, List.set_cons_zero, List.set_cons_succ])
    apply lexH_run (by rfl)
    · (intro w h; have FK := HSF.out w h; clear h; go_split_ands; go_simp; try rfl)
    (try simp only [Act.put, List.setIfInBounds_toArray, List.set_cons_zero, List.set_cons_succ])
    refine lexH_call (by kernel_rfl) (by rfl) (by go_simp; first | exact ⟨rfl, rfl⟩ | rfl) ?_
    intro hS
    refine (HFI.out _ hS).mono ?_
    rintro e w3 ⟨rfl, hb3⟩
    have HB3 := Lib.hid (below_via hb3 hS)
    refine ⟨_, rfl, HB3.out, ?_⟩
    clear hb3 hS HFI
    (try simp only [Act.put, List.setIfInBounds_toArray, List.set_cons_zero, List.set_cons_succ])
    apply lexH_run (by rfl)
    · (intro w h; clear h; go_simp; try rfl)
    (try simp only [Act.put, List.setIfInBounds_toArray, List.set_cons_zero, List.set_cons_succ])
    apply lexH_nil
    refine NoPanic.normal ?_
    have x3 := (HSF.out _ HB3.out).2.1
    have z3 : w.heap.size + 1 < w3.heap.size := by have := HB3.out.size; omega
    have B3 := below_via HB3.out B1
    clear HSF x0 x1 c1
    by_cases hf : fi < 0
    · have HE := Lib.hid (HP.out w3 _ (HR.out.trans (if_neg (fun h => by omega))) B3)
      clear HR HP
      go_wp2
      exact HE.out
    · obtain ⟨q, rfl⟩ : ∃ q : Nat, fi = (q : Int) := ⟨fi.toNat, by omega⟩
      have hqN : q < now.length := by omega
      obtain ⟨b2, off2, kv2, cv2, rfl, hbz, hk, hcn, hrg⟩ := HTN.out.node q hqN
      have hok := HTN.out.ok _ (nd_get hqN)
      obtain ⟨ns, hns⟩ : ∃ ns, ns = ndV (now.getD q zNd) kv2 cv2 := ⟨_, rfl⟩
      rw [← hns] at hrg
      have LEN := Lib.hid (show ns.length = 34 by rw [hns]; rfl)
      have RNG := Lib.hid (range_later hrg B3 hbz)
      have HCAN := Lib.hid (fun w => can_any (now.getD q zNd) kv2 cv2 ns hns hok w)
      have HCT := Lib.hid (show canT now (q : Int) = canB (now.getD q zNd) by unfold canT; rw [Int.toNat_natCast])
      generalize canB (now.getD q zNd) = cb at *
      rw [HCT.out] at HR
      have hf0 : (0 : Int) ≤ (q : Int) := by omega
      clear hk hcn hrg hok hns HCT hf
      go_wp2_with ((with_reducible refine wpList_load_node_on ?h1 (.tmp 42) ?h2 b2 (off2 + q * 34) ?h3 ns LEN.out RNG.out ?_); (case h1 => rfl); (case h2 => rfl); (case h3 => rfl))
      refine (HCAN.out _).mono ?_
      rintro e w4 ⟨rfl, hb4⟩
      have B4 := below_via hb4 B3
      clear hb4
      cases cb with
      | true =>
        have HE := Lib.hid (HP.out w4 _ (HR.out.trans (if_pos ⟨hf0, rfl⟩)) B4)
        clear HR HP
        go_wp2
        exact HE.out
      | false =>
        have HE := Lib.hid (HP.out w4 _ (HR.out.trans (if_neg (fun h => by cases h.2))) B4)
        clear HR HP
        go_wp2
        exact HE.out
  · have HE := Lib.hid (HP.out w1 _ (HF.out.trans (if_neg (fun h => h0 ⟨HCD.out.trans h.1, h.2⟩))) B1)
    clear HP HF HCD
    rcases (show cd ≠ 0 ∨ (cd = 0 ∧ i < 0) ∨ (cd = 0 ∧ 0 ≤ i ∧ (old.length : Int) ≤ i) by omega) with h | ⟨rfl, h⟩ | ⟨rfl, h, h2⟩
    · have k0 : (cd != 0) = true := by rw [bne_iff_ne]; exact h
      clear h h0
      go_wp2
      exact HE.out
    · clear h0
      go_wp2
      exact HE.out
    · clear h0
      go_wp2
      exact HE.out
end Go.Proofs.Ytihjefncjkdnpaa
namespace Go.Proofs.Ytihjefncjkdnpaa
open Go.RowKit Go.Deep
set_option linter.unusedVariables false
set_option linter.unusedSimpArgs false

set_option maxRecDepth 100000 in
set_option maxHeartbeats 8000000 in
theorem ref_Carry_any (po pn : Option Addr) (co cn : Nat) (old now : List Nd) (i : Int) (w : World) (ho : TreeAt w (.slice po old.length co) old) (hn : TreeAt w (.slice pn now.length cn) now) : Calls Try.prog 19 #[.agg #[.slice po old.length co], .agg #[.slice pn now.length cn], .int .i64 i] w (RetC old now i w) := by
  have HTO := Lib.hid ho
  have HTN := Lib.hid hn
  have hlo := ho.len
  have hln := hn.len
  have HP := Lib.hid (fun w' (x : Int) (hx : carryN old now i = x) (hb : Below w.heap.size w w') => show RetC old now i w (.returned (.int .i64 x)) w' by rw [← hx]; exact ⟨rfl, hb⟩)
  obtain ⟨cd, hcd⟩ : ∃ z, z = (checkT old).1 := ⟨_, rfl⟩
  have HCD := Lib.hid hcd
  have HF := Lib.hid (show carryN old now i = if (checkT old).1 = 0 ∧ 0 ≤ i ∧ i < (old.length : Int) then (if 0 ≤ findR now (old.getD i.toNat zNd).id ∧ canT now (findR now (old.getD i.toNat zNd).id) = true then findR now (old.getD i.toNat zNd).id else -1) else -1 from rfl)
  generalize RetC old now i w = post at *
  generalize carryN old now i = R at *
  clear ho hn hcd
  go_enter Try.func19, Try.ntmps19
  go_wp2_with fail
  refine (ref_right_any po co old _ (HTO.out.later (by go_grown))).mono ?_
  have HRO := Lib.hid (show rightB old = (cd == 0) by unfold rightB; rw [← HCD.out]; rfl)
  rw [HRO.out]
  obtain ⟨ro, hro⟩ : ∃ ro, ro = (cd == 0) := ⟨_, rfl⟩
  have HRO2 := Lib.hid hro
  rw [← hro]
  rintro e wa ⟨rfl, hba⟩
  have BA : Below w.heap.size w wa := below_via hba (by go_grown)
  have ta0 := (hba.block w.heap.size (by simp; omega)).trans ((heap_alloc_old _ _ (by simp)).trans (heap_alloc_new _ _))
  have ta1 : wa.heap[w.heap.size + 1]? = some (.cells #[.slice pn now.length cn] 24 (0, 0)) := by
    have := heap_alloc_new (w.alloc (.cells #[.slice po old.length co] 24)) (.cells #[.slice pn now.length cn] 24)
    rw [World.size_alloc] at this
    exact (hba.block _ (by simp)).trans this
  have HTA0 := Lib.hid ta0
  have HTA1 := Lib.hid ta1
  have xa1 := cell_of_one ta1
  have za1 := lt_of_block ta1
  have za0 : w.heap.size < wa.heap.size := by omega
  obtain ⟨rn, hrn⟩ : ∃ rn, rn = rightB now := ⟨_, rfl⟩
  have HRN := Lib.hid hrn
  clear hba hro hrn ta0 ta1 HRO
  go_wp2_with fail
  refine (ref_right_any pn cn now _ (HTN.out.later BA)).mono ?_
  rw [← HRN.out]
  rintro e w1 ⟨rfl, hb1⟩
  have B1 : Below w.heap.size w w1 := below_via hb1 BA
  have t0 := (hb1.block w.heap.size za0).trans HTA0.out
  have t1 := (hb1.block (w.heap.size + 1) za1).trans HTA1.out
  clear HTA0 HTA1 xa1 za1 za0
  have x0 := cell_of_one t0
  have x1 := cell_of_one t1
  have z1 := lt_of_block t1
  have z0 : w.heap.size < w1.heap.size := by omega
  clear hb1 t0 t1 BA
  by_cases h0 : cd = 0 ∧ 0 ≤ i ∧ i < (old.length : Int)
  · obtain ⟨h0, hi0, hi1⟩ := h0
    obtain ⟨k, rfl⟩ : ∃ k : Nat, i = (k : Int) := ⟨i.toNat, by omega⟩
    obtain rfl : ro = true := by rw [HRO2.out]; simpa using h0
    have HR := Lib.hid (HF.out.trans (if_pos ⟨HCD.out.symm.trans h0, hi0, hi1⟩))
    rw [Int.toNat_natCast] at HR
    have hkN : k < old.length := by omega
    obtain ⟨_, _, p', c', e, _, _, hnd⟩ := HTO.out
    injection e with e1 _ e2
    subst e1 e2
    obtain ⟨b, off, rfl, hb, hnd⟩ := hnd (by omega)
    obtain ⟨kv, cv, hkv, _, hc⟩ := hnd k hkN
    have hok := HTO.out.ok _ (nd_get hkN)
    have hids := hok.id
    have c1 : w1.cell? ⟨b, off + k * 34 + 1, none⟩ = some (.string (old.getD k zNd).id) := by rw [(bcell B1).1 _ _ hb]; exact hc 1 (by omega)
    have hbw : b < w1.heap.size := by have := B1.size; omega
    generalize (old.getD k zNd).id = id at *
    obtain ⟨hr0, hr1, hr2⟩ := findR_range now id
    have HFI := Lib.hid (fun w' (h : Below w1.heap.size w1 w') => show Calls Try.prog 48 #[.agg #[.slice pn now.length cn], .string id] w' (fun e w'' => e = .returned (.int .i64 (findR now id)) ∧ Below w'.heap.size w' w'') from (ref_Find_any pn cn now id w' (HTN.out.later (below_via h B1)) hids).mono fun e w'' h => h)
    generalize findR now id = fi at *
    have HSF := Lib.hid (fun w' (h : Below w1.heap.size w1 w') => show (w'.cell? ⟨w.heap.size, 0, none⟩ = some (.slice (some ⟨b, off, none⟩) old.length co) ∧ w'.cell? ⟨w.heap.size + 1, 0, none⟩ = some (.slice pn now.length cn) ∧ w'.cell? ⟨b, off + k * 34 + 1, none⟩ = some (.string id)) from by
      obtain ⟨hc, _⟩ := bcell h
      refine ⟨?_, ?_, ?_⟩ <;> (rw [hc _ _ (by assumption)]; assumption))
    clear HF h0 hkv hc hnd hok HCD HRO2
    cases rn with
    | false =>
      have hneg : ¬ 0 ≤ fi := fun h => by
        have := (hr2 h).1
        have h2 := HRN.out
        unfold rightB at h2
        rw [this] at h2
        simp at h2
      have HE := Lib.hid (HP.out w1 _ (HR.out.trans (if_neg (fun h => hneg h.1))) B1)
      clear HR HP HFI HSF hr2 HRN hneg
      go_wp2
      exact HE.out
    | true =>
    clear hr2 HRN
    go_upto_region 5 with (fail)
    refine wp_region_noPanic ?_
    refine wp_region_lexH (fun w' => Below w1.heap.size w1 w') (by kernel_rfl) (by kernel_rfl) (fun _ _ _ _ _ h => h) (Below.drew (Below.refl _ _)) ?_
    apply lexH_run (by rfl)
    · (intro w h; have FK := HSF.out w h; clear h; go_split_ands; go_simp; try rfl)
    (try simp only [Act.put, List.setIfInBounds_toArray, List.set_cons_zero, List.set_cons_succ])
    apply lexH_run (by rfl)
    · (intro w h; clear h; go_simp; try rfl)
    (try simp only [Act.put, List.setIfInBounds_toArray, List.set_cons_zero, List.set_cons_succ])
    apply lexH_run (by rfl)
    · (intro w h; have FK := HSF.out w h; clear h; go_split_ands; go_simp; try rfl)
    (try simp only [Act.put, List.setIfInBounds_toArray, List.set_cons_zero, List.set_cons_succ])
    apply lexH_run (by rfl)
    · (intro w h; clear h; go_simp; try rfl)
    (try simp only [Act.put, List.setIfInBounds_toArray, List.set_cons_zero, List.set_cons_succ])
    apply lexH_run (by rfl)
    · (intro w h; clear h; go_simp; try rfl)
    (try simp only [Act.put, List.setIfInBounds_toArray, List.set_cons_zero, List.set_cons_succ])
    apply lexH_run (by rfl)
    · (intro w h; clear h; go_simp; try rfl)
    (try simp only [Act.put, List.setIfInBounds_toArray, List.set_cons_zero, List.set_cons_succ])
    apply lexH_run (by rfl)
    · (intro w h; have FK := HSF.out w h; clear h; go_split_ands; go_simp; try rfl)
    (try simp only [Act.put, List.setIfInBounds_toArray, List.set_cons_zero, List.set_cons_succ])
    refine lexH_call (by kernel_rfl) (by rfl) (by go_simp; first | exact ⟨rfl, rfl⟩ | rfl) ?_
    intro hS
    refine (HFI.out _ hS).mono ?_
    rintro e w3 ⟨rfl, hb3⟩
    have HB3 := Lib.hid (below_via hb3 hS)
    refine ⟨_, rfl, HB3.out, ?_⟩
    clear hb3 hS HFI
    (try simp only [Act.put, List.setIfInBounds_toArray, List.set_cons_zero, List.set_cons_succ])
    apply lexH_run (by rfl)
    · (intro w h; clear h; go_simp; try rfl)
    (try simp only [Act.put, List.setIfInBounds_toArray, List.set_cons_zero, List.set_cons_succ])
    apply lexH_nil
    refine NoPanic.normal ?_
    have x3 := (HSF.out _ HB3.out).2.1
    have z3 : w.heap.size + 1 < w3.heap.size := by have := HB3.out.size; omega
    have B3 := below_via HB3.out B1
    clear HSF x0 x1 c1
    by_cases hf : fi < 0
    · have HE := Lib.hid (HP.out w3 _ (HR.out.trans (if_neg (fun h => by omega))) B3)
      clear HR HP
      go_wp2
      exact HE.out
    · obtain ⟨q, rfl⟩ : ∃ q : Nat, fi = (q : Int) := ⟨fi.toNat, by omega⟩
      have hqN : q < now.length := by omega
      obtain ⟨b2, off2, kv2, cv2, rfl, hbz, hk, hcn, hrg⟩ := HTN.out.node q hqN
      have hok := HTN.out.ok _ (nd_get hqN)
      obtain ⟨ns, hns⟩ : ∃ ns, ns = ndV (now.getD q zNd) kv2 cv2 := ⟨_, rfl⟩
      rw [← hns] at hrg
      have LEN := Lib.hid (show ns.length = 34 by rw [hns]; rfl)
      have RNG := Lib.hid (range_later hrg B3 hbz)
      have HCAN := Lib.hid (fun w => Can_any (now.getD q zNd) kv2 cv2 ns hns hok w)
      have HCT := Lib.hid (show canT now (q : Int) = canB (now.getD q zNd) by unfold canT; rw [Int.toNat_natCast])
      generalize canB (now.getD q zNd) = cb at *
      rw [HCT.out] at HR
      have hf0 : (0 : Int) ≤ (q : Int) := by omega
      clear hk hcn hrg hok hns HCT hf
      go_wp2_with ((with_reducible refine wpList_load_node_on ?h1 (.tmp 45) ?h2 b2 (off2 + q * 34) ?h3 ns LEN.out RNG.out ?_); (case h1 => rfl); (case h2 => rfl); (case h3 => rfl))
      refine (HCAN.out _).mono ?_
      rintro e w4 ⟨rfl, hb4⟩
      have B4 := below_via hb4 B3
      clear hb4
      cases cb with
      | true =>
        have HE := Lib.hid (HP.out w4 _ (HR.out.trans (if_pos ⟨hf0, rfl⟩)) B4)
        clear HR HP
        go_wp2
        exact HE.out
      | false =>
        have HE := Lib.hid (HP.out w4 _ (HR.out.trans (if_neg (fun h => by cases h.2))) B4)
        clear HR HP
        go_wp2
        exact HE.out
  · have HE := Lib.hid (HP.out w1 _ (HF.out.trans (if_neg (fun h => h0 ⟨HCD.out.trans h.1, h.2⟩))) B1)
    clear HP HF HCD
    cases ro with
    | false =>
      clear h0
      go_wp2
      exact HE.out
    | true =>
      have hc0 : cd = 0 := by have := HRO2.out; simpa using this.symm
      clear HRO2
      cases rn with
      | false =>
        clear h0
        go_wp2
        exact HE.out
      | true =>
        rcases (show i < 0 ∨ (0 ≤ i ∧ (old.length : Int) ≤ i) by omega) with h | ⟨h, h2⟩
        · clear h0
          go_wp2
          exact HE.out
        · clear h0
          go_wp2
          exact HE.out
end Go.Proofs.Ytihjefncjkdnpaa
