/- Layer 10: a lent tree: plain facts. -/
import Derived.Test.YtcihihncgpddfaaTwA
import Derived.Laws.OwnMore
namespace Go.Proofs.Ytcihihncgpddfaa
open Go.RowKit Go.Deep
set_option linter.unusedVariables false
set_option linter.unusedSimpArgs false

/-- a list's first n -/
def cutV : Value → Nat → Value
  | .slice p _ c, n => .slice p n c
  | v, _ => v
def mkK : List Int := [-71, -72, -73]
def mkC : List It := [⟨0, -71, 0, 0, 0⟩, ⟨0, -72, 0, 0, 0⟩]
def n71 : Nd := { zNd with kind := 71 }
def n72 : Nd := { zNd with kind := 72 }
def n71V : List Value := ndV n71 (.slice none 0 0) (.slice none 0 0)
def n72V : List Value := ndV n72 (.slice none 0 0) (.slice none 0 0)
theorem row_kind {w : World} {base : Nat} {t : TypeId} {k : Nat} {v : Value} {n : Nat} {xs : List Value} (h : w.ownsRow base t k v n xs) : ∀ q, v.ownBlock = some q → ∃ cur fr, w.heap[q]? = some (.cells cur t fr) := by
  rcases h.2 with ⟨rfl, _⟩ | ⟨g, cap, cur, rfl, _, hh, _⟩
  · intro q e; cases e
  · intro q e
    simp only [Value.ownBlock] at e
    injection e with e
    subst e
    exact ⟨_, _, hh⟩
theorem keep_row {w w' : World} {row : Option Nat} {t' : TypeId} (gr : w.grownBy w' row) (ht : ∀ q, row = some q → ∃ cur fr, w.heap[q]? = some (.cells cur t' fr)) {b : Nat} {t : TypeId} {k : Nat} {v : Value} {n : Nat} {xs : List Value} (h : w.ownsRow b t k v n xs) (hne : t ≠ t') : w'.ownsRow b t k v n xs := by
  refine h.kept gr ?_
  cases hr : row with
  | none => exact (Option.eq_none_or_eq_some v.ownBlock).elim .inl (fun ⟨a, e⟩ => .inr (by rw [e]; simp))
  | some q =>
    obtain ⟨cur, fr, hq⟩ := ht q hr
    exact .inr (row_blk_ne h hq hne)
theorem keep_blk {w w' : World} {row : Option Nat} {t' : TypeId} (gr : w.grownBy w' row) (ht : ∀ q, row = some q → ∃ cur fr, w.heap[q]? = some (.cells cur t' fr)) {b : Nat} {t : TypeId} {cur : Array Value} {fr : Nat × Nat} (h : w.heap[b]? = some (.cells cur t fr)) (hne : t ≠ t') : w'.heap[b]? = some (.cells cur t fr) := by
  refine (gr.block b (lt_of_block h) (fun e => ?_)).trans h
  obtain ⟨cur', fr', hq⟩ := ht b e.symm
  rw [h] at hq
  injection hq with hq
  injection hq with _ e2
  exact hne e2
theorem ndsV_set3 {T : List Nd} {kc cc : Nat → Value} {j : Nat} (hj : j < T.length) (u : Value) : (ndsV T kc cc).set (j * 34 + 3) u = ndsV T (upd kc j u) cc := by
  apply List.ext_getElem?
  intro i
  by_cases hi : i < T.length * 34
  · have e : i = i / 34 * 34 + i % 34 := by omega
    rw [e, ndsV_get T (upd kc j u) cc (by omega) (by omega)]
    by_cases h1 : i / 34 = j
    · rw [h1, upd_same, show ndV (T.getD j zNd) u (cc j) = (ndV (T.getD j zNd) (kc j) (cc j)).set 3 u by rfl]
      by_cases h2 : i % 34 = 3
      · rw [h2, List.getElem?_set_self (by rw [ndsV_len]; omega), List.getElem?_set_self (by rw [ndV_len]; decide)]
      · rw [List.getElem?_set_ne (by omega), List.getElem?_set_ne (by omega), ndsV_get T kc cc (by omega) (by omega)]
    · rw [upd_other h1, List.getElem?_set_ne (by omega), ndsV_get T kc cc (by omega) (by omega)]
  · rw [List.getElem?_eq_none (by simp [ndsV_len]; omega), List.getElem?_eq_none (by rw [ndsV_len]; omega)]
theorem ndsV_set28 {T : List Nd} {kc cc : Nat → Value} {j : Nat} (hj : j < T.length) (u : Value) : (ndsV T kc cc).set (j * 34 + 28) u = ndsV T kc (upd cc j u) := by
  apply List.ext_getElem?
  intro i
  by_cases hi : i < T.length * 34
  · have e : i = i / 34 * 34 + i % 34 := by omega
    rw [e, ndsV_get T kc (upd cc j u) (by omega) (by omega)]
    by_cases h1 : i / 34 = j
    · rw [h1, upd_same, show ndV (T.getD j zNd) (kc j) u = (ndV (T.getD j zNd) (kc j) (cc j)).set 28 u by rfl]
      by_cases h2 : i % 34 = 28
      · rw [h2, List.getElem?_set_self (by rw [ndsV_len]; omega), List.getElem?_set_self (by rw [ndV_len]; decide)]
      · rw [List.getElem?_set_ne (by omega), List.getElem?_set_ne (by omega), ndsV_get T kc cc (by omega) (by omega)]
    · rw [upd_other h1, List.getElem?_set_ne (by omega), ndsV_get T kc cc (by omega) (by omega)]
  · rw [List.getElem?_eq_none (by simp [ndsV_len]; omega), List.getElem?_eq_none (by rw [ndsV_len]; omega)]
/-- the state of lent: kc, cc: the nodes' lists as their cells tell them; kf, cf: the lists; FK, FC: what they hold; vk, vc: the lists of the lists -/
structure LtG (w W : World) (T : List Nd) (ub : Nat) (tv : Value) (kc cc kf cf : Nat → Value) (FK : Nat → List Int) (FC : Nat → List It) (vk vc : Value) (KL CL : List Value) : Prop where
  be : Below w.heap.size w W
  xr : W.heap[w.heap.size + 1]? = some (.cells #[.slice none 0 0, .slice none 0 0, .slice none 0 0, .slice none 0 0] 29 (0, 0))
  xb : W.heap[w.heap.size + 1 + 1]? = some (.cells #[.slice none 0 0, .slice none 0 0, vk, vc] 29 (0, 0))
  ub : W.heap[ub]? = some (.cells #[tv] 24 (0, 0))
  row : W.ownsRow w.heap.size 64 34 tv T.length (ndsV T kc cc)
  kr : ∀ i, i < T.length → W.ownsRow w.heap.size 3 1 (kf i) (FK i).length ((FK i).map (Value.int .i64))
  cr : ∀ i, i < T.length → W.ownsRow w.heap.size 57 5 (cf i) (FC i).length (cellsI (FC i))
  kd : ∀ i j, i < T.length → j < T.length → i ≠ j → ∀ b, (kf i).ownBlock = some b → (kf j).ownBlock ≠ some b
  cd : ∀ i j, i < T.length → j < T.length → i ≠ j → ∀ b, (cf i).ownBlock = some b → (cf j).ownBlock ≠ some b
  kl : W.ownsRow w.heap.size 45 1 vk KL.length KL
  cl : W.ownsRow w.heap.size 62 1 vc CL.length CL
section
variable {w W W1 W2 : World} {T : List Nd} {ub : Nat} {tv : Value} {kc cc kf cf : Nat → Value} {FK : Nat → List Int} {FC : Nat → List It} {vk vc : Value} {KL CL : List Value}
theorem LtG.later (h : LtG w W T ub tv kc cc kf cf FK FC vk vc KL CL) (hb : Below W.heap.size W W1) : LtG w W1 T ub tv kc cc kf cf FK FC vk vc KL CL :=
  ⟨below_via hb h.be, (hb.block _ (lt_of_block h.xr)).trans h.xr, (hb.block _ (lt_of_block h.xb)).trans h.xb, (hb.block _ (lt_of_block h.ub)).trans h.ub, row_later h.row hb, fun i hi => row_later (h.kr i hi) hb, fun i hi => row_later (h.cr i hi) hb, h.kd, h.cd, row_later h.kl hb, row_later h.cl hb⟩
/-- the kids of node j are gone on with -/
theorem LtG.kpush (h0 : LtG w W T ub tv kc cc kf cf FK FC vk vc KL CL) {j : Nat} (hj : j < T.length) (hb : Below W.heap.size W W1) (gr : W1.grownBy W2 (kf j).ownBlock) {v' : Value} {m : Nat} {xs : List Value} (own : W2.ownsRow w.heap.size 3 1 v' m xs) (M : List Int) (hm : m = (FK j ++ M).length) (hxs : xs = (FK j ++ M).map (Value.int .i64)) (pl : v'.ownBlock = (kf j).ownBlock ∨ v'.ownBlock = some W1.heap.size) : LtG w W2 T ub tv kc cc (upd kf j v') cf (upd FK j (FK j ++ M)) FC vk vc KL CL := by
  have h := h0.later hb
  have kd := row_kind (h.kr j hj)
  have sz := h.be.size
  subst hm hxs
  have lo : ∀ i, i < T.length → i ≠ j → ∀ b, v'.ownBlock = some b → (kf i).ownBlock ≠ some b := fun i hi hij b e e' => by
    rcases pl with p | p
    · exact h.kd i j hi hj hij b e' (p ▸ e)
    · rw [p] at e
      injection e with e
      have := (row_lt (h.kr i hi) b e').1
      omega
  refine ⟨Below.grown h.be gr sz (fun g hg => (row_lt (h.kr j hj) g hg).2), keep_blk gr kd h.xr (by decide), keep_blk gr kd h.xb (by decide), keep_blk gr kd h.ub (by decide), keep_row gr kd h.row (by decide), fun i hi => ?_, fun i hi => keep_row gr kd (h.cr i hi) (by decide), fun a b ha hb hab c e => ?_, h.cd, keep_row gr kd h.kl (by decide), keep_row gr kd h.cl (by decide)⟩
  · by_cases e : i = j
    · subst e; rw [upd_same, upd_same]; exact own
    · rw [upd_other e, upd_other e]
      exact (h.kr i hi).kept gr ((Option.eq_none_or_eq_some (kf i).ownBlock).elim .inl (fun ⟨a, ea⟩ => .inr (fun e' => h.kd i j hi hj e a ea (by rw [← e', ea]))))
  · by_cases e1 : a = j
    · subst e1
      rw [upd_same] at e
      rw [upd_other (Ne.symm hab)]
      exact lo b hb (Ne.symm hab) c e
    · rw [upd_other e1] at e
      by_cases e2 : b = j
      · subst e2
        rw [upd_same]
        exact fun e' => lo a ha hab c e' e
      · rw [upd_other e2]
        exact h.kd a b ha hb hab c e
theorem LtG.cpush (h0 : LtG w W T ub tv kc cc kf cf FK FC vk vc KL CL) {j : Nat} (hj : j < T.length) (hb : Below W.heap.size W W1) (gr : W1.grownBy W2 (cf j).ownBlock) {v' : Value} {m : Nat} {xs : List Value} (own : W2.ownsRow w.heap.size 57 5 v' m xs) (M : List It) (hm : m = (FC j ++ M).length) (hxs : xs = cellsI (FC j ++ M)) (pl : v'.ownBlock = (cf j).ownBlock ∨ v'.ownBlock = some W1.heap.size) : LtG w W2 T ub tv kc cc kf (upd cf j v') FK (upd FC j (FC j ++ M)) vk vc KL CL := by
  have h := h0.later hb
  have kd := row_kind (h.cr j hj)
  have sz := h.be.size
  subst hm hxs
  have lo : ∀ i, i < T.length → i ≠ j → ∀ b, v'.ownBlock = some b → (cf i).ownBlock ≠ some b := fun i hi hij b e e' => by
    rcases pl with p | p
    · exact h.cd i j hi hj hij b e' (p ▸ e)
    · rw [p] at e
      injection e with e
      have := (row_lt (h.cr i hi) b e').1
      omega
  refine ⟨Below.grown h.be gr sz (fun g hg => (row_lt (h.cr j hj) g hg).2), keep_blk gr kd h.xr (by decide), keep_blk gr kd h.xb (by decide), keep_blk gr kd h.ub (by decide), keep_row gr kd h.row (by decide), fun i hi => keep_row gr kd (h.kr i hi) (by decide), fun i hi => ?_, h.kd, fun a b ha hb hab c e => ?_, keep_row gr kd h.kl (by decide), keep_row gr kd h.cl (by decide)⟩
  · by_cases e : i = j
    · subst e; rw [upd_same, upd_same]; exact own
    · rw [upd_other e, upd_other e]
      exact (h.cr i hi).kept gr ((Option.eq_none_or_eq_some (cf i).ownBlock).elim .inl (fun ⟨a, ea⟩ => .inr (fun e' => h.cd i j hi hj e a ea (by rw [← e', ea]))))
  · by_cases e1 : a = j
    · subst e1
      rw [upd_same] at e
      rw [upd_other (Ne.symm hab)]
      exact lo b hb (Ne.symm hab) c e
    · rw [upd_other e1] at e
      by_cases e2 : b = j
      · subst e2
        rw [upd_same]
        exact fun e' => lo a ha hab c e' e
      · rw [upd_other e2]
        exact h.cd a b ha hb hab c e
/-- a node's field is set -/
theorem LtG.nset3 {g n c : Nat} (h : LtG w W T ub (.slice (some ⟨g, 0, none⟩) T.length c) kc cc kf cf FK FC vk vc KL CL) {j : Nat} (hj : j < T.length) (u : Value) : LtG w (W.setCell ⟨g, j * 34 + 3, none⟩ u) T ub (.slice (some ⟨g, 0, none⟩) T.length c) (upd kc j u) cc kf cf FK FC vk vc KL CL := by
  obtain ⟨own, gr⟩ := h.row.stored (j * 34 + 3) u
  rw [ndsV_set3 hj] at own
  have kd : ∀ q, some g = some q → ∃ cur fr, W.heap[q]? = some (.cells cur 64 fr) := fun q e => row_kind h.row q e
  exact ⟨h.be.setCell (p := ⟨g, j * 34 + 3, none⟩) (row_lt h.row g rfl).2 u, keep_blk gr kd h.xr (by decide), keep_blk gr kd h.xb (by decide), keep_blk gr kd h.ub (by decide), own, fun i hi => keep_row gr kd (h.kr i hi) (by decide), fun i hi => keep_row gr kd (h.cr i hi) (by decide), h.kd, h.cd, keep_row gr kd h.kl (by decide), keep_row gr kd h.cl (by decide)⟩
theorem LtG.nset28 {g n c : Nat} (h : LtG w W T ub (.slice (some ⟨g, 0, none⟩) T.length c) kc cc kf cf FK FC vk vc KL CL) {j : Nat} (hj : j < T.length) (u : Value) : LtG w (W.setCell ⟨g, j * 34 + 28, none⟩ u) T ub (.slice (some ⟨g, 0, none⟩) T.length c) kc (upd cc j u) kf cf FK FC vk vc KL CL := by
  obtain ⟨own, gr⟩ := h.row.stored (j * 34 + 28) u
  rw [ndsV_set28 hj] at own
  have kd : ∀ q, some g = some q → ∃ cur fr, W.heap[q]? = some (.cells cur 64 fr) := fun q e => row_kind h.row q e
  exact ⟨h.be.setCell (p := ⟨g, j * 34 + 28, none⟩) (row_lt h.row g rfl).2 u, keep_blk gr kd h.xr (by decide), keep_blk gr kd h.xb (by decide), keep_blk gr kd h.ub (by decide), own, fun i hi => keep_row gr kd (h.kr i hi) (by decide), fun i hi => keep_row gr kd (h.cr i hi) (by decide), h.kd, h.cd, keep_row gr kd h.kl (by decide), keep_row gr kd h.cl (by decide)⟩
/-- the list of the kids is gone on with, the field is set -/
theorem LtG.lpush (h0 : LtG w W T ub tv kc cc kf cf FK FC vk vc KL CL) (hb : Below W.heap.size W W1) (gr : W1.grownBy W2 vk.ownBlock) {v' u : Value} {m : Nat} {xs : List Value} (own : W2.ownsRow w.heap.size 45 1 v' m xs) (hm : m = (KL ++ [u]).length) (hxs : xs = KL ++ [u]) : W2.heap[w.heap.size + 1 + 1]? = some (.cells #[.slice none 0 0, .slice none 0 0, vk, vc] 29 (0, 0)) ∧ LtG w (W2.setCell ⟨w.heap.size + 1 + 1, 2, none⟩ v') T ub tv kc cc kf cf FK FC v' vc (KL ++ [u]) CL := by
  have h := h0.later hb
  have kd := row_kind h.kl
  have sz := h.be.size
  subst hm hxs
  have xb := keep_blk gr kd h.xb (by decide)
  have gs := setCell_grown W2 ⟨w.heap.size + 1 + 1, 2, none⟩ v'
  have ks : ∀ q, some (w.heap.size + 1 + 1) = some q → ∃ cur fr, W2.heap[q]? = some (.cells cur 29 fr) := fun q e => by injection e with e; exact ⟨_, _, e ▸ xb⟩
  have K : ∀ {b : Nat} {t : TypeId} {k : Nat} {v : Value} {n : Nat} {xs : List Value}, W1.ownsRow b t k v n xs → t ≠ 45 → t ≠ 29 → (W2.setCell ⟨w.heap.size + 1 + 1, 2, none⟩ v').ownsRow b t k v n xs := fun hr h1 h2 => keep_row gs ks (keep_row gr kd hr h1) h2
  refine ⟨xb, (Below.grown h.be gr sz (fun g hg => (row_lt h.kl g hg).2)).setCell (p := ⟨w.heap.size + 1 + 1, 2, none⟩) (by simp; omega) v', ?_, ?_, keep_blk gs ks (keep_blk gr kd h.ub (by decide)) (by decide), K h.row (by decide) (by decide), fun i hi => K (h.kr i hi) (by decide) (by decide), fun i hi => K (h.cr i hi) (by decide) (by decide), h.kd, h.cd, keep_row gs ks own (by decide), K h.cl (by decide) (by decide)⟩
  · exact (heap_setCell_other W2 ⟨w.heap.size + 1 + 1, 2, none⟩ _ v' (by simp)).trans (keep_blk gr kd h.xr (by decide))
  · exact blk_set (cs := [.slice none 0 0, .slice none 0 0, vk, vc]) v' xb
theorem LtG.clpush (h0 : LtG w W T ub tv kc cc kf cf FK FC vk vc KL CL) (hb : Below W.heap.size W W1) (gr : W1.grownBy W2 vc.ownBlock) {v' u : Value} {m : Nat} {xs : List Value} (own : W2.ownsRow w.heap.size 62 1 v' m xs) (hm : m = (CL ++ [u]).length) (hxs : xs = CL ++ [u]) : W2.heap[w.heap.size + 1 + 1]? = some (.cells #[.slice none 0 0, .slice none 0 0, vk, vc] 29 (0, 0)) ∧ LtG w (W2.setCell ⟨w.heap.size + 1 + 1, 3, none⟩ v') T ub tv kc cc kf cf FK FC vk v' KL (CL ++ [u]) := by
  have h := h0.later hb
  have kd := row_kind h.cl
  have sz := h.be.size
  subst hm hxs
  have xb := keep_blk gr kd h.xb (by decide)
  have gs := setCell_grown W2 ⟨w.heap.size + 1 + 1, 3, none⟩ v'
  have ks : ∀ q, some (w.heap.size + 1 + 1) = some q → ∃ cur fr, W2.heap[q]? = some (.cells cur 29 fr) := fun q e => by injection e with e; exact ⟨_, _, e ▸ xb⟩
  have K : ∀ {b : Nat} {t : TypeId} {k : Nat} {v : Value} {n : Nat} {xs : List Value}, W1.ownsRow b t k v n xs → t ≠ 62 → t ≠ 29 → (W2.setCell ⟨w.heap.size + 1 + 1, 3, none⟩ v').ownsRow b t k v n xs := fun hr h1 h2 => keep_row gs ks (keep_row gr kd hr h1) h2
  refine ⟨xb, (Below.grown h.be gr sz (fun g hg => (row_lt h.cl g hg).2)).setCell (p := ⟨w.heap.size + 1 + 1, 3, none⟩) (by simp; omega) v', ?_, ?_, keep_blk gs ks (keep_blk gr kd h.ub (by decide)) (by decide), K h.row (by decide) (by decide), fun i hi => K (h.kr i hi) (by decide) (by decide), fun i hi => K (h.cr i hi) (by decide) (by decide), h.kd, h.cd, K h.kl (by decide) (by decide), keep_row gs ks own (by decide)⟩
  · exact (heap_setCell_other W2 ⟨w.heap.size + 1 + 1, 3, none⟩ _ v' (by simp)).trans (keep_blk gr kd h.xr (by decide))
  · exact blk_set (cs := [.slice none 0 0, .slice none 0 0, vk, vc]) v' xb
end
def lnK (T : List Nd) (i : Nat) : Nat := (T.getD i zNd).kids.length
def lnC (T : List Nd) (i : Nat) : Nat := (T.getD i zNd).cols.length
def fulK (T : List Nd) (k i : Nat) : List Int := (T.getD i zNd).kids ++ (if i < k then mkK else [])
def fulC (T : List Nd) (k i : Nat) : List It := (T.getD i zNd).cols ++ (if i < k then mkC else [])
/-- at the loop's head: k nodes' lists have been gone on with -/
def LtS (w W : World) (T : List Nd) (ub : Nat) (tv : Value) (k : Nat) (kf cf : Nat → Value) (vk vc : Value) : Prop := LtG w W T ub tv (fun i => cutV (kf i) (lnK T i)) (fun i => cutV (cf i) (lnC T i)) kf cf (fulK T k) (fulC T k) vk vc ((List.range k).map kf) ((List.range k).map cf)
theorem fulK_self (T : List Nd) (k : Nat) : fulK T k k = (T.getD k zNd).kids := by unfold fulK; rw [if_neg (Nat.lt_irrefl _), List.append_nil]
theorem fulC_self (T : List Nd) (k : Nat) : fulC T k k = (T.getD k zNd).cols := by unfold fulC; rw [if_neg (Nat.lt_irrefl _), List.append_nil]
theorem map_upd (f : Nat → Value) (k : Nat) (v : Value) : (List.range k).map f ++ [v] = (List.range (k + 1)).map (upd f k v) := by
  rw [List.range_succ, List.map_append]
  congr 1
  · exact List.map_congr_left fun i hi => (upd_other (by have := List.mem_range.1 hi; omega)).symm
  · simp [upd_same]
theorem LtS.next {w W : World} {T : List Nd} {ub k : Nat} {tv v6 v7 vk vc : Value} {kf cf : Nat → Value} (h : LtG w W T ub tv (upd (fun i => cutV (kf i) (lnK T i)) k (cutV v6 (lnK T k))) (upd (fun i => cutV (cf i) (lnC T i)) k (cutV v7 (lnC T k))) (upd kf k v6) (upd cf k v7) (upd (fulK T k) k (fulK T k k ++ mkK)) (upd (fulC T k) k (fulC T k k ++ mkC)) vk vc ((List.range k).map kf ++ [v6]) ((List.range k).map cf ++ [v7])) : LtS w W T ub tv (k + 1) (upd kf k v6) (upd cf k v7) vk vc := by
  have e1 : upd (fun i => cutV (kf i) (lnK T i)) k (cutV v6 (lnK T k)) = fun i => cutV (upd kf k v6 i) (lnK T i) := funext fun i => by unfold upd; split <;> simp_all
  have e2 : upd (fun i => cutV (cf i) (lnC T i)) k (cutV v7 (lnC T k)) = fun i => cutV (upd cf k v7 i) (lnC T i) := funext fun i => by unfold upd; split <;> simp_all
  have e3 : upd (fulK T k) k (fulK T k k ++ mkK) = fulK T (k + 1) := funext fun i => by
    by_cases e : i = k
    · subst e; rw [upd_same, fulK_self]; unfold fulK; rw [if_pos (by omega)]
    · rw [upd_other e]; unfold fulK
      by_cases h1 : i < k
      · rw [if_pos h1, if_pos (by omega)]
      · rw [if_neg h1, if_neg (by omega)]
  have e4 : upd (fulC T k) k (fulC T k k ++ mkC) = fulC T (k + 1) := funext fun i => by
    by_cases e : i = k
    · subst e; rw [upd_same, fulC_self]; unfold fulC; rw [if_pos (by omega)]
    · rw [upd_other e]; unfold fulC
      by_cases h1 : i < k
      · rw [if_pos h1, if_pos (by omega)]
      · rw [if_neg h1, if_neg (by omega)]
  rw [e1, e2, e3, e4, map_upd, map_upd] at h
  exact h
theorem cutV_row {w : World} {base : Nat} {t : TypeId} {k n : Nat} {v : Value} {xs : List Value} (h : w.ownsRow base t k v n xs) : cutV v n = v := by
  rcases row_form h with ⟨rfl, rfl, _⟩ | ⟨g, c, rfl, _⟩ <;> rfl
/-- Twin's answer is where lent begins -/
theorem LtS.start {w W : World} {T : List Nd} {ub B : Nat} {tv : Value} {kvs cvs : Nat → Value} (own : OwnT B W tv T kvs cvs) (hB : w.heap.size ≤ B) (be : Below w.heap.size w W) (xr : W.heap[w.heap.size + 1]? = some (.cells #[.slice none 0 0, .slice none 0 0, .slice none 0 0, .slice none 0 0] 29 (0, 0))) (xb : W.heap[w.heap.size + 1 + 1]? = some (.cells #[.slice none 0 0, .slice none 0 0, .slice none 0 0, .slice none 0 0] 29 (0, 0))) (hu : W.heap[ub]? = some (.cells #[tv] 24 (0, 0))) : LtS w W T ub tv 0 kvs cvs (.slice none 0 0) (.slice none 0 0) := by
  have ek : ∀ i, fulK T 0 i = (T.getD i zNd).kids := fun i => by unfold fulK; rw [if_neg (Nat.not_lt_zero _), List.append_nil]
  have ec : ∀ i, fulC T 0 i = (T.getD i zNd).cols := fun i => by unfold fulC; rw [if_neg (Nat.not_lt_zero _), List.append_nil]
  refine ⟨be, xr, xb, hu, ?_, fun i hi => ?_, fun i hi => ?_, own.kd, own.cd, ⟨rfl, .inl ⟨rfl, rfl⟩⟩, ⟨rfl, .inl ⟨rfl, rfl⟩⟩⟩
  · have e : ndsV T (fun i => cutV (kvs i) (lnK T i)) (fun i => cutV (cvs i) (lnC T i)) = ndsV T kvs cvs := by
      unfold ndsV
      rw [List.flatMap_def, List.flatMap_def]
      congr 1
      refine List.map_congr_left fun i hi => ?_
      have hi : i < T.length := List.mem_range.1 hi
      have e1 : cutV (kvs i) (lnK T i) = kvs i := cutV_row (own.kr i hi)
      have e2 : cutV (cvs i) (lnC T i) = cvs i := cutV_row (own.cr i hi)
      show ndV (T.getD i zNd) (cutV (kvs i) (lnK T i)) (cutV (cvs i) (lnC T i)) = _
      rw [e1, e2]
    rw [e]; exact row_base own.row hB
  · rw [ek]; exact row_base (own.kr i hi) hB
  · rw [ec]; exact row_base (own.cr i hi) hB
/-- a lent tree -/
structure LentC (w : World) (B : Nat) (full vk vc : Value) (kf cf : Nat → Value) (T : List Nd) : Prop where
  row : w.ownsRow B 64 34 full (T.length + 2) (ndsV T (fun i => cutV (kf i) (lnK T i)) (fun i => cutV (cf i) (lnC T i)) ++ (n71V ++ n72V))
  kr : ∀ i, i < T.length → w.ownsRow B 3 1 (kf i) (lnK T i + 3) (((T.getD i zNd).kids ++ mkK).map (Value.int .i64))
  cr : ∀ i, i < T.length → w.ownsRow B 57 5 (cf i) (lnC T i + 2) (cellsI ((T.getD i zNd).cols ++ mkC))
  kl : w.ownsRow B 45 1 vk T.length ((List.range T.length).map kf)
  cl : w.ownsRow B 62 1 vc T.length ((List.range T.length).map cf)
def LentAt (w : World) (B : Nat) (tv full vk vc : Value) (T : List Nd) : Prop := tv = cutV full T.length ∧ ∃ kf cf, LentC w B full vk vc kf cf T
theorem LentC.later {w w' : World} {B : Nat} {full vk vc : Value} {kf cf : Nat → Value} {T : List Nd} (h : LentC w B full vk vc kf cf T) (hb : Below w.heap.size w w') : LentC w' B full vk vc kf cf T :=
  ⟨row_later h.row hb, fun i hi => row_later (h.kr i hi) hb, fun i hi => row_later (h.cr i hi) hb, row_later h.kl hb, row_later h.cl hb⟩
theorem LentAt.later {w w' : World} {B : Nat} {tv full vk vc : Value} {T : List Nd} (h : LentAt w B tv full vk vc T) (hb : Below w.heap.size w w') : LentAt w' B tv full vk vc T :=
  ⟨h.1, h.2.imp fun kf h => h.imp fun cf h => h.later hb⟩
theorem ints_cut {w : World} {base : Nat} {t : TypeId} {v : Value} {n : Nat} {L M : List Int} (h : w.ownsRow base t 1 v n ((L ++ M).map (Value.int .i64))) (hn : L.length < n) : IntsAt w (cutV v L.length) L := by
  rcases row_form h with ⟨_, h0, _⟩ | ⟨g, c, rfl, hn', hm, hz, _⟩
  · omega
  · refine ⟨_, c, rfl, by omega, by unfold maxLen at hm; omega, (fun h => by cases h), fun h0 => ⟨g, 0, rfl, hz, fun i hi => ?_⟩⟩
    refine row_cells h i _ ?_
    rw [List.getElem?_map, List.getElem?_append_left hi, List.getD_eq_getElem?_getD, List.getElem?_eq_getElem hi]
    rfl
theorem cellsI_app (L M : List It) : cellsI (L ++ M) = cellsI L ++ cellsI M := by simp [cellsI]
theorem its_cut {w : World} {base : Nat} {t : TypeId} {v : Value} {n : Nat} {L M : List It} (h : w.ownsRow base t 5 v n (cellsI (L ++ M))) (hn : L.length < n) : ItsAt w (cutV v L.length) L := by
  rcases row_form h with ⟨_, h0, _⟩ | ⟨g, c, rfl, hn', hm, hz, _⟩
  · omega
  · refine ⟨_, c, rfl, by omega, by unfold maxLen at hm; omega, (fun h => by cases h), fun h0 => ⟨g, 0, rfl, hz, fun i hi j hj => ?_⟩⟩
    have e := cellsI_get L i j hi hj
    have hl : j < (itV (L.getD i zIt)).length := by simpa [itV] using hj
    rw [List.getElem?_eq_getElem hl] at e ⊢
    refine row_cells h _ _ ?_
    rw [cellsI_app, List.getElem?_append_left (by rw [cellsI_len]; omega)]
    exact e
theorem LentAt.tree {w : World} {B : Nat} {tv full vk vc : Value} {T : List Nd} (h : LentAt w B tv full vk vc T) (ok : ∀ x ∈ T, NdOk x) : ∃ p c, tv = .slice p T.length c ∧ TreeAt w tv T := by
  obtain ⟨rfl, kf, cf, h⟩ := h
  rcases row_form h.row with ⟨_, h0, _⟩ | ⟨g, c, rfl, hn, hm, hz, _⟩
  · omega
  · unfold maxLen at hm
    refine ⟨_, c, rfl, ok, by omega, _, c, rfl, by omega, by omega, fun h0 => ⟨g, 0, rfl, hz, fun i hi => ?_⟩⟩
    refine ⟨cutV (kf i) (lnK T i), cutV (cf i) (lnC T i), ints_cut (h.kr i hi) (by unfold lnK; omega), its_cut (h.cr i hi) (by unfold lnC; omega), fun j hj => ?_⟩
    have e := ndsV_get T (fun i => cutV (kf i) (lnK T i)) (fun i => cutV (cf i) (lnC T i)) hi hj
    have hl : j < (ndV (T.getD i zNd) (cutV (kf i) (lnK T i)) (cutV (cf i) (lnC T i))).length := by rw [ndV_len]; exact hj
    rw [List.getElem?_eq_getElem hl] at e ⊢
    have := row_cells h.row (i * 34 + j) _ (by rw [List.getElem?_append_left (by rw [ndsV_len]; omega)]; exact e)
    rw [Nat.add_assoc]
    exact this
end Go.Proofs.Ytcihihncgpddfaa
