/- Trees: what is below a node stands in one stretch of the paint order; plain Lean. -/
import Derived.Test.YtcihihncgpddfaaOdA
import Derived.Test.YtcihihncgpddfaaDwr
namespace Go.Proofs.Ytcihihncgpddfaa
open Go.RowKit Go.Deep
set_option linter.unusedVariables false
set_option linter.unusedSimpArgs false

theorem deepFrom_at (d : Nat → Int) : ∀ (f n : Nat), deepFrom d f n = (0, 0) ∨ ∃ m, n ≤ m ∧ m < n + f ∧ deepFrom d f n = (103, (m : Int))
  | 0, n => .inl rfl
  | f + 1, n => by
    rw [deepFrom]
    split
    · exact .inr ⟨n, Nat.le_refl _, by omega, rfl⟩
    · rcases deepFrom_at d f (n + 1) with h | ⟨m, h1, h2, h⟩
      · exact .inl h
      · exact .inr ⟨m, by omega, by omega, h⟩
theorem loneFrom_at (t : Nat → Bool) (fin : Int × Int) : ∀ (f n : Nat), loneFrom t fin f n = fin ∨ ∃ m, n ≤ m ∧ m < n + f ∧ loneFrom t fin f n = (102, (m : Int))
  | 0, n => .inl rfl
  | f + 1, n => by
    rw [loneFrom]
    split
    · rcases loneFrom_at t fin f (n + 1) with h | ⟨m, h1, h2, h⟩
      · exact .inl h
      · exact .inr ⟨m, by omega, by omega, h⟩
    · exact .inr ⟨n, Nat.le_refl _, by omega, rfl⟩
/-- an answer of Check: nothing, or an error with a node -/
def ChkAt (N : Nat) (r : Int × Int) : Prop := r = (0, 0) ∨ (r.1 ≠ 0 ∧ ∃ m : Nat, m < N ∧ r.2 = (m : Int))
theorem endT_at {N : Nat} (hN : 0 < N) (t : Nat → Bool) (d : Nat → Int) : ChkAt N (endT N t d) := by
  unfold endT
  rcases loneFrom_at t (deepFrom d N 0) (N - 1) 1 with h | ⟨m, h1, h2, h⟩
  · rw [h]
    rcases deepFrom_at d N 0 with h | ⟨m, h1, h2, h⟩
    · exact .inl h
    · rw [h]; exact .inr ⟨by simp, m, by omega, rfl⟩
  · rw [h]; exact .inr ⟨by simp, m, by omega, rfl⟩
theorem resT_at {T : List Nd} (hT : 0 < T.length) : ∀ (l : List Nd) (n : Nat) (t : Nat → Bool) (d : Nat → Int), n + l.length = T.length → ChkAt T.length (resT T l n t d)
  | [], n, t, d, _ => endT_at hT t d
  | x :: l, n, t, d, h => by
    rw [resT_cons]
    split
    · exact resT_at hT l (n + 1) _ _ (by simp at h; omega)
    · rename_i hw
      exact .inr ⟨hw, n, by simp at h; omega, rfl⟩
theorem checkT_at (T : List Nd) : (checkT T = (0, 0) ∧ 0 < T.length) ∨ ((checkT T).1 ≠ 0 ∧ ∃ m : Nat, (m = 0 ∨ m < T.length) ∧ (checkT T).2 = (m : Int)) := by
  unfold checkT
  split
  · exact .inr ⟨by simp, 0, .inl rfl, rfl⟩
  · rename_i h
    have hp : 0 < T.length := by omega
    rcases resT_at hp T 0 (fun _ => false) (fun _ => 0) (by omega) with h | ⟨h1, m, h2, h3⟩
    · exact .inl ⟨h, hp⟩
    · exact .inr ⟨h1, m, .inr h2, h3⟩

/-- the nodes below m, m ahead -/
def subT (T : List Nd) (m : Nat) : List Nat := pre T (T.length - m) m
theorem pre_same {T : List Nd} (hc : (checkT T).1 = 0) : ∀ (f g n : Nat), n < T.length → T.length - n ≤ f → T.length - n ≤ g → pre T f n = pre T g n
  | 0, g, n, hn, hf, _ => by omega
  | f + 1, g, n, hn, hf, hg => by
    obtain ⟨g, rfl⟩ : ∃ g', g = g' + 1 := ⟨g - 1, by omega⟩
    rw [pre, pre]
    congr 1
    rw [List.flatMap_def, List.flatMap_def]
    congr 1
    refine List.map_congr_left fun k hk => ?_
    obtain ⟨q, rfl, h1, h2⟩ := kid_nat hc hn hk
    rw [Int.toNat_natCast]
    exact pre_same hc f g q h2 (by omega) (by omega)
theorem subT_eq {T : List Nd} (hc : (checkT T).1 = 0) {m : Nat} (hm : m < T.length) : subT T m = m :: (kidsOf T m).flatMap fun k => subT T k.toNat := by
  unfold subT
  obtain ⟨f, hf⟩ : ∃ f, T.length - m = f + 1 := ⟨T.length - m - 1, by omega⟩
  rw [hf, pre]
  congr 1
  rw [List.flatMap_def, List.flatMap_def]
  congr 1
  refine List.map_congr_left fun k hk => ?_
  obtain ⟨q, rfl, h1, h2⟩ := kid_nat hc hm hk
  rw [Int.toNat_natCast]
  exact pre_same hc f _ q h2 (by omega) (Nat.le_refl _)
theorem ordN_sub {T : List Nd} (hc : (checkT T).1 = 0) : ordN T = subT T 0 := by
  unfold ordN subT
  rw [if_pos hc, Nat.sub_zero]
/-- the stretch of m begins at q -/
def AtT (T : List Nd) (m q : Nat) : Prop := ∃ l r, ordN T = l ++ (subT T m ++ r) ∧ l.length = q
theorem AtT.get {T : List Nd} (hc : (checkT T).1 = 0) {m q : Nat} (hm : m < T.length) (h : AtT T m q) : (ordN T)[q]? = some m := by
  obtain ⟨l, r, h, rfl⟩ := h
  rw [h, subT_eq hc hm, List.getElem?_append_right (Nat.le_refl _), Nat.sub_self]
  rfl
/-- how many nodes lie below the first j kids -/
def skipT (T : List Nd) (m j : Nat) : Nat := (((kidsOf T m).take j).flatMap fun k => subT T k.toNat).length
theorem skipT_zero (T : List Nd) (m : Nat) : skipT T m 0 = 0 := by simp [skipT]
theorem skipT_succ {T : List Nd} {m j : Nat} (hj : j < (kidsOf T m).length) : skipT T m (j + 1) = skipT T m j + (subT T ((kidsOf T m).getD j 0).toNat).length := by
  unfold skipT
  rw [List.take_succ_eq_append_getElem hj, List.flatMap_append, List.length_append, List.getD_eq_getElem?_getD, List.getElem?_eq_getElem hj]
  simp
theorem sub_skip {T : List Nd} (hc : (checkT T).1 = 0) {m : Nat} (hm : m < T.length) : (subT T m).length = 1 + skipT T m (kidsOf T m).length := by
  rw [subT_eq hc hm, List.length_cons]
  unfold skipT
  rw [List.take_length]
  omega
theorem AtT.kid {T : List Nd} (hc : (checkT T).1 = 0) {m q : Nat} (hm : m < T.length) (h : AtT T m q) {j : Nat} (hj : j < (kidsOf T m).length) : AtT T ((kidsOf T m).getD j 0).toNat (q + 1 + skipT T m j) := by
  obtain ⟨l, r, h, rfl⟩ := h
  have e : kidsOf T m = (kidsOf T m).take j ++ ((kidsOf T m).getD j 0 :: (kidsOf T m).drop (j + 1)) := by
    rw [List.getD_eq_getElem?_getD, List.getElem?_eq_getElem hj]
    simp
  have e2 : ((kidsOf T m).flatMap fun k => subT T k.toNat) = (((kidsOf T m).take j).flatMap fun k => subT T k.toNat) ++ (subT T ((kidsOf T m).getD j 0).toNat ++ (((kidsOf T m).drop (j + 1)).flatMap fun k => subT T k.toNat)) := by
    conv => lhs; rw [e]
    rw [List.flatMap_append, List.flatMap_cons]
  refine ⟨l ++ (m :: (((kidsOf T m).take j).flatMap fun k => subT T k.toNat)), (((kidsOf T m).drop (j + 1)).flatMap fun k => subT T k.toNat) ++ r, ?_, ?_⟩
  · rw [h, subT_eq hc hm, e2]
    simp
  · rw [List.length_append, List.length_cons]
    unfold skipT
    omega
theorem at_all {T : List Nd} (hc : (checkT T).1 = 0) {m : Nat} (hm : m < T.length) : ∃ q, AtT T m q := by
  have key : ∀ {a b : Nat}, Rch T a b → a < T.length → (∃ q, AtT T a q) → ∃ q, AtT T b q := by
    intro a b h
    induction h with
    | here n => exact fun _ h => h
    | «by» k hk _ ih =>
      intro ha ⟨q, hq⟩
      have hl := kid_lt hc ha hk
      obtain ⟨j, hj, hjk⟩ := List.getElem_of_mem hk
      have := hq.kid hc ha hj
      rw [List.getD_eq_getElem?_getD, List.getElem?_eq_getElem hj, Option.getD_some, hjk, Int.toNat_natCast] at this
      exact ih hl.2 ⟨_, this⟩
  exact key (rch_all hc m m (Nat.le_refl _) hm) (check_pos hc) ⟨0, [], [], by rw [ordN_sub hc]; simp, rfl⟩
theorem get_one {T : List Nd} {i j m : Nat} (h : (ordN T)[i]? = some m) (h' : (ordN T)[j]? = some m) : i = j := by
  have hi : i < (ordN T).length := (List.getElem?_eq_some_iff.1 h).1
  exact (List.getElem?_inj hi (ordN_nodup T)).1 (h.trans h'.symm)
/-- where a node stands -/
noncomputable def plT (T : List Nd) (m : Nat) : Nat := (ordN T).idxOf m
theorem plT_of {T : List Nd} {m j : Nat} (h : (ordN T)[j]? = some m) : plT T m = j := by
  have hm : m ∈ ordN T := List.mem_of_getElem? h
  have hi : (ordN T).idxOf m < (ordN T).length := List.idxOf_lt_length_iff.2 hm
  refine get_one (m := m) ?_ h
  unfold plT
  rw [List.getElem?_eq_getElem hi, List.getElem_idxOf]
theorem plT_at {T : List Nd} (hc : (checkT T).1 = 0) {m : Nat} (hm : m < T.length) : AtT T m (plT T m) := by
  obtain ⟨q, hq⟩ := at_all hc hm
  rw [plT_of (hq.get hc hm)]
  exact hq
theorem plT_kid {T : List Nd} (hc : (checkT T).1 = 0) {m : Nat} (hm : m < T.length) {j : Nat} (hj : j < (kidsOf T m).length) {k : Nat} (hk : (kidsOf T m).getD j 0 = (k : Int)) : plT T k = plT T m + 1 + skipT T m j := by
  have h := (plT_at hc hm).kid hc hm hj
  rw [hk, Int.toNat_natCast] at h
  have hk' : (k : Int) ∈ kidsOf T m := by rw [← hk, List.getD_eq_getElem?_getD, List.getElem?_eq_getElem hj]; exact List.getElem_mem hj
  exact plT_of (h.get hc (kid_lt hc hm hk').2)
theorem plT_zero {T : List Nd} (hc : (checkT T).1 = 0) : plT T 0 = 0 := plT_of (AtT.get hc (check_pos hc) ⟨[], [], by rw [ordN_sub hc]; simp, rfl⟩)
theorem sub_all {T : List Nd} (hc : (checkT T).1 = 0) : (subT T 0).length = T.length := by rw [← ordN_sub hc, ordN_len hc]
theorem par_up {T : List Nd} (hc : (checkT T).1 = 0) {k : Nat} (h1 : 1 ≤ k) (hk : k < T.length) : 0 ≤ (parL T).getD k 0 ∧ (parL T).getD k 0 < (k : Int) := by
  obtain ⟨m, hm, hmk⟩ := kid_some hc h1 hk
  have := (parL_is hc).told m (by omega) k hmk
  omega
end Go.Proofs.Ytcihihncgpddfaa
