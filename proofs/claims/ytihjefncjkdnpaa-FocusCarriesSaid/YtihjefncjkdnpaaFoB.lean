/- Focus: contracts of slices.DeleteFunc and focus.Order. -/
import Derived.Test.YtihjefncjkdnpaaFoA
import Derived.Test.YtihjefncjkdnpaaLntA
namespace Go.Proofs.Ytihjefncjkdnpaa
open Go.RowKit Go.Deep
set_option linter.unusedVariables false
set_option linter.unusedSimpArgs false

theorem row_cut {w : World} {base : Nat} {t : TypeId} {g n c m : Nat} {xs : List Value} (h : w.ownsRow base t 1 (.slice (some ⟨g, 0, none⟩) n c) n xs) (hm : m ≤ n) : w.ownsRow base t 1 (.slice (some ⟨g, 0, none⟩) m c) m (xs.take m) := by
  obtain ⟨hl, ⟨e, _⟩ | ⟨g', cap, cur, e, hb, hh, hn, hx, hs, ht⟩⟩ := h
  · cases e
  · injection e with e1 _ e3
    injection e1 with e1
    injection e1 with e1
    subst e1 e3
    refine ⟨by rw [List.length_take, hl]; omega, .inr ⟨g, c, cur, rfl, hb, hh, by omega, hx, hs, ?_⟩⟩
    rw [← ht, List.take_take]
    congr 1
    omega
theorem row_at1_ {w : World} {base : Nat} {t : TypeId} {k g n c m : Nat} {xs : List Value} (h : w.ownsRow base t k (.slice (some ⟨g, 0, none⟩) m c) n xs) (i : Nat) (hi : i < n * k) : (∃ v, w.cell? ⟨g, i, none⟩ = some v) ∧ w.frozen? ⟨g, i, none⟩ = false := by
  have hc := row_cells h
  have hl : i < xs.length := by rw [h.1]; exact hi
  refine ⟨⟨xs[i], ?_⟩, ?_⟩
  · have := hc i _ (List.getElem?_eq_getElem hl)
    rwa [Nat.zero_add] at this
  · obtain ⟨_, ⟨e, _⟩ | ⟨g', cap, cur, e, _, hh, _⟩⟩ := h
    · cases e
    · injection e with e1 _ _
      injection e1 with e1
      injection e1 with e1
      subst e1
      exact frozen_of_row _ _ _ _ _ hh
theorem row_sets {base : Nat} {t : TypeId} {g n c : Nat} : ∀ (vs : List Value) (o : Nat) (w : World) (xs : List Value), w.ownsRow base t 1 (.slice (some ⟨g, 0, none⟩) n c) n xs → ∃ ys, (w.setCells g o vs).ownsRow base t 1 (.slice (some ⟨g, 0, none⟩) n c) n ys ∧ ys.take o = xs.take o
  | [], o, w, xs, h => ⟨xs, h, rfl⟩
  | v :: r, o, w, xs, h => by
    obtain ⟨ys, h1, h2⟩ := row_sets r (o + 1) _ _ (row_set h o v)
    refine ⟨ys, h1, ?_⟩
    have := congrArg (List.take o) h2
    rw [List.take_take, List.take_take, Nat.min_eq_left (Nat.le_succ o)] at this
    rw [this, List.take_set_of_le (Nat.le_refl o)]
theorem set_mid (A B : List Value) (x : Value) (h : 0 < B.length) : (A ++ B).set A.length x = (A ++ [x]) ++ B.drop 1 := by
  cases B with
  | nil => cases h
  | cons b B => simp
/-- what the first j leave, and what lies behind -/
def keepL (P : Int → Bool) (L : List Int) (j : Nat) : List Int := (L.take j).filter fun x => !P x
def laid (P : Int → Bool) (L : List Int) (j : Nat) : List Int := keepL P L j ++ L.drop (keepL P L j).length
theorem keepL_le (P : Int → Bool) (L : List Int) (j : Nat) : (keepL P L j).length ≤ j := by
  unfold keepL
  have := List.length_filter_le (fun x => !P x) (L.take j)
  have := List.length_take_le j L
  omega
theorem keepL_succ (P : Int → Bool) (L : List Int) {j : Nat} (hj : j < L.length) : keepL P L (j + 1) = keepL P L j ++ if P (L.getD j 0) then [] else [L.getD j 0] := by
  unfold keepL
  rw [List.take_succ_eq_append_getElem hj, List.filter_append]
  congr 1
  rw [List.getD_eq_getElem?_getD, List.getElem?_eq_getElem hj, Option.getD_some]
  cases h : P L[j] <;> simp [List.filter_cons, h]
theorem laid_len (P : Int → Bool) (L : List Int) {j : Nat} (hj : j ≤ L.length) : (laid P L j).length = L.length := by
  have := keepL_le P L j
  unfold laid
  rw [List.length_append, List.length_drop]
  omega
theorem laid_get (P : Int → Bool) (L : List Int) (j k : Nat) (h : (keepL P L j).length ≤ k) : (laid P L j).getD k 0 = L.getD k 0 := by
  unfold laid
  rw [List.getD_eq_getElem?_getD, List.getElem?_append_right h, List.getElem?_drop, List.getD_eq_getElem?_getD]
  congr 2
  omega
theorem laid_skip (P : Int → Bool) (L : List Int) {j : Nat} (hj : j < L.length) (hp : P (L.getD j 0) = true) : keepL P L (j + 1) = keepL P L j ∧ laid P L (j + 1) = laid P L j := by
  have h := keepL_succ P L hj
  rw [hp, if_pos rfl, List.append_nil] at h
  exact ⟨h, by unfold laid; rw [h]⟩
theorem laid_keep (P : Int → Bool) (L : List Int) {j : Nat} (hj : j < L.length) (hp : P (L.getD j 0) = false) (x : Int) (hx : x = L.getD j 0) : (keepL P L (j + 1)).length = (keepL P L j).length + 1 ∧ ((laid P L j).map (Value.int .i64)).set (keepL P L j).length (.int .i64 x) = (laid P L (j + 1)).map (Value.int .i64) := by
  have h := keepL_succ P L hj
  rw [hp, if_neg (by decide), ← hx] at h
  refine ⟨by rw [h]; simp, ?_⟩
  have hl := keepL_le P L j
  have e := set_mid ((keepL P L j).map (Value.int .i64)) ((L.drop (keepL P L j).length).map (Value.int .i64)) (.int .i64 x) (by simp; omega)
  rw [List.length_map] at e
  unfold laid
  rw [List.map_append, e, h]
  simp
theorem keepL_first (P : Int → Bool) (L : List Int) {i : Nat} (hi : i ≤ L.length) (h : ∀ j, j < i → P (L.getD j 0) = false) : keepL P L i = L.take i := by
  unfold keepL
  rw [List.filter_eq_self]
  intro x hx
  obtain ⟨j, hj, rfl⟩ := List.getElem_of_mem hx
  have hj' : j < i := by simp at hj; omega
  have := h j hj'
  rw [List.getD_eq_getElem?_getD, List.getElem?_eq_getElem (by omega)] at this
  simpa using this
theorem keepL_all (P : Int → Bool) (L : List Int) : keepL P L L.length = L.filter fun x => !P x := by unfold keepL; rw [List.take_length]
theorem laid_take (P : Int → Bool) (L : List Int) : ((laid P L L.length).map (Value.int .i64)).take (keepL P L L.length).length = (L.filter fun x => !P x).map (Value.int .i64) := by
  unfold laid
  rw [List.map_append, List.take_left' (by simp), keepL_all]
def RetD (B : Nat) (w0 : World) (L : List Int) (e : Ending) (w' : World) : Prop := ∃ v', e = .returned v' ∧ w'.ownsRow B 3 1 v' L.length (L.map (Value.int .i64)) ∧ Below w0.heap.size w0 w'
theorem zeroInt_ (w : World) : (zeroValue 3).run Try.prog w = .ok (.int .i64 0) w := by kernel_rfl
set_option maxRecDepth 100000 in
set_option maxHeartbeats 8000000 in
theorem DeleteFunc_any (w0 : World) (K : FuncId) (cap : Array Value) (B : Nat) (v : Value) (L : List Int) (P : Int → Bool) (V : PredF w0 K cap L P) (w : World) (h0 : Below w0.heap.size w0 w) (hB : w0.heap.size ≤ B) (hv : w.ownsRow B 3 1 v L.length (L.map (Value.int .i64))) (hL : L.length ≤ 9223372036854775807) : Calls Try.prog 37 #[v, .func (.func K) #[] cap] w (RetD B w0 (L.filter fun x => !P x)) := by
  have hent := V.enter
  have HV := Lib.hid V
  have HROW := Lib.hid hv
  have HIX := Lib.hid (IndexFunc_any w0 K cap v L P V w h0 (row_ints hv))
  have hsp := ixF_spec P L
  clear V
  rcases hsp with ⟨e1, hall⟩ | ⟨i, e1, hi, hpi, hlow⟩
  · have HRX := Lib.hid (fun w' (hb : Below w.heap.size w w') => show RetD B w0 (L.filter fun x => !P x) (.returned v) w' by
      have e : (L.filter fun x => !P x) = L := by
        rw [← keepL_all, keepL_first P L (Nat.le_refl _) hall, List.take_length]
      rw [e]
      exact ⟨v, rfl, row_later HROW.out hb, below_via hb h0⟩)
    have HE := Lib.hid e1
    generalize RetD B w0 (L.filter fun x => !P x) = post at *
    clear hall e1 hv
    go_enter Try.func37, Try.ntmps37
    go_wp2_with fail
    refine HIX.out.mono ?_
    rintro e w1 ⟨rfl, hb1⟩
    rw [HE.out]
    clear HIX HE
    go_wp2
    exact HRX.out _ hb1
  · obtain ⟨g, c, rfl, hgc, hcm, hgw, hgB⟩ : ∃ g c, v = .slice (some ⟨g, 0, none⟩) L.length c ∧ L.length ≤ c ∧ c ≤ maxLen ∧ g < w.heap.size ∧ B ≤ g := by
      rcases row_form hv with ⟨_, h, _⟩ | h
      · omega
      · obtain ⟨g, c, h1, h2, h3, h4, h5⟩ := h
        exact ⟨g, c, h1, h2, h3, h4, h5⟩
    unfold maxLen at hcm
    have HE := Lib.hid e1
    have K0 := Lib.hid (show (keepL P L (i + 1)).length = i ∧ laid P L (i + 1) = L by
      have h := keepL_first P L (show i ≤ L.length by omega) hlow
      obtain ⟨h1, h2⟩ := laid_skip P L hi hpi
      rw [h1, h2]
      unfold laid
      rw [h, List.length_take, Nat.min_eq_left (by omega)]
      exact ⟨rfl, List.take_append_drop i L⟩)
    have KL := Lib.hid (show (keepL P L L.length).length < L.length by
      have h1 := keepL_le P L i
      have h2 := (laid_skip P L hi hpi).1
      have up : ∀ q, i + 1 + q ≤ L.length → (keepL P L (i + 1 + q)).length ≤ i + q := by
        intro q
        induction q with
        | zero => intro _; rw [Nat.add_zero, h2]; exact h1
        | succ q ih =>
          intro hq
          rw [show i + 1 + (q + 1) = i + 1 + q + 1 by omega, keepL_succ P L (by omega), List.length_append]
          have := ih (by omega)
          split <;> simp <;> omega
      have := up (L.length - (i + 1)) (by omega)
      rw [show i + 1 + (L.length - (i + 1)) = L.length by omega] at this
      omega)
    have HRX := Lib.hid (fun w' (X : List Value) (h1 : w'.ownsRow B 3 1 (.slice (some ⟨g, 0, none⟩) L.length c) L.length X) (h2 : X.take (keepL P L L.length).length = (L.filter fun x => !P x).map (Value.int .i64)) (hb : Below w0.heap.size w0 w') => show RetD B w0 (L.filter fun x => !P x) (.returned (.slice (some ⟨g, 0, none⟩) (keepL P L L.length).length c)) w' by
      refine ⟨_, rfl, ?_, hb⟩
      have h3 := row_cut h1 (Nat.le_of_lt KL.out)
      rw [h2, keepL_all] at h3
      rw [keepL_all]
      exact h3)
    have HZ := Lib.hid (fun w => zeroInt_ w)
    generalize RetD B w0 (L.filter fun x => !P x) = post at *
    clear e1 hv hpi hlow
    go_enter Try.func37, Try.ntmps37
    go_wp2_with fail
    refine HIX.out.mono ?_
    rintro e w1 ⟨rfl, hb1⟩
    rw [HE.out]
    have R1 := Lib.hid (row_later HROW.out hb1)
    have B1 := below_via hb1 h0
    have g1 : g < w1.heap.size := by have := hb1.size; omega
    have hne1 : ((i : Int) == -1) = false := beq_eq_false_iff_ne.2 (by omega)
    clear HIX HE HROW hb1
    go_wp2
    go_loopw [5, 6] (fun a b wr => ∃ j : Nat, i < j ∧ j ≤ L.length ∧ b = .int .i64 j ∧ a = .int .i64 (keepL P L j).length ∧ Below w0.heap.size w0 wr ∧ g < wr.heap.size ∧ RowKit.Hid (wr.ownsRow B 3 1 (.slice (some ⟨g, 0, none⟩) L.length c) L.length ((laid P L j).map (Value.int .i64)))) (fun _ b _ => L.length - (intOf b).toNat)
    case atStart => exact ⟨i + 1, by omega, by omega, by go_num, by rw [K0.out.1], B1, g1, Lib.hid (by rw [K0.out.2]; exact R1.out)⟩
    case round =>
      clear R1 B1 g1
      obtain ⟨j, hij, hj, rfl, rfl, BR, gr, HR⟩ := hrel
      have hkl := keepL_le P L j
      generalize hm' : (keepL P L j).length = m at hkl ⊢
      have hm := hm'.symm
      have HM := Lib.hid hm
      clear hm'
      by_cases hlt : j < L.length
      · have hji : (j : Int) < (L.length : Int) := by omega
        have hmi : (m : Int) < (L.length : Int) := by omega
        have hll := laid_len P L hj
        obtain ⟨x, hx⟩ : ∃ x, x = L.getD j 0 := ⟨_, rfl⟩
        have HX := Lib.hid hx
        have cj : wr.cell? ⟨g, j, none⟩ = some (.int .i64 x) := by
          have := row_cells HR.out j (.int .i64 x) (by
            rw [List.getElem?_map, List.getElem?_eq_getElem (by omega)]
            have h := laid_get P L j j (by omega)
            rw [List.getD_eq_getElem?_getD, List.getElem?_eq_getElem (by omega), Option.getD_some, ← hx] at h
            rw [Option.map_some, h])
          rwa [Nat.zero_add] at this
        have hcall := HV.out.call x (by rw [hx, List.getD_eq_getElem?_getD, List.getElem?_eq_getElem hlt]; exact List.getElem_mem hlt) wr BR
        have hroom : m < L.length * 1 := by omega
        cases hp : P x with
        | true =>
          rw [hp] at hcall
          have HCL := Lib.hid hcall
          have HS := Lib.hid (laid_skip P L hlt (by rw [← HX.out]; exact hp))
          clear hcall hll hx hp hm
          go_wp2_with fail
          refine HCL.out.mono ?_
          rintro e w2 ⟨rfl, hb2⟩
          have B2 := below_via hb2 BR
          have HR2 := Lib.hid (row_later HR.out hb2)
          have g2 : g < w2.heap.size := by have := hb2.size; omega
          clear hb2 HCL HR
          go_wp2
          go_roundw
          case rel => exact ⟨j + 1, by omega, by omega, by go_num, by rw [HS.out.1, HM.out], B2, g2, Lib.hid (by rw [HS.out.2]; exact HR2.out)⟩
          case measure => simp [intOf]; omega
        | false =>
          rw [hp] at hcall
          have HCL := Lib.hid hcall
          have HS := Lib.hid (laid_keep P L hlt (by rw [← HX.out]; exact hp) x hx)
          clear hcall hll hx hp hm
          go_wp2_with fail
          refine HCL.out.mono ?_
          rintro e w2 ⟨rfl, hb2⟩
          have B2 := below_via hb2 BR
          have HR2 := Lib.hid (row_later HR.out hb2)
          have g2 : g < w2.heap.size := by have := hb2.size; omega
          obtain ⟨⟨u0, hu0⟩, f0⟩ := row_at1_ HR2.out m hroom
          clear hb2 HCL HR
          go_wp2
          go_roundw
          case rel =>
            refine ⟨j + 1, by omega, by omega, by go_num, by rw [HS.out.1, ← HM.out]; go_num, B2.setCell (by simpa using (by omega : w0.heap.size ≤ g)) _, by simpa using g2, Lib.hid ?_⟩
            have := row_set HR2.out m (.int .i64 x)
            rw [HM.out, HS.out.2] at this
            rwa [HM.out]
          case measure => simp [intOf]; omega
      · obtain rfl : j = L.length := by omega
        have hmL : m < L.length := by rw [hm]; exact KL.out
        have hmi : (m : Int) ≤ (L.length : Int) := by omega
        have hmc : (m : Int) ≤ (c : Int) := by omega
        have hmc2 : ¬ m = c := by omega
        have hcl : ∀ ty, (Builtin.clear_ #[25] ty #[.slice (some ⟨g, m, none⟩) (L.length - m) (c - m)]).run Try.prog wr = .ok (.tuple #[]) (wr.setCells g m (List.replicate (L.length - m) (.int .i64 0))) :=
          fun ty => Lib.run_clear_slice wr _ _ ty _ Try.underlying25 HZ.out rfl rfl g m _ _ (by omega) (fun t ht => by obtain ⟨⟨u, hu⟩, _⟩ := row_at1_ HR.out (m + t) (by omega); rw [hu]; rfl) (fun t ht => (row_at1_ HR.out (m + t) (by omega)).2)
        obtain ⟨X, hX1, hX2⟩ := row_sets (List.replicate (L.length - m) (.int .i64 0)) m wr _ HR.out
        have HF := Lib.hid (HRX.out _ X hX1 (by rw [← HM.out, hX2, HM.out]; exact laid_take P L) (below_setCells (by omega) _ _ _ BR))
        rw [← HM.out] at HF
        clear hX1 hX2 hlt hj HR HRX HM hm
        go_wp2
        exact HF.out
end Go.Proofs.Ytihjefncjkdnpaa
