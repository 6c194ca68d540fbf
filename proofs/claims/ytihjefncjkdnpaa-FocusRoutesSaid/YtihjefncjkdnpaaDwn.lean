/- Trees: from the root down, whatever the visitor does: contracts of tree.down and tree.Walk. -/
import Derived.Test.YtihjefncjkdnpaaTrePa
namespace Go.Proofs.Ytihjefncjkdnpaa
open Go.RowKit Go.Deep
set_option linter.unusedVariables false
set_option linter.unusedSimpArgs false

theorem kidGo_range {N n : Nat} : ∀ (ks : List Int) (t : Nat → Bool) (d : Nat → Int), (kidGo N n ks t d).isSome = true → ∀ k ∈ ks, (n : Int) < k ∧ k < (N : Int)
  | [], _, _, _, k, hk => by cases hk
  | a :: ks, t, d, h, k, hk => by
    rw [kidGo] at h
    by_cases hb : a ≤ (n : Int) ∨ (N : Int) ≤ a ∨ t a.toNat = true
    · rw [if_pos hb] at h; cases h
    · rw [if_neg hb] at h
      rcases List.mem_cons.1 hk with rfl | hk
      · omega
      · exact kidGo_range ks _ _ h k hk
theorem check_kids {T : List Nd} (h : (checkT T).1 = 0) (i : Nat) (hi : i < T.length) : ∀ k ∈ (T.getD i zNd).kids, (i : Int) < k ∧ k < (T.length : Int) := by
  obtain ⟨t, d, hw⟩ := check_each h i hi
  generalize T.getD i zNd = x at *
  have h1 : ¬ (x.kind < 1 ∨ 11 < x.kind) := fun hb => by rw [wrong_kind hb] at hw; cases hw
  have h2 := wrong_names hw
  have h3 : ¬ kidsBad T i x t d := fun hb => by rw [wrong_kids h1 h2 hb] at hw; cases hw
  unfold kidsBad at h3
  refine kidGo_range x.kids t d ?_
  cases e : kidGo T.length i x.kids t d with
  | none => exact absurd (.inl (by rw [e]; rfl)) h3
  | some r => rfl

section
variable {γ : Type} (step : γ → Nat → Nat → γ × Bool) (T : List Nd)
/-- what a visitor's state becomes -/
def downS : Nat → Nat → Nat → γ → γ
  | 0, _, _, g => g
  | f + 1, n, d, g => if (step g n d).2 = true then (T.getD n zNd).kids.foldl (fun g k => downS f k.toNat (d + 1) g) (step g n d).1 else (step g n d).1
end
/-- the state g' lies in W'; of what there was in W only the blocks O have been written -/
def DPost {γ : Type} (Inv : γ → (Nat → Prop) → World → Prop) (g' : γ) (O : Nat → Prop) (W W' : World) : Prop := ∃ O', Inv g' O' W' ∧ W.heap.size ≤ W'.heap.size ∧ (∀ b, b < W.heap.size → ¬ O b → W'.heap[b]? = W.heap[b]?) ∧ (∀ b, O' b → O b ∨ W.heap.size ≤ b)
/-- what is asked of a visitor: the function K, what it has captured -/
structure Visitor {γ : Type} (Inv : γ → (Nat → Prop) → World → Prop) (step : γ → Nat → Nat → γ × Bool) (T : List Nd) (w0 : World) (K : FuncId) (cap : Array Value) : Prop where
  enter : ∀ (args : Array Value) (w : World), (callFunc K args).run Try.prog w = .ok (.enter K args) w
  be : ∀ {g O W}, Inv g O W → Below w0.heap.size w0 W
  later : ∀ {g O W W'}, Inv g O W → Below W.heap.size W W' → Inv g O W'
  own : ∀ {g O W}, Inv g O W → ∀ b, O b → b < W.heap.size
  call : ∀ {g O W} (n d : Nat), (checkT T).1 = 0 → n < T.length → Inv g O W → Calls Try.prog K (#[.int .i64 n, .int .i64 d] ++ cap) W fun e W' => e = .returned (.bool (step g n d).2) ∧ DPost Inv (step g n d).1 O W W'
theorem DPost.from {γ : Type} {Inv : γ → (Nat → Prop) → World → Prop} {g : γ} {O : Nat → Prop} {W W1 W' : World} (h : DPost Inv g O W1 W') (B : Below W.heap.size W W1) : DPost Inv g O W W' := by
  obtain ⟨O', h1, h2, h3, h4⟩ := h
  have z := B.size
  exact ⟨O', h1, by omega, fun b hb hO => (h3 b (by omega) hO).trans (B.block b hb), fun b hb => (h4 b hb).imp id (fun h => by omega)⟩
theorem DPost.trans {γ : Type} {Inv : γ → (Nat → Prop) → World → Prop} {g : γ} {O O1 : Nat → Prop} {W W1 W' : World} (h : DPost Inv g O1 W1 W') (hz : W.heap.size ≤ W1.heap.size) (hf : ∀ b, b < W.heap.size → ¬ O b → W1.heap[b]? = W.heap[b]?) (hg : ∀ b, O1 b → O b ∨ W.heap.size ≤ b) : DPost Inv g O W W' := by
  obtain ⟨O', h1, h2, h3, h4⟩ := h
  refine ⟨O', h1, by omega, fun b hb hO => ?_, fun b hb => ?_⟩
  · refine (h3 b (by omega) (fun h => ?_)).trans (hf b hb hO)
    rcases hg b h with h' | h'
    · exact hO h'
    · omega
  · rcases h4 b hb with h' | h'
    · exact hg b h'
    · exact .inr (by omega)
set_option maxRecDepth 100000 in
set_option maxHeartbeats 8000000 in
theorem down_any {γ : Type} {Inv : γ → (Nat → Prop) → World → Prop} {step : γ → Nat → Nat → γ × Bool} {T : List Nd} {w0 : World} {K : FuncId} {cap : Array Value} (V : Visitor Inv step T w0 K cap) (p : Option Addr) (c : Nat) (hT : TreeAt w0 (.slice p T.length c) T) (hck : (checkT T).1 = 0) :
    ∀ (f n d : Nat) (g : γ) (O : Nat → Prop) (W : World), n < T.length → T.length - n ≤ f → d + f ≤ 100000 → Inv g O W → Calls Try.prog 87 #[.agg #[.slice p T.length c], .int .i64 n, .int .i64 d, .func (.func K) #[] cap] W fun e W' => e = .returned (.tuple #[]) ∧ DPost Inv (downS step T f n d g) O W W' := by
  intro f
  induction f with
  | zero => intro n d g O W hn hf; omega
  | succ f ih =>
    intro n d g O W hn hf hd hI
    have hkids := check_kids hck n hn
    obtain ⟨_, _, p', c', e, _, _, hnd⟩ := hT
    injection e with e1 _ e2
    subst e1 e2
    obtain ⟨b, off, rfl, hb, hnd⟩ := hnd (by omega)
    obtain ⟨kv, cv, hkv, _, hc⟩ := hnd n hn
    obtain ⟨pk, ck, rfl, _, _, _, hkc⟩ := hkv
    have B1 : Below W.heap.size W (W.alloc (.cells #[.slice (some ⟨b, off, none⟩) T.length c] 24)) := below_al (Below.refl _ _) _
    have HI1 := Lib.hid (V.later hI B1)
    have hOW := Lib.hid (V.own hI)
    have B0 := V.be hI
    have hlt := ih
    have HIH := Lib.hid hlt
    have HK := Lib.hid hkids
    have HC := Lib.hid hc
    have HKC := Lib.hid hkc
    clear ih hlt hkids hc hkc hnd
    have hni : (n : Int) < (T.length : Int) := by omega
    have hent := V.enter
    go_enter Try.func87, Try.ntmps87
    go_wp2_with fail
    obtain ⟨⟨g1, bo⟩, hst⟩ : ∃ r, r = step g n d := ⟨_, rfl⟩
    have hds : downS step T (f + 1) n d g = if bo = true then (T.getD n zNd).kids.foldl (fun g k => downS step T f k.toNat (d + 1) g) g1 else g1 := by rw [downS, ← hst]
    have HDS := Lib.hid hds
    refine (V.call n d hck hn HI1.out).mono ?_
    rw [← hst]
    clear hst hds
    obtain ⟨W1, hW1⟩ : ∃ W1, W1 = W.alloc (.cells #[.slice (some ⟨b, off, none⟩) T.length c] 24) := ⟨_, rfl⟩
    rw [← hW1] at HI1 B1 ⊢
    have z1 : W.heap.size < W1.heap.size := by rw [hW1]; simp
    have y1 : W1.heap[W.heap.size]? = some (.cells #[.slice (some ⟨b, off, none⟩) T.length c] 24 (0, 0)) := by rw [hW1]; exact heap_alloc_new _ _
    have nO : ¬ O W.heap.size := fun h => absurd (hOW.out _ h) (Nat.lt_irrefl _)
    have Y1 := Lib.hid y1
    clear hW1 y1 HI1 hOW
    rintro e W2 ⟨rfl, hP⟩
    have HP := Lib.hid hP
    have x2 : W2.cell? ⟨W.heap.size, 0, none⟩ = some (.slice (some ⟨b, off, none⟩) T.length c) := by
      obtain ⟨O2, _, _, hfr, _⟩ := hP
      exact cell_of_one ((hfr _ z1 nO).trans Y1.out)
    have z2 : W.heap.size < W2.heap.size := by obtain ⟨O2, _, hz, _⟩ := hP; omega
    have BB := Lib.hid (fun g' W' (h : DPost Inv g' O W1 W') => show Below w0.heap.size w0 W' by obtain ⟨O', hI', _⟩ := h; exact V.be hI')
    clear hP
    cases bo
    · have E := Lib.hid (HDS.out.trans (if_neg (by decide)))
      clear HDS
      go_wp2
      exact bodyPost_ret (v := .tuple #[]) (results_none rfl _ _ _) rfl ⟨rfl, by rw [E.out]; exact HP.out.from B1⟩
    · have E := Lib.hid (HDS.out.trans (if_pos rfl))
      clear HDS
      have B2 := BB.out _ _ HP.out
      have c3 : W2.cell? ⟨b, off + n * 34 + 3, none⟩ = some (.slice pk (T.getD n zNd).kids.length ck) := by rw [(bcell B2).1 _ _ hb]; exact HC.out 3 (by omega)
      have hb2 : b < W2.heap.size := by have := B2.size; omega
      clear HC B2
      generalize (T.getD n zNd).kids = ks at *
      have hkl : ks.length ≤ 9223372036854775807 := by omega
      go_wp2
      go_loopw [22] (fun i wr => ∃ j : Nat, j ≤ ks.length ∧ i = .int .i64 j ∧ RowKit.Hid (DPost Inv ((ks.take j).foldl (fun g k => downS step T f k.toNat (d + 1) g) g1) O W1 wr)) (fun i _ => ks.length - (intOf i).toNat)
      case atStart => exact ⟨0, Nat.zero_le _, rfl, HP⟩
      case round =>
        clear HP c3 hb2 x2 z2
        obtain ⟨j, hj, rfl, HP⟩ := hrel
        have zr : W.heap.size < wr.heap.size := by obtain ⟨O2, _, hz, _⟩ := HP.out; omega
        have xr : wr.cell? ⟨W.heap.size, 0, none⟩ = some (.slice (some ⟨b, off, none⟩) T.length c) := by
          obtain ⟨O2, _, _, hfr, _⟩ := HP.out
          exact cell_of_one ((hfr _ z1 nO).trans Y1.out)
        have BR := BB.out _ _ HP.out
        by_cases hlt : j < ks.length
        · have hji : (j : Int) < (ks.length : Int) := by omega
          obtain ⟨bk, ok, rfl, hbk, hkc⟩ := HKC.out (by omega)
          have ck0 := hkc j hlt
          rw [← (bcell BR).1 _ _ hbk] at ck0
          have hbkw : bk < wr.heap.size := by have := BR.size; omega
          obtain ⟨q, hq⟩ : ∃ q : Nat, ks.getD j 0 = (q : Int) := by
            have := HK.out (ks.getD j 0) (by rw [List.getD_eq_getElem?_getD, List.getElem?_eq_getElem hlt]; exact List.getElem_mem hlt)
            exact ⟨(ks.getD j 0).toNat, by omega⟩
          have hqr := HK.out (ks.getD j 0) (by rw [List.getD_eq_getElem?_getD, List.getElem?_eq_getElem hlt]; exact List.getElem_mem hlt)
          rw [hq] at ck0 hqr
          have HQ := Lib.hid hq
          clear hkc hq
          obtain ⟨O2, hI2, hz2, hf2, hg2⟩ := HP.out
          have hcall := HIH.out q (d + 1) _ O2 wr (by omega) (by omega) (by omega) hI2
          rw [show ((d + 1 : Nat) : Int) = (d : Int) + 1 by omega] at hcall
          have HCALL := Lib.hid hcall
          have HZ := Lib.hid hz2
          have HF2 := Lib.hid hf2
          have HG2 := Lib.hid hg2
          clear hcall hI2 hz2 hf2 hg2
          go_wp2_with fail
          refine HCALL.out.mono ?_
          rintro e W3 ⟨rfl, hP3⟩
          have HP3 := Lib.hid (show DPost Inv ((ks.take (j + 1)).foldl (fun g k => downS step T f k.toNat (d + 1) g) g1) O W1 W3 by
            rw [List.take_succ_eq_append_getElem hlt, List.foldl_append, List.foldl_cons, List.foldl_nil]
            have e : ks[j].toNat = q := by
              have := HQ.out
              rw [List.getD_eq_getElem?_getD, List.getElem?_eq_getElem hlt] at this
              simp only [Option.getD_some] at this
              omega
            rw [e]
            exact hP3.trans HZ.out HF2.out HG2.out)
          clear HCALL hP3 HP HZ HF2 HG2
          go_wp2
          go_roundw
          case rel => exact ⟨j + 1, by omega, by go_num, HP3⟩
          case measure => simp [intOf]; omega
        · obtain rfl : j = ks.length := by omega
          have HPF := Lib.hid (show DPost Inv (ks.foldl (fun g k => downS step T f k.toNat (d + 1) g) g1) O W1 wr by have := HP.out; rwa [List.take_length] at this)
          clear hlt hj HP
          go_wp2
          go_end0
          exact ⟨rfl, by rw [E.out]; exact HPF.out.from B1⟩
/-- what Walk makes of a visitor's state -/
def walkS {γ : Type} (step : γ → Nat → Nat → γ × Bool) (T : List Nd) (g : γ) : γ := if (checkT T).1 = 0 then downS step T T.length 0 1 g else g
set_option maxRecDepth 100000 in
set_option maxHeartbeats 8000000 in
theorem walk_any {γ : Type} {Inv : γ → (Nat → Prop) → World → Prop} {step : γ → Nat → Nat → γ × Bool} {T : List Nd} {w0 : World} {K : FuncId} {cap : Array Value} (V : Visitor Inv step T w0 K cap) (p : Option Addr) (c : Nat) (hT : TreeAt w0 (.slice p T.length c) T) (g : γ) (O : Nat → Prop) (W : World) (hI : Inv g O W) : Calls Try.prog 67 #[.agg #[.slice p T.length c], .func (.func K) #[] cap] W fun e W' => e = .returned (.tuple #[]) ∧ DPost Inv (walkS step T g) O W W' := by
  have B0 := V.be hI
  have HT := Lib.hid hT
  have HTW := Lib.hid (hT.later B0)
  obtain ⟨cd, hcd⟩ : ∃ z, z = (checkT T).1 := ⟨_, rfl⟩
  have HCD := Lib.hid hcd
  have HI := Lib.hid hI
  clear hcd hT hI
  have k0 : cd = 0 ∨ cd ≠ 0 := by omega
  have hnil : ∀ w : World, (binOp .eql 124 (.func (.func K) #[] cap) .nilFunc).run Try.prog w = .ok (.bool false) w := fun w => rfl
  go_enter Try.func67, Try.ntmps67
  go_wp2_with fail
  refine (tree_Check_any p c T _ (HTW.out.later (below_al (Below.refl _ _) _))).mono ?_
  rw [← HCD.out]
  generalize (checkT T).2 = c2 at *
  rintro e W1 ⟨rfl, hb1⟩
  have B1 : Below W.heap.size W W1 := below_via hb1 (below_al (Below.refl _ _) _)
  have x1 : W1.cell? ⟨W.heap.size, 0, none⟩ = some (.slice p T.length c) := by rw [(bcell hb1).1 _ _ (by simp)]; simp [go_sem]
  have z1 : W.heap.size < W1.heap.size := by have := hb1.size; simp at this; omega
  have HI1 := Lib.hid (V.later HI.out B1)
  have HO := Lib.hid (V.own HI.out)
  clear hb1 HI HTW
  rcases k0 with h0 | h0
  · have k1 : (cd != 0) = false := by rw [bne_eq_false_iff_eq]; exact h0
    have hck := HCD.out.symm.trans h0
    have hl := check_len hck
    have HW := Lib.hid (show walkS step T g = downS step T T.length 0 1 g by unfold walkS; rw [if_pos hck])
    have HD := Lib.hid (down_any V p c HT.out hck T.length 0 1 g O W1 (by omega) (by omega) (by omega) HI1.out)
    clear h0 hck hl
    go_wp2_with fail
    refine HD.out.mono ?_
    rintro e W2 ⟨rfl, hP⟩
    have HP := Lib.hid (hP.from B1)
    clear hP HD
    go_wp2
    go_end0
    exact ⟨rfl, by rw [HW.out]; exact HP.out⟩
  · have k1 : (cd != 0) = true := by rw [bne_iff_ne]; exact h0
    have HW := Lib.hid (show walkS step T g = g by unfold walkS; rw [if_neg (fun h => h0 (HCD.out.trans h))])
    clear h0
    go_wp2
    exact bodyPost_ret (v := .tuple #[]) (results_none rfl _ _ _) rfl ⟨rfl, by rw [HW.out]; exact ⟨O, HI1.out, B1.size, fun b hb _ => B1.block b hb, fun b hb => .inl hb⟩⟩
end Go.Proofs.Ytihjefncjkdnpaa
