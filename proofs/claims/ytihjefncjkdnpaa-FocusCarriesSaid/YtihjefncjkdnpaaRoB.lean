/- Focus: contract of On. -/
import Derived.Test.YtihjefncjkdnpaaRoA
import Derived.Test.YtihjefncjkdnpaaHeld
namespace Go.Proofs.Ytihjefncjkdnpaa
open Go.RowKit Go.Deep
set_option linter.unusedVariables false
set_option linter.unusedSimpArgs false

section
variable {P : Program} {ops : Array Oper} {md : Region.Mode} {Q : Exit → Act → World → Prop} {S : World → Prop}
/-- an operation that comes up alone, or as one of several -/
theorem wpOp_value {i fuel : Nat} {listed : Array Bool} {o : Oper} {a : Act} {w w' : World} {v : Value} (h0 : ops[i]? = some o) (hw : Region.wanted o (yielded ops a.tmps) = true) (he : (execOp a.eval o).run P w = .ok (.value v) w') (hS : S w') (h : wpAnyH P md ops Q S fuel listed (a.put o.dst v) w') : wpOp P ops Q i (fun a' w' => S w' ∧ wpAnyH P md ops Q S fuel listed a' w') a w := by
  unfold wpOp
  simp only [h0, hw, if_true]
  refine .inl ?_
  unfold Oper.wp
  rw [he]
  exact ⟨hS, h⟩
theorem wpOp_skip {i fuel : Nat} {listed : Array Bool} {o : Oper} {a : Act} {w w' : World} (h0 : ops[i]? = some o) (hw : Region.wanted o (yielded ops a.tmps) = true) (he : (execOp a.eval o).run P w = .ok .skip w') (hS : S w') (h : wpAnyH P md ops Q S fuel listed (a.put o.dst undef) w') : wpOp P ops Q i (fun a' w' => S w' ∧ wpAnyH P md ops Q S fuel listed a' w') a w := by
  unfold wpOp
  simp only [h0, hw, if_true]
  refine .inl ?_
  unfold Oper.wp
  rw [he]
  exact ⟨hS, h⟩
theorem wpAnyH_one {i fuel : Nat} {listed : Array Bool} {a : Act} {w : World} (hr : Region.ready md ops listed = [i]) (h : wpOp P ops Q i (fun a' w' => S w' ∧ wpAnyH P md ops Q S fuel (listed.setIfInBounds i true) a' w') a w) : wpAnyH P md ops Q S (fuel + 1) listed a w :=
  wpAnyH_all hr (by simp) (fun j hj => by rw [List.mem_singleton] at hj; subst hj; exact h)
theorem wpAnyH_two {i k fuel : Nat} {listed : Array Bool} {a : Act} {w : World} (hr : Region.ready md ops listed = [i, k]) (h : wpOp P ops Q i (fun a' w' => S w' ∧ wpAnyH P md ops Q S fuel (listed.setIfInBounds i true) a' w') a w) (h' : wpOp P ops Q k (fun a' w' => S w' ∧ wpAnyH P md ops Q S fuel (listed.setIfInBounds k true) a' w') a w) : wpAnyH P md ops Q S (fuel + 1) listed a w :=
  wpAnyH_all hr (by simp) (fun j hj => by
    simp only [List.mem_cons, List.not_mem_nil, or_false] at hj
    rcases hj with rfl | rfl
    · exact h
    · exact h')
theorem exec_append {o : Oper} {a : Act} {w w' : World} {s x : Operand} {t : TypeId} {u v v' : Value} (ho : o.op = .call { callee := .builtin .append, args := #[s, x], argTypes := #[t, t] }) (hs : a.eval s = u) (hx : a.eval x = v) (hr : (Builtin.append_ #[t, t] o.type #[u, v]).run P w = .ok v' w') : (execOp a.eval o).run P w = .ok (.value v') w' := by
  unfold execOp
  simp only [ho, resolve, invoke, builtin, Sem.run_bind, Sem.run_pure, Result.andThen_ok, List.map_toArray, List.map_cons, List.map_nil, hs, hx, hr]
theorem exec_mapUpdate {o : Oper} {a : Act} {w w' : World} {m x y : Operand} {t : TypeId} {u k v : Value} (ho : o.op = .mapUpdate t m x y) (hm : a.eval m = u) (hx : a.eval x = k) (hy : a.eval y = v) (hr : (Instr.mapUpdate t u k v).run P w = .ok () w') : (execOp a.eval o).run P w = .ok .skip w' := by
  unfold execOp
  simp only [ho, hm, hx, hy, Sem.run_bind, Sem.run_pure, hr, Result.andThen_ok]
end
def putT (ts : Int → List Value) (k : Int) (l : List Value) : Int → List Value := fun j => if j = k then l else ts j
/-- what a router's work may write -/
def RoutO (rb mb : Nat) (f : Int → Sl) (b : Nat) : Prop := b = rb ∨ b = mb ∨ ∃ k, (slV (f k)).ownBlock = some b
structure OnPost (w0 W : World) (rb mb : Nat) (pv : Value) (P : List Int) (f : Int → Sl) (ts : Int → List Value) (many : Nat) (W' : World) : Prop where
  at_ : ∃ m' f', RouterAt w0 W' rb mb pv P m' f' ts many ∧ ∀ b, RoutO rb mb f' b → RoutO rb mb f b ∨ W.heap.size ≤ b
  sz : W.heap.size ≤ W'.heap.size
  fr : ∀ b, b < W.heap.size → ¬ RoutO rb mb f b → W'.heap[b]? = W.heap[b]?
theorem four_set {w : World} {b : Nat} {x y z u v : Value} {t : TypeId} (h : w.heap[b]? = some (.cells #[x, y, z, u] t (0, 0))) : (w.setCell ⟨b, 3, none⟩ v).heap[b]? = some (.cells #[x, y, z, v] t (0, 0)) := by
  have hlt := lt_of_block h
  have h' : w.heap[b] = .cells #[x, y, z, u] t (0, 0) := by simpa [Array.getElem?_eq_getElem hlt] using h
  show (w.heap.modify b _)[b]? = _
  rw [Array.getElem?_eq_getElem (by simpa using hlt), Array.getElem_modify_self, h']
  rfl
theorem map_ne_row {w : World} {b base : Nat} {v : Value} {n k : Nat} {t : TypeId} {xs : List Value} {es : Array MapEntry} {cl : Nat} (hb : w.heap[b]? = some (.map es cl)) (h : w.ownsRow base t k v n xs) : v.ownBlock ≠ some b := by
  rcases h.2 with ⟨rfl, _⟩ | ⟨g, c, cur, rfl, _, hh, _⟩
  · simp [Value.ownBlock]
  · simp only [Value.ownBlock]
    intro e
    injection e with e
    subst e
    rw [hb] at hh
    cases hh
theorem RouterAt.blocks {w0 W : World} {rb mb : Nat} {pv : Value} {P : List Int} {m : Nat} {f : Int → Sl} {ts : Int → List Value} {many : Nat} (h : RouterAt w0 W rb mb pv P m f ts many) : mb ≠ rb ∧ (∀ k, (slV (f k)).ownBlock ≠ some mb) ∧ ∀ k, (slV (f k)).ownBlock ≠ some rb := by
  obtain ⟨es, cl, hm⟩ := h.mp.block
  refine ⟨fun e => ?_, fun k => map_ne_row hm (h.rw k), fun k => row_blk_ne_ (h.rw k) h.ro (by decide)⟩
  have := h.ro
  rw [← e, hm] at this
  cases this
/-- the count has been raised -/
theorem RouterAt.count {w0 W : World} {rb mb : Nat} {pv : Value} {P : List Int} {m : Nat} {f : Int → Sl} {ts : Int → List Value} {many : Nat} (h : RouterAt w0 W rb mb pv P m f ts many) : RouterAt w0 (W.setCell ⟨rb, 3, none⟩ (.int .i64 ((many + 1 : Nat) : Int))) rb mb pv P m f ts (many + 1) := by
  obtain ⟨h1, h2, h3⟩ := h.blocks
  have h4 : pv.ownBlock ≠ some rb := row_blk_ne_ h.pa h.ro (by decide)
  exact ⟨h.be.setCell h.zr _, four_set h.ro, ownsRow_setCell_other h.pa h4 _, h.mp.of_block (blk_setCell_other _ _ _ _ (by simpa using h1)), by have := h.mm; omega, fun k => ownsRow_setCell_other (h.rw k) (h3 k) _, h.ap, h.zr, h.zm, fun k => by have := h.tl k; omega⟩
theorem slV_of_row {w : World} {base : Nat} {t : TypeId} {v : Value} {n : Nat} {xs : List Value} (h : w.ownsRow base t 1 v n xs) : ∃ s : Sl, v = slV s := by
  rcases row_form h with ⟨rfl, _, _⟩ | ⟨g, c, rfl, _⟩
  · exact ⟨none, rfl⟩
  · exact ⟨some (g, n, c), rfl⟩
/-- a taker has been appended, the map has been told -/
theorem RouterAt.app {w0 W W1 W2 W3 : World} {rb mb : Nat} {pv : Value} {P : List Int} {m : Nat} {f : Int → Sl} {ts : Int → List Value} {many : Nat} {k : Int} {tk : Value} {s' : Sl} (h : RouterAt w0 W rb mb pv P m f ts (many + 1)) (hm : m ≤ many) (ht : ∀ k, (ts k).length ≤ many) (BA : Below W.heap.size W W1)
    (own : W2.ownsRow w0.heap.size 91 1 (slV s') ((ts k).length + 1) (ts k ++ [tk])) (gr : W1.grownBy W2 (slV (f k)).ownBlock) (pl : (slV s').ownBlock = (slV (f k)).ownBlock ∨ (slV s').ownBlock = some W1.heap.size) (mp : TksMap W3 mb (m + 1) (putI f k s')) (gm : W2.grownBy W3 (some mb)) :
    OnPost w0 W rb mb pv P f (putT ts k (ts k ++ [tk])) (many + 1) W3 := by
  obtain ⟨h1, h2, h3⟩ := h.blocks
  have zA := BA.size
  have zg := gr.size
  have zm := gm.size
  have z0 := h.be.size
  have zrb := lt_of_block h.ro
  have zmb := h.mp.lt
  have hne : ∀ b, b < W.heap.size → (slV (f k)).ownBlock ≠ some b → b ≠ mb → W3.heap[b]? = W.heap[b]? := fun b hb h4 h5 => by
    rw [gm.block b (by omega) (fun e => h5 (by injection e)), gr.block b (by omega) (fun e => h4 e.symm), BA.block b hb]
  have hown : ∀ {t : TypeId} {v : Value} {n : Nat} {xs : List Value}, W.ownsRow w0.heap.size t 1 v n xs → (v.ownBlock = none ∨ v.ownBlock ≠ (slV (f k)).ownBlock) → v.ownBlock ≠ some mb → W3.ownsRow w0.heap.size t 1 v n xs := fun hv h4 h5 =>
    ((row_later hv BA).kept gr h4).kept gm (.inr h5)
  have s'mb : (slV s').ownBlock ≠ some mb := by
    rcases pl with e | e
    · rw [e]; exact h2 k
    · rw [e]; intro e; injection e with e; omega
  refine ⟨⟨m + 1, putI f k s', ⟨?_, ?_, ?_, mp, by omega, fun j => ?_, fun i j hij => ?_, h.zr, h.zm, fun j => ?_⟩, fun b hb => ?_⟩, by omega, fun b hb hO => ?_⟩
  · exact Below.grown (Below.grown (below_via BA h.be) gr (by omega) (fun g hg => (row_lt (h.rw k) g hg).2)) gm (by omega) (fun g hg => by injection hg with hg; have := h.zm; omega)
  · rw [hne rb zrb (h3 k) h1.symm]; exact h.ro
  · refine hown h.pa (row_ne h.pa (h.rw k) (by decide)) ?_
    obtain ⟨es, cl, hmb⟩ := h.mp.block
    exact map_ne_row hmb h.pa
  · unfold putI putT
    by_cases e : j = k
    · rw [if_pos e, if_pos e, List.length_append]
      exact own.kept gm (.inr s'mb)
    · rw [if_neg e, if_neg e]
      exact hown (h.rw j) (h.ap j k e) (h2 j)
  · have fresh : ∀ j, j ≠ k → (slV (f j)).ownBlock = none ∨ (slV (f j)).ownBlock ≠ (slV s').ownBlock := fun j hj => by
      rcases pl with e | e
      · rw [e]; exact h.ap j k hj
      · right
        rw [e]
        intro e
        have := (row_lt (h.rw j) _ e).1
        omega
    unfold putI
    by_cases ei : i = k
    · rw [if_pos ei, if_neg (fun e => hij (ei.trans e.symm))]
      rcases fresh j (fun e => hij (ei.trans e.symm)) with e | e
      · cases hs : (slV s').ownBlock with
        | none => exact .inl rfl
        | some g => exact .inr (by rw [e]; simp)
      · exact .inr (Ne.symm e)
    · rw [if_neg ei]
      by_cases ej : j = k
      · rw [if_pos ej]; exact fresh i ei
      · rw [if_neg ej]; exact h.ap i j hij
  · unfold putT
    split
    · rw [List.length_append]; have := ht k; simp; omega
    · have := ht j; omega
  · rcases hb with rfl | rfl | ⟨j, hj⟩
    · exact .inl (.inl rfl)
    · exact .inl (.inr (.inl rfl))
    · unfold putI at hj
      by_cases e : j = k
      · rw [if_pos e] at hj
        rcases pl with e' | e'
        · exact .inl (.inr (.inr ⟨k, by rw [← e']; exact hj⟩))
        · rw [e'] at hj; injection hj with hj; exact .inr (by omega)
      · rw [if_neg e] at hj
        exact .inl (.inr (.inr ⟨j, hj⟩))
  · exact hne b hb (fun e => hO (.inr (.inr ⟨k, e⟩))) (fun e => hO (.inr (.inl e)))
theorem OnPost.from {w0 W W1 W3 : World} {rb mb : Nat} {pv : Value} {P : List Int} {f : Int → Sl} {ts : Int → List Value} {many : Nat} (h : OnPost w0 W1 rb mb pv P f ts many W3) (hz : W1.heap.size = W.heap.size) (hf : ∀ b, b ≠ rb → W1.heap[b]? = W.heap[b]?) : OnPost w0 W rb mb pv P f ts many W3 := by
  obtain ⟨⟨m', f', h1, h2⟩, h3, h4⟩ := h
  exact ⟨⟨m', f', h1, fun b hb => by rw [← hz]; exact h2 b hb⟩, by omega, fun b hb hO => (h4 b (by omega) hO).trans (hf b (fun e => hO (.inl e)))⟩
set_option maxRecDepth 100000 in
set_option maxHeartbeats 8000000 in
theorem On_yes (w0 : World) (rb mb : Nat) (pv : Value) (P : List Int) (m : Nat) (f : Int → Sl) (ts : Int → List Value) (many : Nat) (n : Nat) (K : FuncId) (cap : Array Value) (W : World) (h : RouterAt w0 W rb mb pv P m f ts many) (hn : n < P.length) (hP : P.length ≤ 4096) (hm : many < 4096) : Calls Try.prog 22 #[.pointer (some ⟨rb, 0, none⟩), .int .i64 n, .func (.func K) #[] cap] W fun e W' => e = .returned (.int .i64 0) ∧ OnPost w0 W rb mb pv P f (putT ts n (ts n ++ [.func (.func K) #[] cap])) (many + 1) W' := by
  have hnil : ∀ w : World, (binOp .eql 91 (.func (.func K) #[] cap) .nilFunc).run Try.prog w = .ok (.bool false) w := fun w => rfl
  obtain ⟨hm1, hm2, hm3⟩ := h.blocks
  have c0 : W.cell? ⟨rb, 0, none⟩ = some (.int .i64 P.length) := by rw [cell_of_row _ _ _ _ _ _ h.ro]; rfl
  have c3 : W.cell? ⟨rb, 3, none⟩ = some (.int .i64 many) := by rw [cell_of_row _ _ _ _ _ _ h.ro]; rfl
  have f3 : W.frozen? ⟨rb, 3, none⟩ = false := by unfold World.frozen?; rw [h.ro]; simp
  have zb := lt_of_block h.ro
  have hni : (n : Int) < (P.length : Int) := by omega
  have hmi : (many : Int) < 4096 := by omega
  have HR1 := Lib.hid h.count
  have HM := Lib.hid h.mm
  have HTL := Lib.hid h.tl
  have HF := Lib.hid (fun b (hb : b ≠ rb) => blk_setCell_other W ⟨rb, 3, none⟩ (.int .i64 ((many + 1 : Nat) : Int)) b (by simpa using hb))
  clear h
  go_enter Try.func22, Try.ntmps22
  go_upto_region 10 with (fail)
  obtain ⟨W1, hW1⟩ : ∃ W1, W1 = W.setCell ⟨rb, 3, none⟩ (.int .i64 ((many + 1 : Nat) : Int)) := ⟨_, rfl⟩
  rw [← hW1] at HR1 HF
  rw [show ((many : Int) + 1) = ((many + 1 : Nat) : Int) by omega, ← hW1]
  have hz1 : W1.heap.size = W.heap.size := by rw [hW1]; simp
  have HZ1 := Lib.hid hz1
  clear hW1 c0 c3 f3 zb hz1
  have d2 : W1.cell? ⟨rb, 2, none⟩ = some (.map (some mb)) := by rw [cell_of_row _ _ _ _ _ _ HR1.out.ro]; rfl
  have zb := lt_of_block HR1.out.ro
  have HS0 := Lib.hid (show W1.drew.cell? ⟨rb, 2, none⟩ = some (.map (some mb)) from d2)
  obtain ⟨i0, hi, hz0, hz1, hz2⟩ := info_parts infoFun_
  have hwf : (Lit.int .i64 (n : Int)).wf = true := WalkArith.wf_i64 (by omega)
  have BD : Below W1.heap.size W1 W1.drew := Below.drew (Below.refl _ _)
  have BA : Below W1.heap.size W1 (W1.drew.alloc (.cells #[.func (.func K) #[] cap] 91)) := below_al BD _
  have hone : ∀ u ∈ [Value.func (.func K) #[] cap], u.oneCell' = true := fun u hu => by simp at hu; rcases hu with rfl; rfl
  obtain ⟨v', W2, hra, hown, hgr, _, hpl⟩ := run_append_own_at (P := Try.prog) (W1.drew.alloc (.cells #[.func (.func K) #[] cap] 91)) w0.heap.size 105 105 91 i0 _ 1 8 Try.underlying105 hi hz0 hz1 hz2 rfl (by decide) _ (ts n).length _ (row_later (HR1.out.rw n) BA) ⟨W1.heap.size, 0, none⟩ 1 1 [.func (.func K) #[] cap] rfl (World.news_of_block (cs := #[.func (.func K) #[] cap]) (t := 91) (fr := (0, 0)) (heap_alloc_new W1.drew _)) hone (by have := HTL.out n; unfold maxLen; omega) (by have := HTL.out n; omega) (by have := HR1.out.be.size; have := BA.size; omega)
  obtain ⟨s', hs'⟩ := slV_of_row hown
  subst hs'
  have hmk : TksMap W2 mb m f := (HR1.out.mp.of_block (BA.block _ HR1.out.mp.lt)).of_block (hgr.block mb (by have := HR1.out.mp.lt; have := BA.size; omega) (fun e => hm2 n e.symm))
  obtain ⟨W3, hru, hmp, hgm⟩ := hmk.put (by unfold maxLen; have := HM.out; omega) (n : Int) hwf s'
  have HPOST := Lib.hid ((RouterAt.app HR1.out HM.out HTL.out BA hown hgr hpl hmp hgm).from HZ1.out HF.out)
  have HRA := Lib.hid hra
  have HRU := Lib.hid hru
  have HLK := Lib.hid (fun (w' : World) (h : TksMap w' mb m f) => h.look (n : Int) hwf)
  have HM1 := Lib.hid (show TksMap W1.drew mb m f from HR1.out.mp)
  have HM2 := Lib.hid (HR1.out.mp.of_block (BA.block _ HR1.out.mp.lt))
  have HSA := Lib.hid (show (W1.drew.alloc (.cells #[.func (.func K) #[] cap] 91)).cell? ⟨rb, 2, none⟩ = some (.map (some mb)) by rw [(bcell BA).1 _ _ zb]; exact d2)
  have HS2 := Lib.hid (show W2.cell? ⟨rb, 2, none⟩ = some (.map (some mb)) from hgr.cell HSA.out (fun e => hm3 n e.symm))
  have HS3 := Lib.hid (show W3.cell? ⟨rb, 2, none⟩ = some (.map (some mb)) from hgm.cell HS2.out (fun e => hm1 (by injection e with e; exact e.symm)))
  clear hi hz0 hz1 hz2 BD BA hone hra hown hgr hpl hmk hru hmp hgm d2 HR1 HM HTL HF HZ1
  refine wp_region_noPanic ?_
  refine wp_region_held (S := fun w' => w'.cell? ⟨rb, 2, none⟩ = some (.map (some mb))) (by kernel_rfl) ?_
  change wpAnyH _ _ _ _ _ 15 (Array.replicate 15 false) _ W1.drew
  refine wpAnyH_take (i := 0) (v := ?v0) (by simp only [List.getElem?_toArray, List.getElem?_cons_succ, List.getElem?_cons_zero]; rfl) (by kernel_rfl) (by kernel_rfl) (by kernel_rfl) (fun _ _ _ h => h) (.inl ⟨by rfl, ?t0⟩) ?s0 ?_
  case t0 => (intro w' h; have FK := h; clear h; go_simp; try rfl)
  case s0 => exact HS0.out
  (try simp only [Act.put, List.setIfInBounds_toArray, List.set_cons_zero, List.set_cons_succ])
  refine wpAnyH_take (i := 1) (v := ?v1) (by simp only [List.getElem?_toArray, List.getElem?_cons_succ, List.getElem?_cons_zero]; rfl) (by kernel_rfl) (by kernel_rfl) (by kernel_rfl) (fun _ _ _ h => h) (.inl ⟨by rfl, ?t1⟩) ?s1 ?_
  case t1 => (intro w' h; have FK := h; clear h; go_simp; try rfl)
  case s1 => exact HS0.out
  (try simp only [Act.put, List.setIfInBounds_toArray, List.set_cons_zero, List.set_cons_succ])
  refine wpAnyH_take (i := 2) (v := ?v2) (by simp only [List.getElem?_toArray, List.getElem?_cons_succ, List.getElem?_cons_zero]; rfl) (by kernel_rfl) (by kernel_rfl) (by kernel_rfl) (fun _ _ _ h => h) (.inl ⟨by rfl, ?t2⟩) ?s2 ?_
  case t2 => (intro w' h; have FK := h; clear h; go_simp; try rfl)
  case s2 => exact HS0.out
  (try simp only [Act.put, List.setIfInBounds_toArray, List.set_cons_zero, List.set_cons_succ])
  refine wpAnyH_take (i := 3) (v := ?v3) (by simp only [List.getElem?_toArray, List.getElem?_cons_succ, List.getElem?_cons_zero]; rfl) (by kernel_rfl) (by kernel_rfl) (by kernel_rfl) (fun _ _ _ h => h) (.inl ⟨by rfl, ?t3⟩) ?s3 ?_
  case t3 => (intro w' h; have FK := h; clear h; go_simp; try rfl)
  case s3 => exact HS0.out
  (try simp only [Act.put, List.setIfInBounds_toArray, List.set_cons_zero, List.set_cons_succ])
  refine wpAnyH_take (i := 4) (v := ?v4) (by simp only [List.getElem?_toArray, List.getElem?_cons_succ, List.getElem?_cons_zero]; rfl) (by kernel_rfl) (by kernel_rfl) (by kernel_rfl) (fun _ _ _ h => h) (.inl ⟨by rfl, ?t4⟩) ?s4 ?_
  case t4 => (intro w' h; have FK := h; clear h; go_simp; try rfl)
  case s4 => exact HS0.out
  (try simp only [Act.put, List.setIfInBounds_toArray, List.set_cons_zero, List.set_cons_succ])
  refine wpAnyH_take (i := 5) (v := ?v5) (by simp only [List.getElem?_toArray, List.getElem?_cons_succ, List.getElem?_cons_zero]; rfl) (by kernel_rfl) (by kernel_rfl) (by kernel_rfl) (fun _ _ _ h => h) (.inl ⟨by rfl, ?t5⟩) ?s5 ?_
  case t5 => (intro w' h; have FK := h; clear h; go_simp; try rfl)
  case s5 => exact HS0.out
  (try simp only [Act.put, List.setIfInBounds_toArray, List.set_cons_zero, List.set_cons_succ])
  refine wpAnyH_take (i := 6) (v := ?v6) (by simp only [List.getElem?_toArray, List.getElem?_cons_succ, List.getElem?_cons_zero]; rfl) (by kernel_rfl) (by kernel_rfl) (by kernel_rfl) (fun _ _ _ h => h) (.inl ⟨by rfl, ?t6⟩) ?s6 ?_
  case t6 => (intro w' h; have FK := h; clear h; go_simp; try rfl)
  case s6 => exact HS0.out
  (try simp only [Act.put, List.setIfInBounds_toArray, List.set_cons_zero, List.set_cons_succ])
  refine wpAnyH_take (i := 7) (v := ?v7) (by simp only [List.getElem?_toArray, List.getElem?_cons_succ, List.getElem?_cons_zero]; rfl) (by kernel_rfl) (by kernel_rfl) (by kernel_rfl) (fun _ _ _ h => h) (.inl ⟨by rfl, ?t7⟩) ?s7 ?_
  case t7 => (intro w' h; have FK := h; clear h; go_simp; try rfl)
  case s7 => exact HS0.out
  (try simp only [Act.put, List.setIfInBounds_toArray, List.set_cons_zero, List.set_cons_succ])
  refine wpAnyH_take (i := 8) (v := ?v8) (by simp only [List.getElem?_toArray, List.getElem?_cons_succ, List.getElem?_cons_zero]; rfl) (by kernel_rfl) (by kernel_rfl) (by kernel_rfl) (fun _ _ _ h => h) (.inl ⟨by rfl, ?t8⟩) ?s8 ?_
  case t8 => (intro w' h; have FK := h; clear h; go_simp; try rfl)
  case s8 => exact HS0.out
  (try simp only [Act.put, List.setIfInBounds_toArray, List.set_cons_zero, List.set_cons_succ])
  refine wpAnyH_take (i := 9) (v := ?v9) (by simp only [List.getElem?_toArray, List.getElem?_cons_succ, List.getElem?_cons_zero]; rfl) (by kernel_rfl) (by kernel_rfl) (by kernel_rfl) (fun _ _ _ h => h) (.inl ⟨by rfl, ?t9⟩) ?s9 ?_
  case t9 => (intro w' h; have FK := h; clear h; go_simp; try rfl)
  case s9 => exact HS0.out
  (try simp only [Act.put, List.setIfInBounds_toArray, List.set_cons_zero, List.set_cons_succ])
  refine wpAnyH_take (i := 11) (v := ?v11) (by simp only [List.getElem?_toArray, List.getElem?_cons_succ, List.getElem?_cons_zero]; rfl) (by kernel_rfl) (by kernel_rfl) (by kernel_rfl) (fun _ _ _ h => h) (.inl ⟨by rfl, ?t11⟩) ?s11 ?_
  case t11 => (intro w' h; have FK := h; clear h; go_simp; try rfl)
  case s11 => exact HS0.out
  (try simp only [Act.put, List.setIfInBounds_toArray, List.set_cons_zero, List.set_cons_succ])
  refine wpAnyH_two (i := 10) (k := 12) (by kernel_rfl) ?A ?B
  case A =>
    refine wpOp_value (v := slV (f (n : Int))) (w' := W1.drew) (by simp only [List.getElem?_toArray, List.getElem?_cons_succ, List.getElem?_cons_zero]; rfl) (by rfl) ?lk1 HS0.out ?_
    case lk1 =>
      have hl := HLK.out _ HM1.out
      go_simp
      try rfl
    (try simp only [Act.put, List.setIfInBounds_toArray, List.set_cons_zero, List.set_cons_succ])
    refine wpAnyH_one (i := 12) (by kernel_rfl) ?_
    refine wpOp_value (v := .slice (some ⟨W1.heap.size, 0, none⟩) 1 1) (w' := (W1.drew.alloc (.cells #[.func (.func K) #[] cap] 91))) (by simp only [List.getElem?_toArray, List.getElem?_cons_succ, List.getElem?_cons_zero]; rfl) (by rfl) ?bs1 HSA.out ?_
    case bs1 =>
      go_simp
      try rfl
    (try simp only [Act.put, List.setIfInBounds_toArray, List.set_cons_zero, List.set_cons_succ])
    refine wpAnyH_one (i := 13) (by kernel_rfl) ?_
    refine wpOp_value (v := slV s') (w' := W2) (by simp only [List.getElem?_toArray, List.getElem?_cons_succ, List.getElem?_cons_zero]; rfl) (by rfl) ?r1 HS2.out ?_
    case r1 => exact exec_append (s := .tmp 47) (x := .tmp 49) (t := 105) (u := slV (f (n : Int))) (v := .slice (some ⟨W1.heap.size, 0, none⟩) 1 1) rfl rfl rfl HRA.out
    (try simp only [Act.put, List.setIfInBounds_toArray, List.set_cons_zero, List.set_cons_succ])
    refine wpAnyH_one (i := 14) (by kernel_rfl) ?_
    refine wpOp_skip (w' := W3) (by simp only [List.getElem?_toArray, List.getElem?_cons_succ, List.getElem?_cons_zero]; rfl) (by rfl) ?w1 HS3.out ?_
    case w1 => exact exec_mapUpdate (m := .tmp 40) (x := .tmp 41) (y := .tmp 50) (t := 99) (u := .map (some mb)) (k := .int .i64 (n : Int)) (v := slV s') rfl rfl rfl rfl HRU.out
    (try simp only [Act.put, List.setIfInBounds_toArray, List.set_cons_zero, List.set_cons_succ])
    refine wpAnyH_done (by kernel_rfl) (NoPanic.normal ?_) _
    go_wp2
    go_ret
    exact ⟨rfl, HPOST.out⟩
  case B =>
    refine wpOp_value (v := .slice (some ⟨W1.heap.size, 0, none⟩) 1 1) (w' := (W1.drew.alloc (.cells #[.func (.func K) #[] cap] 91))) (by simp only [List.getElem?_toArray, List.getElem?_cons_succ, List.getElem?_cons_zero]; rfl) (by rfl) ?bs2 HSA.out ?_
    case bs2 =>
      go_simp
      try rfl
    (try simp only [Act.put, List.setIfInBounds_toArray, List.set_cons_zero, List.set_cons_succ])
    refine wpAnyH_one (i := 10) (by kernel_rfl) ?_
    refine wpOp_value (v := slV (f (n : Int))) (w' := (W1.drew.alloc (.cells #[.func (.func K) #[] cap] 91))) (by simp only [List.getElem?_toArray, List.getElem?_cons_succ, List.getElem?_cons_zero]; rfl) (by rfl) ?lk2 HSA.out ?_
    case lk2 =>
      have hl := HLK.out ((W1.alloc (.cells #[.func (.func K) #[] cap] 91)).drew) HM2.out
      go_simp
      try rfl
    (try simp only [Act.put, List.setIfInBounds_toArray, List.set_cons_zero, List.set_cons_succ])
    refine wpAnyH_one (i := 13) (by kernel_rfl) ?_
    refine wpOp_value (v := slV s') (w' := W2) (by simp only [List.getElem?_toArray, List.getElem?_cons_succ, List.getElem?_cons_zero]; rfl) (by rfl) ?r2 HS2.out ?_
    case r2 => exact exec_append (s := .tmp 47) (x := .tmp 49) (t := 105) (u := slV (f (n : Int))) (v := .slice (some ⟨W1.heap.size, 0, none⟩) 1 1) rfl rfl rfl HRA.out
    (try simp only [Act.put, List.setIfInBounds_toArray, List.set_cons_zero, List.set_cons_succ])
    refine wpAnyH_one (i := 14) (by kernel_rfl) ?_
    refine wpOp_skip (w' := W3) (by simp only [List.getElem?_toArray, List.getElem?_cons_succ, List.getElem?_cons_zero]; rfl) (by rfl) ?w2 HS3.out ?_
    case w2 => exact exec_mapUpdate (m := .tmp 40) (x := .tmp 41) (y := .tmp 50) (t := 99) (u := .map (some mb)) (k := .int .i64 (n : Int)) (v := slV s') rfl rfl rfl rfl HRU.out
    (try simp only [Act.put, List.setIfInBounds_toArray, List.set_cons_zero, List.set_cons_succ])
    refine wpAnyH_done (by kernel_rfl) (NoPanic.normal ?_) _
    go_wp2
    go_ret
    exact ⟨rfl, HPOST.out⟩
end Go.Proofs.Ytihjefncjkdnpaa
