/- RoZ: RoA RoB RoC RoD RoE in one text. -/
import Derived.Test.YtihjefncjkdnpaaFoZ
import Derived.Test.YtihjefncjkdnpaaDwr
import Derived.Laws.OwnMore
import Derived.Test.YtihjefncjkdnpaaHeld
import Derived.Test.YtihjefncjkdnpaaTbl
import Derived.Test.YtihjefncjkdnpaaLntB
namespace Go.Proofs.Ytihjefncjkdnpaa
open Go.RowKit Go.Deep
set_option linter.unusedVariables false
set_option linter.unusedSimpArgs false

/-- a slice: its block, its length, its room -/
abbrev Sl := Option (Nat × Nat × Nat)
def slV : Sl → Value
  | none => .slice none 0 0
  | some (g, n, c) => .slice (some ⟨g, 0, none⟩) n c
def slD : Sl → DataW Unit
  | none => .nil
  | some (g, n, c) => .agg [.lit (.int .i64 g), .lit (.int .i64 n), .lit (.int .i64 c)]
def rdSl (v : Value) : Option (DataW Unit × List MemPlace) :=
  match v with
  | .slice none 0 0 => some (slD none, [])
  | .slice (some ⟨g, 0, none⟩) n c => some (slD (some (g, n, c)), [])
  | _ => none
theorem rdSl_mk (s : Sl) : rdSl (slV s) = some (slD s, []) := by
  rcases s with _ | ⟨g, n, c⟩ <;> rfl
theorem rdSl_inv {v : Value} {s : Sl} {ps : List MemPlace} (h : rdSl v = some (slD s, ps)) : v = slV s := by
  unfold rdSl at h
  split at h
  · rcases s with _ | ⟨g, n, c⟩
    · rfl
    · simp [slD] at h
  · rename_i g n c
    rcases s with _ | ⟨g', n', c'⟩
    · simp [slD] at h
    · simp only [slD, Option.some.injEq, Prod.mk.injEq, DataW.agg.injEq, List.cons.injEq, DataW.lit.injEq, Lit.int.injEq, true_and, and_true] at h
      obtain ⟨⟨h1, h2, h3⟩, _⟩ := h
      obtain rfl : g = g' := by omega
      obtain rfl : n = n' := by omega
      obtain rfl : c = c' := by omega
      rfl
  · cases h
theorem zero_sl_ (w : World) : (zeroValue 105).run Try.prog w = .ok (slV none) w := by kernel_rfl
theorem int_law_ : Maps.Keyed Try.prog 3 := Maps.int_keyed Try.underlying3
/-- block b is a map of at most m nodes; f: each node's takers -/
def TksMap (w : World) (b m : Nat) (f : Int → Sl) : Prop := ∃ D : DataW Unit, w.ownsMap Try.prog 3 rdSl b m D ∧ Maps.IsMap D ∧ ∀ k : Int, (Lit.int .i64 k).wf = true → D.atKey (.int .i64 k) (slD none) = slD (f k)
theorem TksMap.of_block {w w' : World} {b m : Nat} {f : Int → Sl} (h : TksMap w b m f) (e : w'.heap[b]? = w.heap[b]?) : TksMap w' b m f := by
  obtain ⟨D, ⟨es, clock, hb, hr⟩, h2⟩ := h
  exact ⟨D, ⟨es, clock, e.trans hb, hr⟩, h2⟩
theorem TksMap.lt {w : World} {b m : Nat} {f : Int → Sl} (h : TksMap w b m f) : b < w.heap.size := by
  obtain ⟨D, h1, _⟩ := h
  exact h1.lt
theorem TksMap.block {w : World} {b m : Nat} {f : Int → Sl} (h : TksMap w b m f) : ∃ es clock, w.heap[b]? = some (.map es clock) := by
  obtain ⟨D, ⟨es, clock, hb, _⟩, _⟩ := h
  exact ⟨es, clock, hb⟩
theorem TksMap.look {w : World} {b m : Nat} {f : Int → Sl} (h : TksMap w b m f) (k : Int) (hk : (Lit.int .i64 k).wf = true) : (Instr.lookup 99 (.map (some b)) (.int .i64 k) false).run Try.prog w = .ok (slV (f k)) w := by
  obtain ⟨D, h1, h2, h3⟩ := h
  obtain ⟨v, ps, hrun, hv⟩ := h1.lookup int_law_ Try.underlying99 (zero_sl_ w) (rdSl_mk none) (Maps.keyOf_int_mk Try.underlying3 hk)
  rw [h3 k hk] at hv
  rw [hrun, rdSl_inv hv]
def putI (f : Int → Sl) (k : Int) (v : Sl) : Int → Sl := fun j => if j = k then v else f j
theorem TksMap.put {w : World} {b m : Nat} {f : Int → Sl} (h : TksMap w b m f) (hm : m < maxLen) (k : Int) (hk : (Lit.int .i64 k).wf = true) (s : Sl) : ∃ w', (Instr.mapUpdate 99 (.map (some b)) (.int .i64 k) (slV s)).run Try.prog w = .ok () w' ∧ TksMap w' b (m + 1) (putI f k s) ∧ w.grownBy w' (some b) := by
  obtain ⟨D, h1, h2, h3⟩ := h
  obtain ⟨w', hrun, h4, h5⟩ := h1.update int_law_ Try.underlying99 hm (Maps.keyOf_int_mk Try.underlying3 hk) (rdSl_mk s)
  refine ⟨w', hrun, ⟨_, h4, h2.put _ _, fun j hj => ?_⟩, h5⟩
  unfold putI
  by_cases e : j = k
  · rw [if_pos e, e]
    exact Maps.atKey_put_same (k := .int .i64 k) h2 (by first | trivial | exact hk) _ _
  · rw [if_neg e, Maps.atKey_put_other (fun h => by injection h with _ h; exact e h)]
    exact h3 j hj
theorem tksMap_made (w : World) : TksMap (w.alloc (.map #[] 0)) w.heap.size 0 (fun _ => none) :=
  ⟨.map [], World.ownsMap_made _ _ _ _, ⟨_, rfl⟩, fun l _ => rfl⟩
theorem infoFun_ : (Try.prog.info? 91).map (fun i => (i.zero, i.size, i.bytes)) = some (some .nilFunc, 1, 8) := by kernel_rfl
def parF (pv : Value) : Value := .func (.func 50) #[pv] #[]
/-- a router lies in memory: f: each node's takers, ts: what they are -/
structure RouterAt (w0 W : World) (rb mb : Nat) (pv : Value) (P : List Int) (m : Nat) (f : Int → Sl) (ts : Int → List Value) (many : Nat) : Prop where
  be : Below w0.heap.size w0 W
  ro : W.heap[rb]? = some (.cells #[.int .i64 P.length, parF pv, .map (some mb), .int .i64 many] 101 (0, 0))
  pa : W.ownsRow w0.heap.size 3 1 pv P.length (P.map (Value.int .i64))
  mp : TksMap W mb m f
  mm : m ≤ many
  rw : ∀ k : Int, W.ownsRow w0.heap.size 91 1 (slV (f k)) (ts k).length (ts k)
  ap : ∀ j k : Int, j ≠ k → (slV (f j)).ownBlock = none ∨ (slV (f j)).ownBlock ≠ (slV (f k)).ownBlock
  zr : w0.heap.size ≤ rb
  zm : w0.heap.size ≤ mb
  tl : ∀ k : Int, (ts k).length ≤ many
set_option maxRecDepth 100000 in
set_option maxHeartbeats 8000000 in
theorem focus_New_yes (p : Option Addr) (c : Nat) (T : List Nd) (w : World) (hT : TreeAt w (.slice p T.length c) T) (hck : (checkT T).1 = 0) : Calls Try.prog 20 #[.agg #[.slice p T.length c]] w fun e w' => ∃ rb mb pv, e = .returned (.tuple #[.pointer (some ⟨rb, 0, none⟩), .int .i64 0]) ∧ RouterAt w w' rb mb pv (parL T) 0 (fun _ => none) (fun _ => []) 0 := by
  have HT := Lib.hid hT
  have hlen := hT.len
  have HCK := Lib.hid hck
  have hmf : ∀ (fn : Fn) (first cap : Array Value) (w : World), (Instr.makeFunc fn first cap).run Try.prog w = .ok (.func fn first cap) w := fun _ _ _ _ => rfl
  have hmm := @run_makeMap Try.prog
  clear hT hck
  go_enter Try.func20, Try.ntmps20
  go_wp2_with fail
  refine (tree_Check_any p c T _ (HT.out.later (by go_grown))).mono ?_
  rw [HCK.out]
  generalize (checkT T).2 = c2 at *
  rintro e w1 ⟨rfl, hb1⟩
  have B1 : Below w.heap.size w w1 := below_via hb1 (by go_grown)
  have x0 : w1.cell? ⟨w.heap.size, 0, none⟩ = some (.slice p T.length c) := by rw [(bcell hb1).1 _ _ (by simp)]; simp [go_sem]
  have z0 : w.heap.size < w1.heap.size := by have := hb1.size; simp at this; omega
  clear hb1
  go_wp2_with fail
  refine (tree_Parents_any p c T _ (HT.out.later B1)).mono ?_
  rintro e w2 ⟨v, rfl, own, hb2⟩
  have B2 := below_via hb2 B1
  have HPV := Lib.hid (row_sink_ own B1.size)
  have z2 : w.heap.size ≤ w2.heap.size := B2.size
  obtain ⟨pv, cv, rfl, hcv⟩ : ∃ p c, v = .slice p (parL T).length c ∧ (parL T).length ≤ c := by
    rcases row_form own with ⟨rfl, h0, _⟩ | ⟨g, c, rfl, h1, _⟩
    · exact ⟨none, 0, by rw [h0], by omega⟩
    · exact ⟨_, _, rfl, h1⟩
  clear own hb2 x0 z0
  obtain ⟨W4, hW4⟩ : ∃ W4, W4 = (w2.alloc (.map #[] 0)).alloc (.cells #[.int .i64 (parL T).length, parF (.slice pv (parL T).length cv), .map (some w2.heap.size), .int .i64 0] 101) := ⟨_, rfl⟩
  have B24 : Below w2.heap.size w2 W4 := by rw [hW4]; exact below_al (below_al (Below.refl _ _) _) _
  have HRA := Lib.hid (show RouterAt w W4 (w2.heap.size + 1) w2.heap.size (.slice pv (parL T).length cv) (parL T) 0 (fun _ => none) (fun _ => []) 0 from by
    have b1 := heap_alloc_new (w2.alloc (.map #[] 0)) (.cells #[.int .i64 (parL T).length, parF (.slice pv (parL T).length cv), .map (some w2.heap.size), .int .i64 0] 101)
    rw [World.size_alloc] at b1
    refine ⟨below_via B24 B2, by rw [hW4]; exact b1, row_later HPV.out B24, ?_, Nat.le_refl _, fun k => ⟨rfl, .inl ⟨rfl, rfl⟩⟩, fun j k _ => .inl rfl, by omega, z2, fun k => Nat.zero_le _⟩
    rw [hW4]
    exact (tksMap_made w2).of_block (heap_alloc_old _ _ (by simp)))
  have HW4 := Lib.hid hW4
  clear hW4 B24
  go_wp2
  go_ret2
  exact ⟨_, _, _, rfl, by rw [HW4.out] at HRA; exact HRA.out⟩
set_option maxRecDepth 100000 in
set_option maxHeartbeats 4000000 in
theorem parent_any (pv : Value) (P : List Int) (n : Nat) (w : World) (hP : IntsAt w pv P) (hn : n < P.length) : Calls Try.prog 50 #[pv, .int .i64 n] w fun e w' => e = .returned (.int .i64 (P.getD n 0)) ∧ w = w' := by
  obtain ⟨p, c, rfl, h1, h2, _, hc⟩ := hP
  obtain ⟨b, off, rfl, hb, hc⟩ := hc (by omega)
  have cn := hc n hn
  generalize P.getD n 0 = x at *
  have hni : (n : Int) < (P.length : Int) := by omega
  clear hc
  go_enter Try.func50, Try.ntmps50
  go_wp2
  go_ret
  exact ⟨rfl, rfl⟩
set_option maxRecDepth 100000 in
set_option maxHeartbeats 4000000 in
theorem Clone_any (base : Nat) (s : Sl) (xs : List Value) (w : World) (h : w.ownsRow base 91 1 (slV s) xs.length xs) (h1 : ∀ x ∈ xs, x.oneCell' = true) (hl : xs.length ≤ 4096) : Calls Try.prog 69 #[slV s] w fun e w' => ∃ s', e = .returned (slV s') ∧ w'.ownsRow w.heap.size 91 1 (slV s') xs.length xs ∧ Below w.heap.size w w' := by
  obtain ⟨i0, hi, hz0, hz1, hz2⟩ := info_parts infoFun_
  have HI := Lib.hid (And.intro hi (And.intro hz0 (And.intro hz1 hz2)))
  have qT : ∀ (w : World) (a : Option Addr) (n c n' c' : Nat), (binOp .eql 105 (.slice a n c) (.slice none n' c')).run Try.prog w = .ok (.bool a.isNone) w := fun w a n c n' c' => Lib.run_eql_slice_nil w _ _ a n c n' c' Try.underlying105
  clear hi hz0 hz1 hz2
  rcases s with _ | ⟨g, n, c⟩
  · have hx : xs = [] := by
      rcases row_form h with ⟨_, _, h⟩ | ⟨g, c, e, _⟩
      · exact h
      · cases e
    subst hx
    clear h
    unfold slV
    go_enter Try.func69, Try.ntmps69
    go_wp2
    go_ret
    exact ⟨none, rfl, ⟨rfl, .inl ⟨rfl, rfl⟩⟩, Below.refl _ _⟩
  · have hnx : n = xs.length := by
      rcases row_form h with ⟨e, _⟩ | ⟨g', c', e, _⟩
      · cases e
      · injection e
    subst hnx
    have hgz := (row_lt h g rfl).1
    have HS := Lib.hid (show Src (w.alloc (.cells #[] 91)) (some ⟨g, 0, none⟩) xs.length 1 xs from (row_src h).later (below_al (Below.refl _ _) (.cells #[] 91)) (Nat.le_refl _))
    have HON := Lib.hid h1
    have HROW : RowKit.Hid ((w.alloc (.cells #[] 91)).ownsRow w.heap.size 91 1 (.slice (some ⟨w.heap.size, 0, none⟩) 0 0) 0 []) := Lib.hid ⟨rfl, .inr ⟨w.heap.size, 0, #[], rfl, Nat.le_refl _, heap_alloc_new _ _, Nat.le_refl _, Nat.zero_le _, rfl, rfl⟩⟩
    have hm : 0 + xs.length ≤ maxLen := by unfold maxLen; omega
    clear h h1
    show Calls _ _ #[.slice (some ⟨g, 0, none⟩) xs.length c] _ _
    go_enter Try.func69, Try.ntmps69
    go_wp2_with (at_builtin; go_must (refine wpList_append_src _ rfl (.tmp 5) (.tmp 6) 105 rfl w.heap.size 91 i0 _ 1 8 Try.underlying105 HI.out.1 HI.out.2.1 HI.out.2.2.1 HI.out.2.2.2 rfl (by decide) _ 0 [] rfl HROW.out (some ⟨g, 0, none⟩) xs.length c xs rfl HS.out HON.out hm ?o2 ?o3 ?_))
    case o2 => omega
    case o3 => first | omega | (simp; done) | (simp; omega)
    intro v' w1 own gr pl
    have B1 : Below w.heap.size w w1 := Below.grown (below_al (Below.refl _ _) _) gr (by simp) (fun k hk => by simp [Value.ownBlock] at hk; omega)
    have HO := Lib.hid (show w1.ownsRow w.heap.size 91 1 v' xs.length xs by simpa using own)
    obtain ⟨s', hs'⟩ : ∃ s' : Sl, v' = slV s' := by
      rcases row_form HO.out with ⟨rfl, _, _⟩ | ⟨g, c, rfl, _⟩
      · exact ⟨none, rfl⟩
      · exact ⟨some (g, xs.length, c), rfl⟩
    have HS' := Lib.hid hs'
    have B1' := Lib.hid B1
    clear own gr pl B1 hs'
    go_wp2
    go_ret
    exact ⟨s', by rw [← HS'.out]; rfl, by rw [← HS'.out]; exact HO.out, B1'.out⟩
end Go.Proofs.Ytihjefncjkdnpaa
namespace Go.Proofs.Ytihjefncjkdnpaa
open Go.RowKit Go.Deep
set_option linter.unusedVariables false
set_option linter.unusedSimpArgs false

section
variable {P : Program} {ops : Array Oper} {md : Region.Mode} {Q : Exit → Act → World → Prop} {S : World → Prop}
/-- an operation that comes up alone, or as one of several -/
theorem wpOp_value {i fuel : Nat} {listed : Array Bool} {o : Oper} {a : Act} {w w' : World} {v : Value} (h0 : ops[i]? = some o) (hw : Region.wanted o (yielded ops a.tmps) = true) (he : (execOp a.eval o).run P w = .ok (.value v) w') (hS : S w') (h : wpAnyH P md ops Q S fuel listed (a.put o.dst v) w') : wpOp P ops Q i (fun a' w' => S w' ∧ wpAnyH P md ops Q S fuel listed a' w') a w := by
  unfold wpOp
  simp only [h0, hw, if_true]
  refine .inl ?_
  unfold Oper.wp
  rw [he]
  exact ⟨hS, h⟩
theorem wpOp_skip {i fuel : Nat} {listed : Array Bool} {o : Oper} {a : Act} {w w' : World} (h0 : ops[i]? = some o) (hw : Region.wanted o (yielded ops a.tmps) = true) (he : (execOp a.eval o).run P w = .ok .skip w') (hS : S w') (h : wpAnyH P md ops Q S fuel listed (a.put o.dst undef) w') : wpOp P ops Q i (fun a' w' => S w' ∧ wpAnyH P md ops Q S fuel listed a' w') a w := by
  unfold wpOp
  simp only [h0, hw, if_true]
  refine .inl ?_
  unfold Oper.wp
  rw [he]
  exact ⟨hS, h⟩
theorem wpAnyH_one {i fuel : Nat} {listed : Array Bool} {a : Act} {w : World} (hr : Region.ready md ops listed = [i]) (h : wpOp P ops Q i (fun a' w' => S w' ∧ wpAnyH P md ops Q S fuel (listed.setIfInBounds i true) a' w') a w) : wpAnyH P md ops Q S (fuel + 1) listed a w :=
  wpAnyH_all hr (by simp) (fun j hj => by rw [List.mem_singleton] at hj; subst hj; exact h)
theorem wpAnyH_two {i k fuel : Nat} {listed : Array Bool} {a : Act} {w : World} (hr : Region.ready md ops listed = [i, k]) (h : wpOp P ops Q i (fun a' w' => S w' ∧ wpAnyH P md ops Q S fuel (listed.setIfInBounds i true) a' w') a w) (h' : wpOp P ops Q k (fun a' w' => S w' ∧ wpAnyH P md ops Q S fuel (listed.setIfInBounds k true) a' w') a w) : wpAnyH P md ops Q S (fuel + 1) listed a w :=
  wpAnyH_all hr (by simp) (fun j hj => by
    simp only [List.mem_cons, List.not_mem_nil, or_false] at hj
    rcases hj with rfl | rfl
    · exact h
    · exact h')
theorem exec_append {o : Oper} {a : Act} {w w' : World} {s x : Operand} {t : TypeId} {u v v' : Value} (ho : o.op = .call { callee := .builtin .append, args := #[s, x], argTypes := #[t, t] }) (hs : a.eval s = u) (hx : a.eval x = v) (hr : (Builtin.append_ #[t, t] o.type #[u, v]).run P w = .ok v' w') : (execOp a.eval o).run P w = .ok (.value v') w' := by
  unfold execOp
  simp only [ho, resolve, invoke, builtin, Sem.run_bind, Sem.run_pure, Result.andThen_ok, List.map_toArray, List.map_cons, List.map_nil, hs, hx, hr]
theorem exec_mapUpdate {o : Oper} {a : Act} {w w' : World} {m x y : Operand} {t : TypeId} {u k v : Value} (ho : o.op = .mapUpdate t m x y) (hm : a.eval m = u) (hx : a.eval x = k) (hy : a.eval y = v) (hr : (Instr.mapUpdate t u k v).run P w = .ok () w') : (execOp a.eval o).run P w = .ok .skip w' := by
  unfold execOp
  simp only [ho, hm, hx, hy, Sem.run_bind, Sem.run_pure, hr, Result.andThen_ok]
end
def putT (ts : Int → List Value) (k : Int) (l : List Value) : Int → List Value := fun j => if j = k then l else ts j
/-- what a router's work may write -/
def RoutO (rb mb : Nat) (f : Int → Sl) (b : Nat) : Prop := b = rb ∨ b = mb ∨ ∃ k, (slV (f k)).ownBlock = some b
structure OnPost (w0 W : World) (rb mb : Nat) (pv : Value) (P : List Int) (f : Int → Sl) (ts : Int → List Value) (many : Nat) (W' : World) : Prop where
  at_ : ∃ m' f', RouterAt w0 W' rb mb pv P m' f' ts many ∧ ∀ b, RoutO rb mb f' b → RoutO rb mb f b ∨ W.heap.size ≤ b
  sz : W.heap.size ≤ W'.heap.size
  fr : ∀ b, b < W.heap.size → ¬ RoutO rb mb f b → W'.heap[b]? = W.heap[b]?
theorem four_set {w : World} {b : Nat} {x y z u v : Value} {t : TypeId} (h : w.heap[b]? = some (.cells #[x, y, z, u] t (0, 0))) : (w.setCell ⟨b, 3, none⟩ v).heap[b]? = some (.cells #[x, y, z, v] t (0, 0)) := by
  have hlt := lt_of_block h
  have h' : w.heap[b] = .cells #[x, y, z, u] t (0, 0) := by simpa [Array.getElem?_eq_getElem hlt] using h
  show (w.heap.modify b _)[b]? = _
  rw [Array.getElem?_eq_getElem (by simpa using hlt), Array.getElem_modify_self, h']
  rfl
theorem map_ne_row {w : World} {b base : Nat} {v : Value} {n k : Nat} {t : TypeId} {xs : List Value} {es : Array MapEntry} {cl : Nat} (hb : w.heap[b]? = some (.map es cl)) (h : w.ownsRow base t k v n xs) : v.ownBlock ≠ some b := by
  rcases h.2 with ⟨rfl, _⟩ | ⟨g, c, cur, rfl, _, hh, _⟩
  · simp [Value.ownBlock]
  · simp only [Value.ownBlock]
    intro e
    injection e with e
    subst e
    rw [hb] at hh
    cases hh
theorem RouterAt.blocks {w0 W : World} {rb mb : Nat} {pv : Value} {P : List Int} {m : Nat} {f : Int → Sl} {ts : Int → List Value} {many : Nat} (h : RouterAt w0 W rb mb pv P m f ts many) : mb ≠ rb ∧ (∀ k, (slV (f k)).ownBlock ≠ some mb) ∧ ∀ k, (slV (f k)).ownBlock ≠ some rb := by
  obtain ⟨es, cl, hm⟩ := h.mp.block
  refine ⟨fun e => ?_, fun k => map_ne_row hm (h.rw k), fun k => row_blk_ne_ (h.rw k) h.ro (by decide)⟩
  have := h.ro
  rw [← e, hm] at this
  cases this
/-- the count has been raised -/
theorem RouterAt.count {w0 W : World} {rb mb : Nat} {pv : Value} {P : List Int} {m : Nat} {f : Int → Sl} {ts : Int → List Value} {many : Nat} (h : RouterAt w0 W rb mb pv P m f ts many) : RouterAt w0 (W.setCell ⟨rb, 3, none⟩ (.int .i64 ((many + 1 : Nat) : Int))) rb mb pv P m f ts (many + 1) := by
  obtain ⟨h1, h2, h3⟩ := h.blocks
  have h4 : pv.ownBlock ≠ some rb := row_blk_ne_ h.pa h.ro (by decide)
  exact ⟨h.be.setCell h.zr _, four_set h.ro, ownsRow_setCell_other h.pa h4 _, h.mp.of_block (blk_setCell_other _ _ _ _ (by simpa using h1)), by have := h.mm; omega, fun k => ownsRow_setCell_other (h.rw k) (h3 k) _, h.ap, h.zr, h.zm, fun k => by have := h.tl k; omega⟩
theorem slV_of_row {w : World} {base : Nat} {t : TypeId} {v : Value} {n : Nat} {xs : List Value} (h : w.ownsRow base t 1 v n xs) : ∃ s : Sl, v = slV s := by
  rcases row_form h with ⟨rfl, _, _⟩ | ⟨g, c, rfl, _⟩
  · exact ⟨none, rfl⟩
  · exact ⟨some (g, n, c), rfl⟩
/-- a taker has been appended, the map has been told -/
theorem RouterAt.app {w0 W W1 W2 W3 : World} {rb mb : Nat} {pv : Value} {P : List Int} {m : Nat} {f : Int → Sl} {ts : Int → List Value} {many : Nat} {k : Int} {tk : Value} {s' : Sl} (h : RouterAt w0 W rb mb pv P m f ts (many + 1)) (hm : m ≤ many) (ht : ∀ k, (ts k).length ≤ many) (BA : Below W.heap.size W W1)
    (own : W2.ownsRow w0.heap.size 91 1 (slV s') ((ts k).length + 1) (ts k ++ [tk])) (gr : W1.grownBy W2 (slV (f k)).ownBlock) (pl : (slV s').ownBlock = (slV (f k)).ownBlock ∨ (slV s').ownBlock = some W1.heap.size) (mp : TksMap W3 mb (m + 1) (putI f k s')) (gm : W2.grownBy W3 (some mb)) :
    OnPost w0 W rb mb pv P f (putT ts k (ts k ++ [tk])) (many + 1) W3 := by
  obtain ⟨h1, h2, h3⟩ := h.blocks
  have zA := BA.size
  have zg := gr.size
  have zm := gm.size
  have z0 := h.be.size
  have zrb := lt_of_block h.ro
  have zmb := h.mp.lt
  have hne : ∀ b, b < W.heap.size → (slV (f k)).ownBlock ≠ some b → b ≠ mb → W3.heap[b]? = W.heap[b]? := fun b hb h4 h5 => by
    rw [gm.block b (by omega) (fun e => h5 (by injection e)), gr.block b (by omega) (fun e => h4 e.symm), BA.block b hb]
  have hown : ∀ {t : TypeId} {v : Value} {n : Nat} {xs : List Value}, W.ownsRow w0.heap.size t 1 v n xs → (v.ownBlock = none ∨ v.ownBlock ≠ (slV (f k)).ownBlock) → v.ownBlock ≠ some mb → W3.ownsRow w0.heap.size t 1 v n xs := fun hv h4 h5 =>
    ((row_later hv BA).kept gr h4).kept gm (.inr h5)
  have s'mb : (slV s').ownBlock ≠ some mb := by
    rcases pl with e | e
    · rw [e]; exact h2 k
    · rw [e]; intro e; injection e with e; omega
  refine ⟨⟨m + 1, putI f k s', ⟨?_, ?_, ?_, mp, by omega, fun j => ?_, fun i j hij => ?_, h.zr, h.zm, fun j => ?_⟩, fun b hb => ?_⟩, by omega, fun b hb hO => ?_⟩
  · exact Below.grown (Below.grown (below_via BA h.be) gr (by omega) (fun g hg => (row_lt (h.rw k) g hg).2)) gm (by omega) (fun g hg => by injection hg with hg; have := h.zm; omega)
  · rw [hne rb zrb (h3 k) h1.symm]; exact h.ro
  · refine hown h.pa (row_ne h.pa (h.rw k) (by decide)) ?_
    obtain ⟨es, cl, hmb⟩ := h.mp.block
    exact map_ne_row hmb h.pa
  · unfold putI putT
    by_cases e : j = k
    · rw [if_pos e, if_pos e, List.length_append]
      exact own.kept gm (.inr s'mb)
    · rw [if_neg e, if_neg e]
      exact hown (h.rw j) (h.ap j k e) (h2 j)
  · have fresh : ∀ j, j ≠ k → (slV (f j)).ownBlock = none ∨ (slV (f j)).ownBlock ≠ (slV s').ownBlock := fun j hj => by
      rcases pl with e | e
      · rw [e]; exact h.ap j k hj
      · right
        rw [e]
        intro e
        have := (row_lt (h.rw j) _ e).1
        omega
    unfold putI
    by_cases ei : i = k
    · rw [if_pos ei, if_neg (fun e => hij (ei.trans e.symm))]
      rcases fresh j (fun e => hij (ei.trans e.symm)) with e | e
      · cases hs : (slV s').ownBlock with
        | none => exact .inl rfl
        | some g => exact .inr (by rw [e]; simp)
      · exact .inr (Ne.symm e)
    · rw [if_neg ei]
      by_cases ej : j = k
      · rw [if_pos ej]; exact fresh i ei
      · rw [if_neg ej]; exact h.ap i j hij
  · unfold putT
    split
    · rw [List.length_append]; have := ht k; simp; omega
    · have := ht j; omega
  · rcases hb with rfl | rfl | ⟨j, hj⟩
    · exact .inl (.inl rfl)
    · exact .inl (.inr (.inl rfl))
    · unfold putI at hj
      by_cases e : j = k
      · rw [if_pos e] at hj
        rcases pl with e' | e'
        · exact .inl (.inr (.inr ⟨k, by rw [← e']; exact hj⟩))
        · rw [e'] at hj; injection hj with hj; exact .inr (by omega)
      · rw [if_neg e] at hj
        exact .inl (.inr (.inr ⟨j, hj⟩))
  · exact hne b hb (fun e => hO (.inr (.inr ⟨k, e⟩))) (fun e => hO (.inr (.inl e)))
theorem OnPost.from {w0 W W1 W3 : World} {rb mb : Nat} {pv : Value} {P : List Int} {f : Int → Sl} {ts : Int → List Value} {many : Nat} (h : OnPost w0 W1 rb mb pv P f ts many W3) (hz : W1.heap.size = W.heap.size) (hf : ∀ b, b ≠ rb → W1.heap[b]? = W.heap[b]?) : OnPost w0 W rb mb pv P f ts many W3 := by
  obtain ⟨⟨m', f', h1, h2⟩, h3, h4⟩ := h
  exact ⟨⟨m', f', h1, fun b hb => by rw [← hz]; exact h2 b hb⟩, by omega, fun b hb hO => (h4 b (by omega) hO).trans (hf b (fun e => hO (.inl e)))⟩
set_option maxRecDepth 100000 in
set_option maxHeartbeats 8000000 in
theorem On_yes (w0 : World) (rb mb : Nat) (pv : Value) (P : List Int) (m : Nat) (f : Int → Sl) (ts : Int → List Value) (many : Nat) (n : Nat) (K : FuncId) (cap : Array Value) (W : World) (h : RouterAt w0 W rb mb pv P m f ts many) (hn : n < P.length) (hP : P.length ≤ 4096) (hm : many < 4096) : Calls Try.prog 22 #[.pointer (some ⟨rb, 0, none⟩), .int .i64 n, .func (.func K) #[] cap] W fun e W' => e = .returned (.int .i64 0) ∧ OnPost w0 W rb mb pv P f (putT ts n (ts n ++ [.func (.func K) #[] cap])) (many + 1) W' := by
  have hnil : ∀ w : World, (binOp .eql 91 (.func (.func K) #[] cap) .nilFunc).run Try.prog w = .ok (.bool false) w := fun w => rfl
  obtain ⟨hm1, hm2, hm3⟩ := h.blocks
  have c0 : W.cell? ⟨rb, 0, none⟩ = some (.int .i64 P.length) := by rw [cell_of_row _ _ _ _ _ _ h.ro]; rfl
  have c3 : W.cell? ⟨rb, 3, none⟩ = some (.int .i64 many) := by rw [cell_of_row _ _ _ _ _ _ h.ro]; rfl
  have f3 : W.frozen? ⟨rb, 3, none⟩ = false := by unfold World.frozen?; rw [h.ro]; simp
  have zb := lt_of_block h.ro
  have hni : (n : Int) < (P.length : Int) := by omega
  have hmi : (many : Int) < 4096 := by omega
  have HR1 := Lib.hid h.count
  have HM := Lib.hid h.mm
  have HTL := Lib.hid h.tl
  have HF := Lib.hid (fun b (hb : b ≠ rb) => blk_setCell_other W ⟨rb, 3, none⟩ (.int .i64 ((many + 1 : Nat) : Int)) b (by simpa using hb))
  clear h
  go_enter Try.func22, Try.ntmps22
  go_upto_region 10 with (fail)
  obtain ⟨W1, hW1⟩ : ∃ W1, W1 = W.setCell ⟨rb, 3, none⟩ (.int .i64 ((many + 1 : Nat) : Int)) := ⟨_, rfl⟩
  rw [← hW1] at HR1 HF
  rw [show ((many : Int) + 1) = ((many + 1 : Nat) : Int) by omega, ← hW1]
  have hz1 : W1.heap.size = W.heap.size := by rw [hW1]; simp
  have HZ1 := Lib.hid hz1
  clear hW1 c0 c3 f3 zb hz1
  have d2 : W1.cell? ⟨rb, 2, none⟩ = some (.map (some mb)) := by rw [cell_of_row _ _ _ _ _ _ HR1.out.ro]; rfl
  have zb := lt_of_block HR1.out.ro
  have HS0 := Lib.hid (show W1.drew.cell? ⟨rb, 2, none⟩ = some (.map (some mb)) from d2)
  obtain ⟨i0, hi, hz0, hz1, hz2⟩ := info_parts infoFun_
  have hwf : (Lit.int .i64 (n : Int)).wf = true := WalkArith.wf_i64 (by omega)
  have BD : Below W1.heap.size W1 W1.drew := Below.drew (Below.refl _ _)
  have BA : Below W1.heap.size W1 (W1.drew.alloc (.cells #[.func (.func K) #[] cap] 91)) := below_al BD _
  have hone : ∀ u ∈ [Value.func (.func K) #[] cap], u.oneCell' = true := fun u hu => by simp at hu; rcases hu with rfl; rfl
  obtain ⟨v', W2, hra, hown, hgr, _, hpl⟩ := run_append_own_at (P := Try.prog) (W1.drew.alloc (.cells #[.func (.func K) #[] cap] 91)) w0.heap.size 105 105 91 i0 _ 1 8 Try.underlying105 hi hz0 hz1 hz2 rfl (by decide) _ (ts n).length _ (row_later (HR1.out.rw n) BA) ⟨W1.heap.size, 0, none⟩ 1 1 [.func (.func K) #[] cap] rfl (World.news_of_block (cs := #[.func (.func K) #[] cap]) (t := 91) (fr := (0, 0)) (heap_alloc_new W1.drew _)) hone (by have := HTL.out n; unfold maxLen; omega) (by have := HTL.out n; omega) (by have := HR1.out.be.size; have := BA.size; omega)
  obtain ⟨s', hs'⟩ := slV_of_row hown
  subst hs'
  have hmk : TksMap W2 mb m f := (HR1.out.mp.of_block (BA.block _ HR1.out.mp.lt)).of_block (hgr.block mb (by have := HR1.out.mp.lt; have := BA.size; omega) (fun e => hm2 n e.symm))
  obtain ⟨W3, hru, hmp, hgm⟩ := hmk.put (by unfold maxLen; have := HM.out; omega) (n : Int) hwf s'
  have HPOST := Lib.hid ((RouterAt.app HR1.out HM.out HTL.out BA hown hgr hpl hmp hgm).from HZ1.out HF.out)
  have HRA := Lib.hid hra
  have HRU := Lib.hid hru
  have HLK := Lib.hid (fun (w' : World) (h : TksMap w' mb m f) => h.look (n : Int) hwf)
  have HM1 := Lib.hid (show TksMap W1.drew mb m f from HR1.out.mp)
  have HM2 := Lib.hid (HR1.out.mp.of_block (BA.block _ HR1.out.mp.lt))
  have HSA := Lib.hid (show (W1.drew.alloc (.cells #[.func (.func K) #[] cap] 91)).cell? ⟨rb, 2, none⟩ = some (.map (some mb)) by rw [(bcell BA).1 _ _ zb]; exact d2)
  have HS2 := Lib.hid (show W2.cell? ⟨rb, 2, none⟩ = some (.map (some mb)) from hgr.cell HSA.out (fun e => hm3 n e.symm))
  have HS3 := Lib.hid (show W3.cell? ⟨rb, 2, none⟩ = some (.map (some mb)) from hgm.cell HS2.out (fun e => hm1 (by injection e with e; exact e.symm)))
  clear hi hz0 hz1 hz2 BD BA hone hra hown hgr hpl hmk hru hmp hgm d2 HR1 HM HTL HF HZ1
  refine wp_region_noPanic ?_
  refine wp_region_held (S := fun w' => w'.cell? ⟨rb, 2, none⟩ = some (.map (some mb))) (by kernel_rfl) ?_
  change wpAnyH _ _ _ _ _ 15 (Array.replicate 15 false) _ W1.drew
  refine wpAnyH_take (i := 0) (v := ?v0) (by simp only [List.getElem?_toArray, List.getElem?_cons_succ, List.getElem?_cons_zero]; rfl) (by kernel_rfl) (by kernel_rfl) (by kernel_rfl) (fun _ _ _ h => h) (.inl ⟨by rfl, ?t0⟩) ?s0 ?_
  case t0 => (intro w' h; have FK := h; clear h; go_simp; try rfl)
  case s0 => exact HS0.out
  (try simp only [Act.put, List.setIfInBounds_toArray, List.set_cons_zero, List.set_cons_succ])
  refine wpAnyH_take (i := 1) (v := ?v1) (by simp only [List.getElem?_toArray, List.getElem?_cons_succ, List.getElem?_cons_zero]; rfl) (by kernel_rfl) (by kernel_rfl) (by kernel_rfl) (fun _ _ _ h => h) (.inl ⟨by rfl, ?t1⟩) ?s1 ?_
  case t1 => (intro w' h; have FK := h; clear h; go_simp; try rfl)
  case s1 => exact HS0.out
  (try simp only [Act.put, List.setIfInBounds_toArray, List.set_cons_zero, List.set_cons_succ])
  refine wpAnyH_take (i := 2) (v := ?v2) (by simp only [List.getElem?_toArray, List.getElem?_cons_succ, List.getElem?_cons_zero]; rfl) (by kernel_rfl) (by kernel_rfl) (by kernel_rfl) (fun _ _ _ h => h) (.inl ⟨by rfl, ?t2⟩) ?s2 ?_
  case t2 => (intro w' h; have FK := h; clear h; go_simp; try rfl)
  case s2 => exact HS0.out
  (try simp only [Act.put, List.setIfInBounds_toArray, List.set_cons_zero, List.set_cons_succ])
  refine wpAnyH_take (i := 3) (v := ?v3) (by simp only [List.getElem?_toArray, List.getElem?_cons_succ, List.getElem?_cons_zero]; rfl) (by kernel_rfl) (by kernel_rfl) (by kernel_rfl) (fun _ _ _ h => h) (.inl ⟨by rfl, ?t3⟩) ?s3 ?_
  case t3 => (intro w' h; have FK := h; clear h; go_simp; try rfl)
  case s3 => exact HS0.out
  (try simp only [Act.put, List.setIfInBounds_toArray, List.set_cons_zero, List.set_cons_succ])
  refine wpAnyH_take (i := 4) (v := ?v4) (by simp only [List.getElem?_toArray, List.getElem?_cons_succ, List.getElem?_cons_zero]; rfl) (by kernel_rfl) (by kernel_rfl) (by kernel_rfl) (fun _ _ _ h => h) (.inl ⟨by rfl, ?t4⟩) ?s4 ?_
  case t4 => (intro w' h; have FK := h; clear h; go_simp; try rfl)
  case s4 => exact HS0.out
  (try simp only [Act.put, List.setIfInBounds_toArray, List.set_cons_zero, List.set_cons_succ])
  refine wpAnyH_take (i := 5) (v := ?v5) (by simp only [List.getElem?_toArray, List.getElem?_cons_succ, List.getElem?_cons_zero]; rfl) (by kernel_rfl) (by kernel_rfl) (by kernel_rfl) (fun _ _ _ h => h) (.inl ⟨by rfl, ?t5⟩) ?s5 ?_
  case t5 => (intro w' h; have FK := h; clear h; go_simp; try rfl)
  case s5 => exact HS0.out
  (try simp only [Act.put, List.setIfInBounds_toArray, List.set_cons_zero, List.set_cons_succ])
  refine wpAnyH_take (i := 6) (v := ?v6) (by simp only [List.getElem?_toArray, List.getElem?_cons_succ, List.getElem?_cons_zero]; rfl) (by kernel_rfl) (by kernel_rfl) (by kernel_rfl) (fun _ _ _ h => h) (.inl ⟨by rfl, ?t6⟩) ?s6 ?_
  case t6 => (intro w' h; have FK := h; clear h; go_simp; try rfl)
  case s6 => exact HS0.out
  (try simp only [Act.put, List.setIfInBounds_toArray, List.set_cons_zero, List.set_cons_succ])
  refine wpAnyH_take (i := 7) (v := ?v7) (by simp only [List.getElem?_toArray, List.getElem?_cons_succ, List.getElem?_cons_zero]; rfl) (by kernel_rfl) (by kernel_rfl) (by kernel_rfl) (fun _ _ _ h => h) (.inl ⟨by rfl, ?t7⟩) ?s7 ?_
  case t7 => (intro w' h; have FK := h; clear h; go_simp; try rfl)
  case s7 => exact HS0.out
  (try simp only [Act.put, List.setIfInBounds_toArray, List.set_cons_zero, List.set_cons_succ])
  refine wpAnyH_take (i := 8) (v := ?v8) (by simp only [List.getElem?_toArray, List.getElem?_cons_succ, List.getElem?_cons_zero]; rfl) (by kernel_rfl) (by kernel_rfl) (by kernel_rfl) (fun _ _ _ h => h) (.inl ⟨by rfl, ?t8⟩) ?s8 ?_
  case t8 => (intro w' h; have FK := h; clear h; go_simp; try rfl)
  case s8 => exact HS0.out
  (try simp only [Act.put, List.setIfInBounds_toArray, List.set_cons_zero, List.set_cons_succ])
  refine wpAnyH_take (i := 9) (v := ?v9) (by simp only [List.getElem?_toArray, List.getElem?_cons_succ, List.getElem?_cons_zero]; rfl) (by kernel_rfl) (by kernel_rfl) (by kernel_rfl) (fun _ _ _ h => h) (.inl ⟨by rfl, ?t9⟩) ?s9 ?_
  case t9 => (intro w' h; have FK := h; clear h; go_simp; try rfl)
  case s9 => exact HS0.out
  (try simp only [Act.put, List.setIfInBounds_toArray, List.set_cons_zero, List.set_cons_succ])
  refine wpAnyH_take (i := 11) (v := ?v11) (by simp only [List.getElem?_toArray, List.getElem?_cons_succ, List.getElem?_cons_zero]; rfl) (by kernel_rfl) (by kernel_rfl) (by kernel_rfl) (fun _ _ _ h => h) (.inl ⟨by rfl, ?t11⟩) ?s11 ?_
  case t11 => (intro w' h; have FK := h; clear h; go_simp; try rfl)
  case s11 => exact HS0.out
  (try simp only [Act.put, List.setIfInBounds_toArray, List.set_cons_zero, List.set_cons_succ])
  refine wpAnyH_two (i := 10) (k := 12) (by kernel_rfl) ?A ?B
  case A =>
    refine wpOp_value (v := slV (f (n : Int))) (w' := W1.drew) (by simp only [List.getElem?_toArray, List.getElem?_cons_succ, List.getElem?_cons_zero]; rfl) (by rfl) ?lk1 HS0.out ?_
    case lk1 =>
      have hl := HLK.out _ HM1.out
      go_simp
      try rfl
    (try simp only [Act.put, List.setIfInBounds_toArray, List.set_cons_zero, List.set_cons_succ])
    refine wpAnyH_one (i := 12) (by kernel_rfl) ?_
    refine wpOp_value (v := .slice (some ⟨W1.heap.size, 0, none⟩) 1 1) (w' := (W1.drew.alloc (.cells #[.func (.func K) #[] cap] 91))) (by simp only [List.getElem?_toArray, List.getElem?_cons_succ, List.getElem?_cons_zero]; rfl) (by rfl) ?bs1 HSA.out ?_
    case bs1 =>
      go_simp
      try rfl
    (try simp only [Act.put, List.setIfInBounds_toArray, List.set_cons_zero, List.set_cons_succ])
    refine wpAnyH_one (i := 13) (by kernel_rfl) ?_
    refine wpOp_value (v := slV s') (w' := W2) (by simp only [List.getElem?_toArray, List.getElem?_cons_succ, List.getElem?_cons_zero]; rfl) (by rfl) ?r1 HS2.out ?_
    case r1 => exact exec_append (s := .tmp 47) (x := .tmp 49) (t := 105) (u := slV (f (n : Int))) (v := .slice (some ⟨W1.heap.size, 0, none⟩) 1 1) rfl rfl rfl HRA.out
    (try simp only [Act.put, List.setIfInBounds_toArray, List.set_cons_zero, List.set_cons_succ])
    refine wpAnyH_one (i := 14) (by kernel_rfl) ?_
    refine wpOp_skip (w' := W3) (by simp only [List.getElem?_toArray, List.getElem?_cons_succ, List.getElem?_cons_zero]; rfl) (by rfl) ?w1 HS3.out ?_
    case w1 => exact exec_mapUpdate (m := .tmp 40) (x := .tmp 41) (y := .tmp 50) (t := 99) (u := .map (some mb)) (k := .int .i64 (n : Int)) (v := slV s') rfl rfl rfl rfl HRU.out
    (try simp only [Act.put, List.setIfInBounds_toArray, List.set_cons_zero, List.set_cons_succ])
    refine wpAnyH_done (by kernel_rfl) (NoPanic.normal ?_) _
    go_wp2
    go_ret
    exact ⟨rfl, HPOST.out⟩
  case B =>
    refine wpOp_value (v := .slice (some ⟨W1.heap.size, 0, none⟩) 1 1) (w' := (W1.drew.alloc (.cells #[.func (.func K) #[] cap] 91))) (by simp only [List.getElem?_toArray, List.getElem?_cons_succ, List.getElem?_cons_zero]; rfl) (by rfl) ?bs2 HSA.out ?_
    case bs2 =>
      go_simp
      try rfl
    (try simp only [Act.put, List.setIfInBounds_toArray, List.set_cons_zero, List.set_cons_succ])
    refine wpAnyH_one (i := 10) (by kernel_rfl) ?_
    refine wpOp_value (v := slV (f (n : Int))) (w' := (W1.drew.alloc (.cells #[.func (.func K) #[] cap] 91))) (by simp only [List.getElem?_toArray, List.getElem?_cons_succ, List.getElem?_cons_zero]; rfl) (by rfl) ?lk2 HSA.out ?_
    case lk2 =>
      have hl := HLK.out ((W1.alloc (.cells #[.func (.func K) #[] cap] 91)).drew) HM2.out
      go_simp
      try rfl
    (try simp only [Act.put, List.setIfInBounds_toArray, List.set_cons_zero, List.set_cons_succ])
    refine wpAnyH_one (i := 13) (by kernel_rfl) ?_
    refine wpOp_value (v := slV s') (w' := W2) (by simp only [List.getElem?_toArray, List.getElem?_cons_succ, List.getElem?_cons_zero]; rfl) (by rfl) ?r2 HS2.out ?_
    case r2 => exact exec_append (s := .tmp 47) (x := .tmp 49) (t := 105) (u := slV (f (n : Int))) (v := .slice (some ⟨W1.heap.size, 0, none⟩) 1 1) rfl rfl rfl HRA.out
    (try simp only [Act.put, List.setIfInBounds_toArray, List.set_cons_zero, List.set_cons_succ])
    refine wpAnyH_one (i := 14) (by kernel_rfl) ?_
    refine wpOp_skip (w' := W3) (by simp only [List.getElem?_toArray, List.getElem?_cons_succ, List.getElem?_cons_zero]; rfl) (by rfl) ?w2 HS3.out ?_
    case w2 => exact exec_mapUpdate (m := .tmp 40) (x := .tmp 41) (y := .tmp 50) (t := 99) (u := .map (some mb)) (k := .int .i64 (n : Int)) (v := slV s') rfl rfl rfl rfl HRU.out
    (try simp only [Act.put, List.setIfInBounds_toArray, List.set_cons_zero, List.set_cons_succ])
    refine wpAnyH_done (by kernel_rfl) (NoPanic.normal ?_) _
    go_wp2
    go_ret
    exact ⟨rfl, HPOST.out⟩
end Go.Proofs.Ytihjefncjkdnpaa
namespace Go.Proofs.Ytihjefncjkdnpaa
open Go.RowKit Go.Deep
set_option linter.unusedVariables false
set_option linter.unusedSimpArgs false

/-- the nodes from n up to the root -/
def wayP (P : List Int) : Nat → Int → List Int
  | 0, _ => []
  | f + 1, n => if n < 0 then [] else n :: wayP P f (P.getD n.toNat 0)
theorem wayP_len (P : List Int) : ∀ f n, (wayP P f n).length ≤ f
  | 0, _ => Nat.le_refl _
  | f + 1, n => by
    rw [wayP]
    split
    · simp
    · have := wayP_len P f (P.getD n.toNat 0)
      rw [List.length_cons]
      omega
theorem wayP_neg (P : List Int) (f : Nat) {n : Int} (h : n < 0) : wayP P f n = [] := by
  cases f with
  | zero => rfl
  | succ f => rw [wayP, if_pos h]
def UpOk (P : List Int) : Prop := ∀ i : Nat, i < P.length → -1 ≤ P.getD i 0 ∧ P.getD i 0 < (i : Int)
theorem wayP_in {P : List Int} (hP : UpOk P) : ∀ f n, n < (P.length : Int) → ∀ k ∈ wayP P f n, 0 ≤ k ∧ k < (P.length : Int)
  | 0, _, _, k, hk => by cases hk
  | f + 1, n, hn, k, hk => by
    rw [wayP] at hk
    by_cases h : n < 0
    · rw [if_pos h] at hk; cases hk
    · rw [if_neg h] at hk
      rcases List.mem_cons.1 hk with rfl | hk
      · omega
      · have := hP n.toNat (by omega)
        exact wayP_in hP f _ (by omega) k hk
section
variable {γ : Type} (step : γ → Value → γ × Bool) (Ok : γ → Value → Prop) (ts : Int → List Value)
/-- takers are called till one says yes -/
def callL : γ → List Value → γ × Bool
  | g, [] => (g, false)
  | g, tk :: l => if (step g tk).2 = true then ((step g tk).1, true) else callL (step g tk).1 l
def okL : γ → List Value → Prop
  | _, [] => True
  | g, tk :: l => Ok g tk ∧ ((step g tk).2 = false → okL (step g tk).1 l)
def sendS : γ → List Int → γ × Int
  | g, [] => (g, -1)
  | g, k :: l => if (callL step g (ts k)).2 = true then ((callL step g (ts k)).1, k) else sendS (callL step g (ts k)).1 l
def okS : γ → List Int → Prop
  | _, [] => True
  | g, k :: l => okL step Ok g (ts k) ∧ ((callL step g (ts k)).2 = false → okS (callL step g (ts k)).1 l)
end
theorem drop_at {α : Type} {l : List α} {i : Nat} (h : i < l.length) : l.drop i = l[i] :: l.drop (i + 1) := List.drop_eq_getElem_cons h
theorem getD_at {α : Type} {l : List α} {i : Nat} (z : α) (h : i < l.length) : l.getD i z = l[i] := by rw [List.getD_eq_getElem?_getD, List.getElem?_eq_getElem h]; rfl
/-- an own row of single cells, cell by cell -/
theorem row_vals {w : World} {base : Nat} {t : TypeId} {n : Nat} {v : Value} {xs : List Value} (h : w.ownsRow base t 1 v n xs) : ∃ p c, v = .slice p n c ∧ n ≤ c ∧ c ≤ 9223372036854775807 ∧ xs.length = n ∧ (0 < n → ∃ b, p = some ⟨b, 0, none⟩ ∧ b < w.heap.size ∧ base ≤ b ∧ ∀ i, i < n → w.cell? ⟨b, i, none⟩ = xs[i]?) := by
  have hl : xs.length = n := by have := h.1; omega
  rcases row_form h with ⟨rfl, rfl, rfl⟩ | ⟨g, c, rfl, h1, h2, h3, h4⟩
  · exact ⟨none, 0, rfl, Nat.le_refl _, by omega, rfl, fun h => by cases h⟩
  · refine ⟨_, _, rfl, h1, by unfold maxLen at h2; omega, hl, fun _ => ⟨g, rfl, h3, h4, fun i hi => ?_⟩⟩
    have := row_cells h i xs[i] (List.getElem?_eq_getElem (by omega))
    rw [Nat.zero_add] at this
    rw [this, List.getElem?_eq_getElem (by omega)]
theorem DPost.call {γ : Type} {Inv : γ → (Nat → Prop) → World → Prop} {g g' : γ} {O : Nat → Prop} {W W1 W' : World} (h : DPost Inv g O W W1) (hc : ∀ O1, Inv g O1 W1 → (∀ b, O1 b → O b ∨ W.heap.size ≤ b) → DPost Inv g' O1 W1 W') : DPost Inv g' O W W' := by
  obtain ⟨O1, h1, h2, h3, h4⟩ := h
  exact (hc O1 h1 h4).trans h2 h3 h4
/-- what is asked of the takers -/
structure Crowd {γ : Type} (Inv : γ → (Nat → Prop) → World → Prop) (step : γ → Value → γ × Bool) (Ok : γ → Value → Prop) (w0 : World) (ev : Value) : Prop where
  be : ∀ {g O W}, Inv g O W → Below w0.heap.size w0 W
  later : ∀ {g O W W'}, Inv g O W → Below W.heap.size W W' → Inv g O W'
  own : ∀ {g O W}, Inv g O W → ∀ b, O b → b < W.heap.size
  call : ∀ {g O W} (tk : Value), Ok g tk → Inv g O W → ∃ K cap, tk = .func (.func K) #[] cap ∧ (∀ (args : Array Value) (w : World), (callFunc K args).run Try.prog w = .ok (.enter K args) w) ∧ Calls Try.prog K (#[ev] ++ cap) W fun e W' => e = .returned (.bool (step g tk).2) ∧ DPost Inv (step g tk).1 O W W'
theorem DPost.refl {γ : Type} {Inv : γ → (Nat → Prop) → World → Prop} {g : γ} {O : Nat → Prop} {W : World} (h : Inv g O W) : DPost Inv g O W W := ⟨O, h, Nat.le_refl _, fun _ _ _ => rfl, fun b hb => .inl hb⟩
def evV (k c m x y : Int) (s : ByteArray) : Value := .agg #[.int .i8 k, .int .i32 c, .int .u8 m, .int .i64 x, .int .i64 y, .string s]
def RetS {γ : Type} (Inv : γ → (Nat → Prop) → World → Prop) (r : γ × Int) (O : Nat → Prop) (W : World) (e : Ending) (W' : World) : Prop := e = .returned (.tuple #[.int .i64 r.2, .int .i64 0]) ∧ DPost Inv r.1 O W W'
theorem infoFuns_ : (Try.prog.info? 105).map (fun i => (i.zero, i.size, i.bytes)) = some (some (.slice none 0 0), 1, 24) := by kernel_rfl
theorem infoIntR_ : (Try.prog.info? 3).map (fun i => (i.zero, i.size, i.bytes)) = some (some (.int .i64 0), 1, 8) := by kernel_rfl
set_option maxRecDepth 100000 in
set_option maxHeartbeats 16000000 in
theorem Send_any {γ : Type} {Inv : γ → (Nat → Prop) → World → Prop} {step : γ → Value → γ × Bool} {Ok : γ → Value → Prop} {w0 : World} (k c md x y : Int) (s : ByteArray) (V : Crowd Inv step Ok w0 (evV k c md x y s)) (rb mb : Nat) (pv : Value) (P : List Int) (m : Nat) (f : Int → Sl) (ts : Int → List Value) (many : Nat) (n : Nat) (W : World) (h : RouterAt w0 W rb mb pv P m f ts many) (hn : n < P.length) (hP : P.length ≤ 4096) (hU : UpOk P) (hm : many ≤ 4096) (hf : ∀ k, ∀ t ∈ ts k, t.oneCell' = true) (g : γ) (O : Nat → Prop) (hI : Inv g O W) (hok : okS step Ok ts g (wayP P P.length n)) :
    Calls Try.prog 45 #[.pointer (some ⟨rb, 0, none⟩), .int .i64 n, evV k c md x y s] W (RetS Inv (sendS step ts g (wayP P P.length n)) O W) := by
  obtain ⟨i0, hi, hz0, hz1, hz2⟩ := info_parts infoIntR_
  have HI := Lib.hid (And.intro hi (And.intro hz0 (And.intro hz1 hz2)))
  clear hi hz0 hz1 hz2
  obtain ⟨i1, hi, hz0, hz1, hz2⟩ := info_parts infoFuns_
  have HJ := Lib.hid (And.intro hi (And.intro hz0 (And.intro hz1 hz2)))
  clear hi hz0 hz1 hz2
  have hent : ∀ (args : Array Value) (w : World), (callFunc 50 args).run Try.prog w = .ok (.enter 50 args) w := fun _ _ => rfl
  have c0 : W.cell? ⟨rb, 0, none⟩ = some (.int .i64 P.length) := by rw [cell_of_row _ _ _ _ _ _ h.ro]; rfl
  have zb := lt_of_block h.ro
  have hni : (n : Int) < (P.length : Int) := by omega
  have HPOST := Lib.hid (fun (r : γ × Int) (W' : World) (e : sendS step ts g (wayP P P.length n) = r) (hd : DPost Inv r.1 O W W') => show RetS Inv (sendS step ts g (wayP P P.length n)) O W (.returned (.tuple #[.int .i64 r.2, .int .i64 0])) W' by rw [e]; exact ⟨rfl, hd⟩)
  have HR := Lib.hid h
  have HV := Lib.hid V
  have HU := Lib.hid hU
  have HF := Lib.hid hf
  have HIN := Lib.hid hI
  have HOK := Lib.hid hok
  clear h V hU hf hI hok
  generalize RetS Inv (sendS step ts g (wayP P P.length n)) O W = post at *
  have d1 : decide (P.length ≤ n) = false := by first | (simp; done) | (simp; omega)
  have d2 : decide ((n : Int) < 0) = false := by first | (simp; done) | (simp; omega)
  unfold evV
  go_enter Try.func45, Try.ntmps45
  obtain ⟨W1, hW1⟩ : ∃ W1, W1 = W.alloc (.cells #[.int .i8 k, .int .i32 c, .int .u8 md, .int .i64 x, .int .i64 y, .string s] 62) := ⟨_, rfl⟩
  have BW1 : Below W.heap.size W W1 := by rw [hW1]; exact below_al (Below.refl _ _) _
  have EV1 := heap_alloc_new W (.cells #[.int .i8 k, .int .i32 c, .int .u8 md, .int .i64 x, .int .i64 y, .string s] 62)
  have z1 : W1.heap.size = W.heap.size + 1 := by rw [hW1]; simp
  rw [← hW1] at EV1
  have HEV := Lib.hid EV1
  have HZ1 := Lib.hid z1
  have HB1 := Lib.hid BW1
  have HW1 := Lib.hid hW1
  clear hW1 EV1 z1 BW1
  go_wp2
  rw [← HW1.out]
  clear HW1 c0
  go_loopw [1, 8, 9] (fun nv wv av wr => ∃ (q : Int) (fu : Nat) (done : List Int) (cl : List Sl), nv = .int .i64 q ∧ -1 ≤ q ∧ q < (P.length : Int) ∧ q < (fu : Int) ∧ done.length + fu ≤ P.length ∧ cl.length = done.length ∧ RowKit.Hid (done ++ wayP P fu q = wayP P P.length n) ∧ RowKit.Hid (wr.ownsRow W1.heap.size 3 1 wv done.length (done.map (Value.int .i64))) ∧ RowKit.Hid (wr.ownsRow W1.heap.size 105 1 av done.length (cl.map slV)) ∧ RowKit.Hid (∀ i, i < done.length → wr.ownsRow W1.heap.size 91 1 (slV (cl.getD i none)) (ts (done.getD i 0)).length (ts (done.getD i 0))) ∧ Below W1.heap.size W1 wr) (fun nv _ _ _ => (intOf nv + 1).toNat)
  case atStart => exact ⟨n, P.length, [], [], rfl, by omega, by omega, by omega, by simp, rfl, Lib.hid rfl, Lib.hid ⟨rfl, .inl ⟨rfl, rfl⟩⟩, Lib.hid ⟨rfl, .inl ⟨rfl, rfl⟩⟩, Lib.hid (fun i hi => by simp at hi), Below.refl _ _⟩
  case round =>
    obtain ⟨q, fu, done, cl, rfl, hq0, hqN, hqf, hdf, hcl, HWY, HWO, HAO, HCO, BR⟩ := hrel
    obtain ⟨wo, rfl⟩ : ∃ wo : World, wo = wr := ⟨_, rfl⟩
    have zr := BR.size
    by_cases hq : q < 0
    · have hnil := wayP_neg P fu hq
      obtain rfl : done = wayP P P.length n := by rw [← HWY.out, hnil, List.append_nil]
      have HOK1 := Lib.hid HOK.out
      obtain ⟨WL, hWL⟩ : ∃ WL, WL = wayP P P.length n := ⟨_, rfl⟩
      have HIW := Lib.hid (show ∀ kk ∈ WL, 0 ≤ kk ∧ kk < (P.length : Int) by rw [hWL]; exact wayP_in HU.out _ _ (by omega))
      rw [← hWL] at HOK1 HWO HAO HCO HPOST hcl hdf
      have hwl : WL.length ≤ 4096 := by omega
      have BWO := below_via BR HB1.out
      -- what lies in the new blocks
      obtain ⟨pw, cw, rfl, hcw, hcw2, _, hwc⟩ := row_vals HWO.out
      obtain ⟨pa, ca, rfl, hca, hca2, _, hac⟩ := row_vals HAO.out
      have HWC := Lib.hid hwc
      have HAC := Lib.hid hac
      have hz1 := HB1.out.size
      have zW : W.heap.size ≤ wo.heap.size := BWO.size
      have HID := Lib.hid (DPost.refl (HV.out.later HIN.out BWO))
      have HOO := Lib.hid (HV.out.own HIN.out)
      have HEV2 := Lib.hid ((BR.block _ (lt_of_block HEV.out)).trans HEV.out)
      have zE := lt_of_block HEV2.out
      have HFRM := Lib.hid (fun (wr : World) (g1 : γ) (hd : DPost Inv g1 O wo wr) (b : Nat) (h1 : W.heap.size ≤ b) (h2 : b < wo.heap.size) => show wr.heap[b]? = wo.heap[b]? by
        obtain ⟨O1, _, _, hf, _⟩ := hd
        exact hf b h2 (fun e => by have := HOO.out b e; omega))
      have HPO := Lib.hid (fun (r : γ × Int) (W' : World) (e : sendS step ts g WL = r) (hd : DPost Inv r.1 O wo W') => HPOST.out r W' e (hd.from BWO))
      clear hnil HWY HWO HOK HIN hqf hqN hq0 hdf hWL hwc hac HPOST
      go_wp2
      go_loopw [50] (fun iv wr => ∃ (i : Nat) (g1 : γ), iv = .int .i64 i ∧ i ≤ WL.length ∧ RowKit.Hid (sendS step ts g WL = sendS step ts g1 (WL.drop i)) ∧ RowKit.Hid (okS step Ok ts g1 (WL.drop i)) ∧ RowKit.Hid (DPost Inv g1 O wo wr)) (fun iv _ => WL.length - (intOf iv).toNat)
      case atStart => exact ⟨0, g, rfl, by omega, Lib.hid rfl, HOK1, HID⟩
      case round =>
        obtain ⟨i, g1, rfl, hi, HSE, HOS, HD1⟩ := hrel
        obtain ⟨wi, rfl⟩ : ∃ wi : World, wi = wr := ⟨_, rfl⟩
        by_cases hlt : i < WL.length
        · have hii : (i : Int) < (WL.length : Int) := by omega
          obtain ⟨ba, rfl, hba1, hba2, hac⟩ := HAC.out (by omega)
          obtain ⟨bw, rfl, hbw1, hbw2, hwc⟩ := HWC.out (by omega)
          have ci := hac i hlt
          rw [List.getElem?_map, List.getElem?_eq_getElem (by omega : i < cl.length)] at ci
          have hcd := getD_at none (by omega : i < cl.length)
          have hwd := getD_at (0 : Int) hlt
          have hrow := HCO.out i hlt
          rw [hcd, hwd] at hrow
          obtain ⟨ps, cs, hsv, hcs, hcs2, _, hsc⟩ := row_vals hrow
          rw [show Option.map slV (some cl[i]) = some (slV cl[i]) from rfl, hsv, ← World.cell?_of_block (HFRM.out wi g1 HD1.out ba (by omega) hba1)] at ci
          have hbaw : ba < wi.heap.size := by have := HD1.out; obtain ⟨_, _, h, _⟩ := this; omega
          have HSC := Lib.hid hsc
          obtain ⟨kk, hkk⟩ : ∃ kk, kk = WL[i] := ⟨_, rfl⟩
          have wi_ := hwc i hlt
          rw [List.getElem?_map, List.getElem?_eq_getElem hlt, ← hkk] at wi_
          have HWI := Lib.hid wi_
          have hdr := drop_at hlt
          rw [← hkk] at hdr hsc
          have HSE2 := HSE.out
          have HOS2 := HOS.out
          rw [hdr, sendS] at HSE2
          rw [hdr, okS] at HOS2
          have hts : (ts kk).length ≤ 4096 := by have := HR.out.tl kk; omega
          rw [← hkk] at ci hcs HSC
          obtain ⟨TL, hTL⟩ : ∃ TL, TL = ts kk := ⟨_, rfl⟩
          rw [← hTL] at HSE2 HOS2 hts ci hcs HSC
          have HS1 := Lib.hid HSE2
          have HO1 := Lib.hid HOS2.1
          have HO2 := Lib.hid HOS2.2
          clear hac hwc hcd hwd hrow hsv hsc wi_ hdr HSE HOS HSE2 HOS2 hTL hkk
          go_wp2
          go_loopw [57] (fun jv wr2 => ∃ (j : Nat) (g2 : γ), jv = .int .i64 j ∧ j ≤ TL.length ∧ RowKit.Hid (callL step g1 TL = callL step g2 (TL.drop j)) ∧ RowKit.Hid (okL step Ok g2 (TL.drop j)) ∧ RowKit.Hid (DPost Inv g2 O wo wr2)) (fun jv _ => TL.length - (intOf jv).toNat)
          case atStart => exact ⟨0, g1, rfl, by omega, Lib.hid rfl, HO1, HD1⟩
          case round =>
            obtain ⟨j, g2, rfl, hj, HCE, HOL, HD2⟩ := hrel
            obtain ⟨wj, rfl⟩ : ∃ wj : World, wj = wr := ⟨_, rfl⟩
            by_cases hlt2 : j < TL.length
            · have hji : (j : Int) < (TL.length : Int) := by omega
              obtain ⟨bs, rfl, hbs1, hbs2, hsc⟩ := HSC.out (by omega)
              have cj := hsc j hlt2
              rw [List.getElem?_eq_getElem hlt2, ← World.cell?_of_block (HFRM.out wj g2 HD2.out bs (by omega) hbs1)] at cj
              have zwj : wo.heap.size ≤ wj.heap.size := by have := HD2.out; obtain ⟨_, _, h, _⟩ := this; exact h
              have hbsw : bs < wj.heap.size := by omega
              have hevj := (HFRM.out wj g2 HD2.out W.heap.size (Nat.le_refl _) zE).trans HEV2.out
              have e0 : wj.cell? ⟨W.heap.size, 0, none⟩ = some (.int .i8 k) := by rw [cell_of_row _ _ _ _ _ _ hevj]; rfl
              have e1 : wj.cell? ⟨W.heap.size, 1, none⟩ = some (.int .i32 c) := by rw [cell_of_row _ _ _ _ _ _ hevj]; rfl
              have e2 : wj.cell? ⟨W.heap.size, 2, none⟩ = some (.int .u8 md) := by rw [cell_of_row _ _ _ _ _ _ hevj]; rfl
              have e3 : wj.cell? ⟨W.heap.size, 3, none⟩ = some (.int .i64 x) := by rw [cell_of_row _ _ _ _ _ _ hevj]; rfl
              have e4 : wj.cell? ⟨W.heap.size, 4, none⟩ = some (.int .i64 y) := by rw [cell_of_row _ _ _ _ _ _ hevj]; rfl
              have e5 : wj.cell? ⟨W.heap.size, 5, none⟩ = some (.string s) := by rw [cell_of_row _ _ _ _ _ _ hevj]; rfl
              have zEj : W.heap.size < wj.heap.size := by omega
              have hdr := drop_at hlt2
              obtain ⟨tk, htk⟩ : ∃ tk, tk = TL[j] := ⟨_, rfl⟩
              rw [← htk] at hdr cj
              have HCE2 := HCE.out
              have HOL2 := HOL.out
              rw [hdr, callL] at HCE2
              rw [hdr, okL] at HOL2
              have hd2 := HD2.out
              obtain ⟨O1, hI1, hz1', hf1, hg1⟩ := hd2
              obtain ⟨K, cap, rfl, henK, hcall⟩ := HV.out.call tk HOL2.1 hI1
              have HHC := Lib.hid hcall
              have HO3 := Lib.hid HOL2.2
              have HC2 := Lib.hid HCE2
              have HTR := Lib.hid (fun (g' : γ) (W' : World) (h : DPost Inv g' O1 wj W') => h.trans hz1' hf1 hg1)
              generalize hst : step g2 (.func (.func K) #[] cap) = r at *
              obtain ⟨g3, br⟩ := r
              clear hsc hevj hdr HCE HOL HCE2 HOL2 hI1 hf1 hg1 hcall htk hst
              simp only at HC2 HO3 HHC
              unfold evV at HHC
              go_wp2_with fail
              refine HHC.out.mono ?_
              rintro e w3 ⟨rfl, hd3⟩
              have HD3 := Lib.hid (HTR.out g3 w3 hd3)
              have zw3 : wo.heap.size ≤ w3.heap.size := by have := HD3.out; obtain ⟨_, _, h, _⟩ := this; exact h
              cases br with
              | true =>
                have cw : w3.cell? ⟨bw, i, none⟩ = some (.int .i64 kk) := by
                  rw [World.cell?_of_block (HFRM.out w3 g3 HD3.out bw (by omega) hbw1)]
                  exact HWI.out
                have hbw3 : bw < w3.heap.size := by omega
                have HE := Lib.hid (show sendS step ts g WL = (g3, kk) by
                  rw [HS1.out, HC2.out]; rfl)
                have HP2 := Lib.hid (HPO.out (g3, kk) w3 HE.out HD3.out)
                clear cj e0 e1 e2 e3 e4 e5 HE HC2 HO3 HHC HTR hd3 henK
                go_wp2
                exact HP2.out
              | false =>
                have HC3 := Lib.hid (show callL step g1 TL = callL step g3 (TL.drop (j + 1)) by rw [HC2.out]; rfl)
                have HO4 := Lib.hid (HO3.out rfl)
                clear cj e0 e1 e2 e3 e4 e5 HC2 HO3 HHC HTR hd3 henK
                go_wp2
                go_roundw
                case rel => exact ⟨j + 1, g3, by go_num, by omega, HC3, HO4, HD3⟩
                case measure => simp [intOf]; omega
            · obtain rfl : j = TL.length := by omega
              have HE := Lib.hid (show callL step g1 TL = (g2, false) by rw [HCE.out, List.drop_length]; rfl)
              have HS2 := Lib.hid (show sendS step ts g WL = sendS step ts g2 (WL.drop (i + 1)) by rw [HS1.out, HE.out]; rfl)
              have HO4 := Lib.hid (show okS step Ok ts g2 (WL.drop (i + 1)) by have := HO2.out (by rw [HE.out]); rwa [HE.out] at this)
              clear HCE HOL HE HS1 HO1 HO2
              go_wp2
              go_roundw
              case rel => exact ⟨i + 1, g2, by go_num, by omega, HS2, HO4, HD2⟩
              case measure => simp [intOf]; omega
        · obtain rfl : i = WL.length := by omega
          have HE := Lib.hid (show sendS step ts g WL = (g1, -1) by rw [HSE.out, List.drop_length]; rfl)
          have HP2 := Lib.hid (HPO.out (g1, -1) wi HE.out HD1.out)
          clear HSE HOS HE
          go_wp2
          exact HP2.out
    · obtain ⟨q, rfl⟩ := Int.eq_ofNat_of_zero_le (show 0 ≤ q by omega)
      have hqn : q < P.length := by omega
      have hqi : (0 : Int) ≤ (q : Int) := by omega
      obtain ⟨fv, hfv⟩ : ∃ fv, fu = fv + 1 := ⟨fu - 1, by omega⟩
      have HFV := Lib.hid hfv
      have hdl : done.length ≤ 4096 := by omega
      have hup := HU.out q hqn
      have HWY2 := Lib.hid (show (done ++ [(q : Int)]) ++ wayP P fv (P.getD q 0) = wayP P P.length n by
        rw [← HWY.out, hfv, wayP, if_neg hq, Int.toNat_natCast, List.append_assoc]; rfl)
      have BWO := below_via BR HB1.out
      have OWN := Lib.hid (HWO.out.alloc (.cells #[.int .i64 (q : Int)] 3))
      have HON := Lib.hid (show ∀ u ∈ [Value.int .i64 (q : Int)], u.oneCell' = true from fun u hu => by simp at hu; rcases hu with rfl; rfl)
      have h63 : done.length + 1 ≤ maxLen := by unfold maxLen; omega
      clear hfv hup
      go_wp2_with (at_builtin; go_must (refine append_keep rfl (.tmp 34) (.tmp 36) 25 rfl W1.heap.size 3 i0 _ 1 8 Try.underlying25 HI.out.1 HI.out.2.1 HI.out.2.2.1 HI.out.2.2.2 rfl (by decide) _ done.length _ rfl OWN.out ⟨wo.heap.size, 0, none⟩ 1 1 [.int .i64 (q : Int)] rfl rfl ?n1 HON.out h63 ?n2 ?n3 ?_))
      try case n1 => exact World.news_of_block (cs := #[.int .i64 (q : Int)]) (t := 3) (fr := (0, 0)) (heap_alloc_new wo _)
      case n2 => omega
      case n3 => first | omega | (simp; omega)
      intro v' w2 own2 gr2 pl2
      have BA := below_al (Below.refl wo.heap.size wo) (.cells #[.int .i64 (q : Int)] 3)
      have g2 : Below W1.heap.size W1 w2 := Below.grown (below_via BA BR) gr2 (by simp; omega) (fun k hk => (row_lt HWO.out k hk).2)
      have z2 : wo.heap.size < w2.heap.size := by have := gr2.size; simp at this; omega
      have HWO2 := Lib.hid (show w2.ownsRow W1.heap.size 3 1 v' (done ++ [(q : Int)]).length ((done ++ [(q : Int)]).map (Value.int .i64)) by simpa using own2)
      have HAO2 := Lib.hid (show w2.ownsRow W1.heap.size 105 1 u9 done.length (cl.map slV) from (row_later HAO.out BA).kept gr2 (row_ne HAO.out HWO.out (by decide)))
      have HCO2 := Lib.hid (show ∀ i, i < done.length → w2.ownsRow W1.heap.size 91 1 (slV (cl.getD i none)) (ts (done.getD i 0)).length (ts (done.getD i 0)) from fun i hi => (row_later (HCO.out i hi) BA).kept gr2 (row_ne (HCO.out i hi) HWO.out (by decide)))
      have B2 : Below W.heap.size W w2 := below_via (g2.mono (by have := HB1.out.size; omega)) HB1.out
      have hrb : rb < W.heap.size := zb
      have c2 : w2.cell? ⟨rb, 2, none⟩ = some (.map (some mb)) := by rw [(bcell B2).1 _ _ hrb, cell_of_row _ _ _ _ _ _ HR.out.ro]; rfl
      have hwf : (Lit.int .i64 (q : Int)).wf = true := WalkArith.wf_i64 (by omega)
      have hlk := (HR.out.mp.of_block (B2.block _ HR.out.mp.lt)).look (q : Int) hwf
      have HCL := Lib.hid (Clone_any w0.heap.size (f q) (ts q) w2 (row_later (HR.out.rw q) B2) (HF.out q) (by have := HR.out.tl q; omega))
      have zbw2 : rb < w2.heap.size := by have := B2.size; omega
      clear own2 gr2 pl2 OWN HON HWO HAO HCO BA BWO
      go_wp2_with fail
      refine HCL.out.mono ?_
      clear hlk c2 hwf HCL
      rintro e w3 ⟨s', rfl, own3, hb3⟩
      have z3 := hb3.size
      have B3 : Below W.heap.size W w3 := below_via hb3 B2
      have g3 : Below W1.heap.size W1 w3 := below_via hb3 g2
      have HWO3 := Lib.hid (row_later HWO2.out hb3)
      have HAO3 := Lib.hid (row_later HAO2.out hb3)
      have HCO3 := Lib.hid (show ∀ i, i < (done ++ [(q : Int)]).length → w3.ownsRow W1.heap.size 91 1 (slV ((cl ++ [s']).getD i none)) (ts ((done ++ [(q : Int)]).getD i 0)).length (ts ((done ++ [(q : Int)]).getD i 0)) from fun i hi => by
        rw [List.length_append, List.length_singleton] at hi
        by_cases e : i < done.length
        · rw [List.getD_eq_getElem?_getD, List.getElem?_append_left (by omega), ← List.getD_eq_getElem?_getD, List.getD_eq_getElem?_getD (l := done ++ _), List.getElem?_append_left e, ← List.getD_eq_getElem?_getD]
          exact row_later (HCO2.out i e) hb3
        · obtain rfl : i = done.length := by omega
          rw [List.getD_eq_getElem?_getD, List.getElem?_append_right (by omega), List.getD_eq_getElem?_getD (l := done ++ _), List.getElem?_append_right (by omega), hcl]
          simp only [Nat.sub_self, List.getElem?_cons_zero, Option.getD_some]
          exact row_sink_ own3 g2.size)
      have OWN := Lib.hid (HAO3.out.alloc (.cells #[slV s'] 105))
      have HON := Lib.hid (show ∀ u ∈ [slV s'], u.oneCell' = true from fun u hu => by simp at hu; rcases hu with rfl; rcases s' with _ | ⟨_, _, _⟩ <;> rfl)
      clear HWO2 HAO2 HCO2 own3 hb3
      generalize hsv : slV s' = sv at *
      obtain ⟨sp, sn, sc, rfl⟩ : ∃ p n c, sv = .slice p n c := by rcases s' with _ | ⟨_, _, _⟩ <;> exact ⟨_, _, _, hsv.symm⟩
      have HSV := Lib.hid hsv
      clear hsv
      go_wp2_with (at_builtin; go_must (refine append_keep rfl (.tmp 38) (.tmp 46) 125 rfl W1.heap.size 105 i1 _ 1 24 Try.underlying125 HJ.out.1 HJ.out.2.1 HJ.out.2.2.1 HJ.out.2.2.2 rfl (by decide) _ done.length _ rfl OWN.out ⟨w3.heap.size, 0, none⟩ 1 1 [.slice sp sn sc] rfl rfl ?m1 HON.out h63 ?m2 ?m3 ?_))
      try case m1 => exact World.news_of_block (cs := #[.slice sp sn sc]) (t := 105) (fr := (0, 0)) (heap_alloc_new w3 _)
      case m2 => omega
      case m3 => first | omega | (simp; have := g3.size; omega)
      intro v'' w4 own4 gr4 pl4
      have BA := below_al (Below.refl w3.heap.size w3) (.cells #[.slice sp sn sc] 105)
      have g4 : Below W1.heap.size W1 w4 := Below.grown (below_via BA g3) gr4 (by simp; have := g3.size; omega) (fun k hk => (row_lt HAO3.out k hk).2)
      have HWO4 := Lib.hid (show w4.ownsRow W1.heap.size 3 1 v' (done ++ [(q : Int)]).length ((done ++ [(q : Int)]).map (Value.int .i64)) from (row_later HWO3.out BA).kept gr4 (row_ne HWO3.out HAO3.out (by decide)))
      have HAO4 := Lib.hid (show w4.ownsRow W1.heap.size 105 1 v'' (done ++ [(q : Int)]).length ((cl ++ [s']).map slV) by rw [List.length_append, List.map_append, List.map_singleton, HSV.out]; exact own4)
      have HCO4 := Lib.hid (show ∀ i, i < (done ++ [(q : Int)]).length → w4.ownsRow W1.heap.size 91 1 (slV ((cl ++ [s']).getD i none)) (ts ((done ++ [(q : Int)]).getD i 0)).length (ts ((done ++ [(q : Int)]).getD i 0)) from fun i hi => (row_later (HCO3.out i hi) BA).kept gr4 (row_ne (HCO3.out i hi) HAO3.out (by decide)))
      have B4 : Below W.heap.size W w4 := below_via (g4.mono (by have := HB1.out.size; omega)) HB1.out
      have c1 : w4.cell? ⟨rb, 1, none⟩ = some (parF pv) := by rw [(bcell B4).1 _ _ hrb, cell_of_row _ _ _ _ _ _ HR.out.ro]; rfl
      have zbw4 : rb < w4.heap.size := by have := B4.size; omega
      have HPA := Lib.hid (parent_any pv P q w4 ((row_ints HR.out.pa).later B4 (Nat.le_refl _)) hqn)
      have hup := HU.out q hqn
      have HDL := Lib.hid (show (cl ++ [s']).length = (done ++ [(q : Int)]).length by rw [List.length_append, List.length_append, hcl]; rfl)
      have HDF := Lib.hid (show (done ++ [(q : Int)]).length + fv ≤ P.length by rw [List.length_append]; have := HFV.out; simp; omega)
      have HUP := Lib.hid hup
      have hqf2 : (q : Int) ≤ (fv : Int) := by have := HFV.out; omega
      clear own4 gr4 pl4 OWN HON HWO3 HAO3 HCO3 BA hup HSV
      unfold parF at c1
      generalize P.getD q 0 = pq at *
      go_wp2_with fail
      refine HPA.out.mono ?_
      rintro e w5 ⟨rfl, rfl⟩
      clear c1 HPA
      go_wp2
      go_roundw
      case rel => exact ⟨pq, fv, done ++ [(q : Int)], cl ++ [s'], rfl, HUP.out.1, by have := HUP.out.2; omega, by have := HUP.out.2; omega, HDF.out, HDL.out, HWY2, HWO4, HAO4, HCO4, g4⟩
      case measure => have h1 := HUP.out.2; have h2 := HUP.out.1; simp [intOf]; omega
end Go.Proofs.Ytihjefncjkdnpaa
namespace Go.Proofs.Ytihjefncjkdnpaa
open Go.RowKit Go.Deep
set_option linter.unusedVariables false
set_option linter.unusedSimpArgs false

/-- the little tree -/
def smT : List Nd := [ndF 3 ByteArray.empty [1, 2, 5] 0, ndF 7 ⟨#[97]⟩ [] 0, ndF 2 ByteArray.empty [3, 4] 0, ndF 1 ⟨#[98]⟩ [] 1, ndF 1 ⟨#[99]⟩ [] 1, ndF 1 ByteArray.empty [] 0]
theorem smT_len : smT.length = 6 := rfl
theorem smT_check : (checkT smT).1 = 0 := by decide +kernel
theorem smT_fos : fosL smT = [1, 3, 4] := by decide +kernel
theorem smT_par : parL smT = [-1, 0, 0, 2, 2, 0] := by decide +kernel
theorem smT_next : nextR [1, 3, 4] 4 1 = 1 := by decide +kernel
theorem smT_carry : carryN smT smT 3 = 3 := by decide +kernel
theorem smT_ok : ∀ x ∈ smT, NdOk x := fun x hx => by
  simp only [smT, List.mem_cons, List.not_mem_nil, or_false] at hx
  rcases hx with rfl | rfl | rfl | rfl | rfl | rfl <;> exact ndF_ok (by decide) (by decide) (by decide) (by decide)
set_option maxRecDepth 100000 in
set_option maxHeartbeats 8000000 in
theorem small_any (w : World) : Calls Try.prog 33 #[] w fun e w' => ∃ g, e = .returned (.agg #[.slice (some ⟨g, 0, none⟩) 6 6]) ∧ TreeAt w' (.slice (some ⟨g, 0, none⟩) 6 6) smT ∧ Below w.heap.size w w' := by
  obtain ⟨i0, hi, hz0, hz1, hz2⟩ := info_parts infoNode_
  have HI := Lib.hid (And.intro hi (And.intro hz0 (And.intro hz1 hz2)))
  clear hi hz0 hz1 hz2
  obtain ⟨n0, hn0⟩ : ∃ l, l = ndV (ndF 3 ByteArray.empty [1, 2, 5] 0) (.slice (some ⟨w.heap.size + 1, 0, none⟩) 3 3) (.slice none 0 0) := ⟨_, rfl⟩
  obtain ⟨n1, hn1⟩ : ∃ l, l = ndV (ndF 7 ⟨#[97]⟩ [] 0) (.slice none 0 0) (.slice none 0 0) := ⟨_, rfl⟩
  obtain ⟨n2, hn2⟩ : ∃ l, l = ndV (ndF 2 ByteArray.empty [3, 4] 0) (.slice (some ⟨w.heap.size + 1 + 1, 0, none⟩) 2 2) (.slice none 0 0) := ⟨_, rfl⟩
  obtain ⟨n3, hn3⟩ : ∃ l, l = ndV (ndF 1 ⟨#[98]⟩ [] 1) (.slice none 0 0) (.slice none 0 0) := ⟨_, rfl⟩
  obtain ⟨n4, hn4⟩ : ∃ l, l = ndV (ndF 1 ⟨#[99]⟩ [] 1) (.slice none 0 0) (.slice none 0 0) := ⟨_, rfl⟩
  obtain ⟨n5, hn5⟩ : ∃ l, l = ndV (ndF 1 ByteArray.empty [] 0) (.slice none 0 0) (.slice none 0 0) := ⟨_, rfl⟩
  have BT0 := Lib.hid (show Try.prog.built 53 [(0, .int .i8 3), (3, .slice (some ⟨w.heap.size + 1, 0, none⟩) 3 3)] = some n0.toArray by rw [hn0]; exact built_03 3 [1, 2, 5] _ 3 3)
  have BT1 := Lib.hid (show Try.prog.built 53 [(0, .int .i8 7), (1, .string ⟨#[97]⟩)] = some n1.toArray by rw [hn1]; exact built_01 7 ⟨#[97]⟩)
  have BT2 := Lib.hid (show Try.prog.built 53 [(0, .int .i8 2), (3, .slice (some ⟨w.heap.size + 1 + 1, 0, none⟩) 2 2)] = some n2.toArray by rw [hn2]; exact built_03 2 [3, 4] _ 2 2)
  have BT3 := Lib.hid (show Try.prog.built 53 [(0, .int .i8 1), (1, .string ⟨#[98]⟩), (16, .int .u8 1)] = some n3.toArray by rw [hn3]; exact built_01f 1 ⟨#[98]⟩ 1)
  have BT4 := Lib.hid (show Try.prog.built 53 [(0, .int .i8 1), (1, .string ⟨#[99]⟩), (16, .int .u8 1)] = some n4.toArray by rw [hn4]; exact built_01f 1 ⟨#[99]⟩ 1)
  have BT5 := Lib.hid (show Try.prog.built 53 [(0, .int .i8 1)] = some n5.toArray by rw [hn5]; exact built_0 1)
  have L34 := Lib.hid (show ∀ a ∈ [n0, n1, n2, n3, n4, n5], a.length = 34 from fun a ha => by
    simp only [List.mem_cons, List.not_mem_nil, or_false] at ha
    rcases ha with rfl | rfl | rfl | rfl | rfl | rfl
    · rw [hn0]; rfl
    · rw [hn1]; rfl
    · rw [hn2]; rfl
    · rw [hn3]; rfl
    · rw [hn4]; rfl
    · rw [hn5]; rfl)
  have H0 := Lib.hid hn0
  have H1 := Lib.hid hn1
  have H2 := Lib.hid hn2
  have H3 := Lib.hid hn3
  have H4 := Lib.hid hn4
  have H5 := Lib.hid hn5
  clear hn0 hn1 hn2 hn3 hn4 hn5
  go_enter Try.func33, Try.ntmps33
  go_wp2_with (first | ((with_reducible refine wpList_build_node ?e0 #[(0, .const (.int .i8 3)), (3, .tmp 1)] ?f0 n0 [(0, .int .i8 3), (3, .slice (some ⟨w.heap.size + 1, 0, none⟩) 3 3)] ?g0 BT0.out ?_); (case e0 => rfl); (case f0 => rfl); (case g0 => rfl)) | ((with_reducible refine wpList_build_node ?e1 #[(0, .const (.int .i8 7)), (1, .const (.string ⟨#[97]⟩))] ?f1 n1 [(0, .int .i8 7), (1, .string ⟨#[97]⟩)] ?g1 BT1.out ?_); (case e1 => rfl); (case f1 => rfl); (case g1 => rfl)) | ((with_reducible refine wpList_build_node ?e2 #[(0, .const (.int .i8 2)), (3, .tmp 4)] ?f2 n2 [(0, .int .i8 2), (3, .slice (some ⟨w.heap.size + 1 + 1, 0, none⟩) 2 2)] ?g2 BT2.out ?_); (case e2 => rfl); (case f2 => rfl); (case g2 => rfl)) | ((with_reducible refine wpList_build_node ?e3 #[(0, .const (.int .i8 1)), (1, .const (.string ⟨#[98]⟩)), (16, .const (.int .u8 1))] ?f3 n3 [(0, .int .i8 1), (1, .string ⟨#[98]⟩), (16, .int .u8 1)] ?g3 BT3.out ?_); (case e3 => rfl); (case f3 => rfl); (case g3 => rfl)) | ((with_reducible refine wpList_build_node ?e4 #[(0, .const (.int .i8 1)), (1, .const (.string ⟨#[99]⟩)), (16, .const (.int .u8 1))] ?f4 n4 [(0, .int .i8 1), (1, .string ⟨#[99]⟩), (16, .int .u8 1)] ?g4 BT4.out ?_); (case e4 => rfl); (case f4 => rfl); (case g4 => rfl)) | ((with_reducible refine wpList_build_node ?e5 #[(0, .const (.int .i8 1))] ?f5 n5 [(0, .int .i8 1)] ?g5 BT5.out ?_); (case e5 => rfl); (case f5 => rfl); (case g5 => rfl)) | ((with_reducible refine wpList_buildSlice_all _ ?b1 22 53 6 #[(0, .tmp 2), (1, .tmp 3), (2, .tmp 5), (3, .tmp 6), (4, .tmp 7), (5, .tmp 8)] ?b2 i0 _ 34 Try.underlying22 HI.out.1 HI.out.2.1 HI.out.2.2.1 ?b6 [n0, n1, n2, n3, n4, n5] ?b7 ?b3 ?b4 ?b5 ?_); (case b1 => rfl); (case b2 => rfl); (case b6 => decide); (case b7 => rfl); (case b3 => rfl); (case b4 => exact L34.out); (case b5 => (show 6 * 34 ≤ 16777216; decide))))
  obtain ⟨W1, hW1⟩ : ∃ W1, W1 = w.alloc (.cells #[.slice (some ⟨w.heap.size + 1 + 1 + 1, 0, none⟩) 6 6] 24) := ⟨_, rfl⟩
  obtain ⟨W2, hW2⟩ : ∃ W2, W2 = W1.alloc (.cells #[.int .i64 1, .int .i64 2, .int .i64 5] 3) := ⟨_, rfl⟩
  obtain ⟨W3, hW3⟩ : ∃ W3, W3 = W2.alloc (.cells #[.int .i64 3, .int .i64 4] 3) := ⟨_, rfl⟩
  obtain ⟨W4, hW4⟩ : ∃ W4, W4 = W3.alloc (.cells (n0 ++ (n1 ++ (n2 ++ (n3 ++ (n4 ++ n5))))).toArray 53) := ⟨_, rfl⟩
  rw [← hW1, ← hW2, ← hW3, ← hW4]
  have z1 : W1.heap.size = w.heap.size + 1 := by rw [hW1]; simp
  have z2 : W2.heap.size = w.heap.size + 1 + 1 := by rw [hW2]; simp [z1]
  have z3 : W3.heap.size = w.heap.size + 1 + 1 + 1 := by rw [hW3]; simp [z2]
  have k1 : W3.heap[w.heap.size + 1]? = some (.cells #[.int .i64 1, .int .i64 2, .int .i64 5] 3 (0, 0)) := by
    rw [hW3, heap_alloc_old _ _ (by omega), hW2, ← z1]; exact heap_alloc_new _ _
  have k2 : W3.heap[w.heap.size + 1 + 1]? = some (.cells #[.int .i64 3, .int .i64 4] 3 (0, 0)) := by
    rw [hW3, ← z2]; exact heap_alloc_new _ _
  have TB := tree_built W3 smT [n0, n1, n2, n3, n4, n5] rfl L34.out smT_ok (by decide) (fun i hi => by
    have : i = 0 ∨ i = 1 ∨ i = 2 ∨ i = 3 ∨ i = 4 ∨ i = 5 := by have := smT_len; omega
    rcases this with rfl | rfl | rfl | rfl | rfl | rfl
    · exact ⟨_, _, H0.out, ints_block (L := [1, 2, 5]) k1 (by decide), its_none _⟩
    · exact ⟨_, _, H1.out, ints_none _, its_none _⟩
    · exact ⟨_, _, H2.out, ints_block (L := [3, 4]) k2 (by decide), its_none _⟩
    · exact ⟨_, _, H3.out, ints_none _, its_none _⟩
    · exact ⟨_, _, H4.out, ints_none _, its_none _⟩
    · exact ⟨_, _, H5.out, ints_none _, its_none _⟩)
  rw [show ([n0, n1, n2, n3, n4, n5] : List (List Value)).flatten = n0 ++ (n1 ++ (n2 ++ (n3 ++ (n4 ++ n5)))) by simp, ← hW4, z3] at TB
  have B4 : Below w.heap.size w W4 := by rw [hW4, hW3, hW2, hW1]; exact below_al (below_al (below_al (below_al (Below.refl _ _) _) _) _) _
  have y1 : W4.cell? ⟨w.heap.size, 0, none⟩ = some (.slice (some ⟨w.heap.size + 1 + 1 + 1, 0, none⟩) 6 6) := by
    have : W4.heap[w.heap.size]? = some (.cells #[.slice (some ⟨w.heap.size + 1 + 1 + 1, 0, none⟩) 6 6] 24 (0, 0)) := by
      rw [hW4, heap_alloc_old _ _ (by omega), hW3, heap_alloc_old _ _ (by omega), hW2, heap_alloc_old _ _ (by omega), hW1]; exact heap_alloc_new _ _
    exact cell_of_one this
  exact bodyPost_ret (v := .agg #[.slice (some ⟨w.heap.size + 1 + 1 + 1, 0, none⟩) 6 6]) (by simp [results, Try.results33, go_sem, y1]) rfl ⟨_, rfl, TB, B4⟩
structure InvW (w0 : World) (nb : Nat) (g : Int) (O : Nat → Prop) (W : World) : Prop where
  be : Below w0.heap.size w0 W
  at_ : W.heap[nb]? = some (.cells #[.int .i64 g] 3 (0, 0))
  zn : w0.heap.size ≤ nb
  own : ∀ b, O b ↔ b = nb
def stepW (g : Int) (_ : Value) : Int × Bool := (g + 5, true)
def takerW (nb : Nat) : Value := .func (.func 44) #[] #[.pointer (some ⟨nb, 0, none⟩)]
theorem works_crowd (w0 : World) (nb : Nat) : Crowd (InvW w0 nb) stepW (fun g tk => tk = takerW nb ∧ 0 ≤ g ∧ g ≤ 100) w0 (evV 0 5 0 0 0 ByteArray.empty) := by
  refine ⟨fun {g O W} h => h.be, fun {g O W W'} h hb => ⟨below_via hb h.be, (hb.block _ (lt_of_block h.at_)).trans h.at_, h.zn, h.own⟩, fun {g O W} h b hb => by rw [(h.own b).1 hb]; exact lt_of_block h.at_, fun {g O W} tk hk h => ?_⟩
  obtain ⟨rfl, hg0, hg1⟩ := hk
  refine ⟨_, _, rfl, fun _ _ => rfl, ?_⟩
  have c0 := cell_of_one h.at_
  have f0 := free_of_one h.at_
  have z0 := lt_of_block h.at_
  have HH := Lib.hid h
  clear h
  unfold evV
  go_enter Try.func44, Try.ntmps44
  go_wp2
  obtain ⟨W1, hW1⟩ : ∃ W1, W1 = W.setCell ⟨nb, 0, none⟩ (.int .i64 (g + 5)) := ⟨_, rfl⟩
  rw [← hW1]
  have HI : InvW w0 nb (g + 5) O W1 := by
    rw [hW1]
    exact ⟨HH.out.be.setCell (p := ⟨nb, 0, none⟩) HH.out.zn _, one_setCell HH.out.at_, HH.out.zn, HH.out.own⟩
  have hz : W1.heap.size = W.heap.size := by rw [hW1]; simp
  have hf : ∀ b, b ≠ nb → W1.heap[b]? = W.heap[b]? := fun b hb => by rw [hW1]; exact blk_setCell_other _ _ _ _ (by simpa using hb)
  go_ret
  refine ⟨rfl, O, ⟨below_al HI.be _, (heap_alloc_old _ _ (by omega)).trans HI.at_, HI.zn, HI.own⟩, by simp; omega, fun b hb hO => (heap_alloc_old _ _ (by omega)).trans (hf b (fun e => hO ((HI.own b).2 e))), fun b hb => .inl hb⟩
end Go.Proofs.Ytihjefncjkdnpaa
namespace Go.Proofs.Ytihjefncjkdnpaa
open Go.RowKit Go.Deep
set_option linter.unusedVariables false
set_option linter.unusedSimpArgs false

theorem RouterAt.later {w0 W W' : World} {rb mb : Nat} {pv : Value} {P : List Int} {m : Nat} {f : Int → Sl} {ts : Int → List Value} {many : Nat} (h : RouterAt w0 W rb mb pv P m f ts many) (hb : Below W.heap.size W W') : RouterAt w0 W' rb mb pv P m f ts many :=
  ⟨below_via hb h.be, (hb.block _ (lt_of_block h.ro)).trans h.ro, row_later h.pa hb, h.mp.of_block (hb.block _ h.mp.lt), h.mm, fun k => row_later (h.rw k) hb, h.ap, h.zr, h.zm, h.tl⟩
def smP : List Int := [-1, 0, 0, 2, 2, 0]
theorem smP_up : UpOk smP := fun i hi => by
  have : i = 0 ∨ i = 1 ∨ i = 2 ∨ i = 3 ∨ i = 4 ∨ i = 5 := by have : smP.length = 6 := rfl; omega
  rcases this with rfl | rfl | rfl | rfl | rfl | rfl <;> exact ⟨by decide, by decide⟩
def tsW (nb : Nat) : Int → List Value := putT (fun _ => []) 0 ([] ++ [takerW nb])
theorem send_W (nb : Nat) : sendS stepW (tsW nb) 0 (wayP smP smP.length 4) = (5, 0) := rfl
theorem ok_W (nb : Nat) : okS stepW (fun g tk => tk = takerW nb ∧ 0 ≤ g ∧ g ≤ 100) (tsW nb) 0 (wayP smP smP.length 4) :=
  ⟨trivial, fun _ => ⟨trivial, fun _ => ⟨⟨⟨rfl, show (0 : Int) ≤ 0 by decide, show (0 : Int) ≤ 100 by decide⟩, fun h => by cases h⟩, fun h => by cases h⟩⟩⟩
theorem one_W (nb : Nat) : ∀ k, ∀ t ∈ tsW nb k, t.oneCell' = true := fun k t ht => by
  unfold tsW putT at ht
  split at ht
  · simp at ht
    subst ht
    rfl
  · cases ht
set_option maxRecDepth 100000 in
set_option maxHeartbeats 16000000 in
theorem works_any (w : World) : Calls Try.prog 17 #[] w fun e w' => e = .returned (.bool true) ∧ Below w.heap.size w w' := by
  have hmf : ∀ (fn : Fn) (first cap : Array Value) (w : World), (Instr.makeFunc fn first cap).run Try.prog w = .ok (.func fn first cap) w := fun _ _ _ _ => rfl
  go_enter Try.func17, Try.ntmps17
  go_wp2_with fail
  refine (small_any w).mono ?_
  rintro e w1 ⟨g, rfl, TT, hb1⟩
  have HTT := Lib.hid TT
  have B1 := Lib.hid hb1
  clear TT hb1
  go_wp2_with fail
  obtain ⟨w2, hw2⟩ : ∃ w2, w2 = w1.alloc (.cells #[.slice (some ⟨g, 0, none⟩) 6 6] 24) := ⟨_, rfl⟩
  have C2 : Below w1.heap.size w1 w2 := by rw [hw2]; exact below_al (Below.refl _ _) _
  have z2 : w2.heap.size = w1.heap.size + 1 := by rw [hw2]; simp
  have x2 : w2.heap[w1.heap.size]? = some (.cells #[.slice (some ⟨g, 0, none⟩) 6 6] 24 (0, 0)) := by rw [hw2]; exact heap_alloc_new _ _
  rw [← hw2]
  have HT2 := Lib.hid (HTT.out.later C2)
  have HX2 := Lib.hid x2
  have HC2 := Lib.hid C2
  have HZ2 := Lib.hid z2
  have HN := Lib.hid (show Calls Try.prog 20 #[.agg #[.slice (some ⟨g, 0, none⟩) 6 6]] w2 _ from focus_New_yes (some ⟨g, 0, none⟩) 6 smT w2 HT2.out smT_check)
  clear hw2 x2 C2 z2
  refine HN.out.mono ?_
  clear HN
  rw [smT_par]
  rintro e w3 ⟨rb, mb, pv, rfl, RA⟩
  have HR3 := Lib.hid (show RouterAt w2 w3 rb mb pv smP 0 (fun _ => none) (fun _ => []) 0 from RA)
  have x0 := cell_of_one ((RA.be.block _ (by have := HZ2.out; omega)).trans HX2.out)
  have z3 : w1.heap.size < w3.heap.size := by have := HZ2.out; have := RA.be.size; omega
  clear RA
  go_wp2_with fail
  obtain ⟨w4, hw4⟩ : ∃ w4, w4 = w3.alloc (.cells #[.int .i64 0] 3) := ⟨_, rfl⟩
  have C4 : Below w3.heap.size w3 w4 := by rw [hw4]; exact below_al (Below.refl _ _) _
  have x4 : w4.heap[w3.heap.size]? = some (.cells #[.int .i64 0] 3 (0, 0)) := by rw [hw4]; exact heap_alloc_new _ _
  rw [← hw4]
  obtain ⟨nb, hnb⟩ : ∃ nb, nb = w3.heap.size := ⟨_, rfl⟩
  have HNB := Lib.hid hnb
  rw [← hnb] at x4 ⊢
  have HX4 := Lib.hid x4
  have HR4 := Lib.hid (HR3.out.later C4)
  have HON := Lib.hid (show Calls Try.prog 22 #[.pointer (some ⟨rb, 0, none⟩), .int .i64 0, takerW nb] w4 _ from On_yes w2 rb mb pv smP 0 (fun _ => none) (fun _ => []) 0 0 _ _ w4 HR4.out (by decide) (by decide) (by decide))
  have HNBZ := Lib.hid (show nb < w4.heap.size from lt_of_block x4)
  clear hw4 C4 x4 hnb x0 z3
  unfold takerW at HON
  refine HON.out.mono ?_
  clear HON
  rintro e w5 ⟨rfl, OP⟩
  obtain ⟨⟨m5, f5, RA5, hO5⟩, hz5, hfr5⟩ := OP
  have HR5 := Lib.hid (show RouterAt w2 w5 rb mb pv smP m5 f5 (tsW nb) 1 from RA5)
  have x5 : w5.heap[nb]? = some (.cells #[.int .i64 0] 3 (0, 0)) := by
    rw [hfr5 nb HNBZ.out (fun h => by
      rcases h with h | h | ⟨k, h⟩
      · have := lt_of_block HR3.out.ro; have := HNB.out; omega
      · have := HR3.out.mp.lt; have := HNB.out; omega
      · simp [slV, Value.ownBlock] at h)]
    exact HX4.out
  have HI := Lib.hid (show InvW w2 nb 0 (fun b => b = nb) w5 from ⟨RA5.be, x5, by have := HR3.out.be.size; have := HNB.out; omega, fun b => Iff.rfl⟩)
  have HS := Lib.hid (show Calls Try.prog 45 #[.pointer (some ⟨rb, 0, none⟩), .int .i64 4, .agg #[.int .i8 0, .int .i32 5, .int .u8 0, .int .i64 0, .int .i64 0, .string ByteArray.empty]] w5 (RetS (InvW w2 nb) (5, 0) (fun b => b = nb) w5) from by
    have := Send_any 0 5 0 0 0 ByteArray.empty (works_crowd w2 nb) rb mb pv smP m5 f5 (tsW nb) 1 4 w5 HR5.out (by decide) (by decide) smP_up (by decide) (one_W nb) 0 _ HI.out (ok_W nb)
    rw [show (((4 : Nat) : Int)) = 4 from rfl, send_W] at this
    exact this)
  clear RA5 hO5 hz5 hfr5 x5 HI HR5
  go_wp2_with fail
  refine HS.out.mono ?_
  clear HS
  rintro e w6 ⟨rfl, O6, HI6, _⟩
  have B26 := HI6.be
  have x6 := cell_of_one ((B26.block _ (by have := HZ2.out; omega)).trans HX2.out)
  have y6 := cell_of_one HI6.at_
  have z6 : w1.heap.size < w6.heap.size := by have := HZ2.out; have := B26.size; omega
  have zn6 := lt_of_block HI6.at_
  have B16 := below_via B26 HC2.out
  have HT6 := Lib.hid (HTT.out.later B16)
  have HB6 := Lib.hid (below_via B16 B1.out)
  have HOR := Lib.hid (show Calls Try.prog 12 #[.agg #[.slice (some ⟨g, 0, none⟩) 6 6]] w6 _ from focus_Order_any (some ⟨g, 0, none⟩) 6 smT w6 HT6.out)
  clear HI6 B26 B16 HR3 HR4 HX4 HNB HNBZ HTT HT2 HX2 HC2 HZ2 B1
  go_wp2_with fail
  refine HOR.out.mono ?_
  rw [smT_fos]
  clear HOR
  rintro e w7 ⟨v, rfl, own, hb7⟩
  have HI7 := Lib.hid (row_ints (L := [1, 3, 4]) own)
  have x7 : w7.cell? ⟨w1.heap.size, 0, none⟩ = some (.slice (some ⟨g, 0, none⟩) 6 6) := by rw [(bcell hb7).1 _ _ z6]; exact x6
  have y7 : w7.cell? ⟨nb, 0, none⟩ = some (.int .i64 5) := by rw [(bcell hb7).1 _ _ zn6]; exact y6
  have z7 : w1.heap.size < w7.heap.size := by have := hb7.size; omega
  have zn7 : nb < w7.heap.size := by have := hb7.size; omega
  have HT7 := Lib.hid (HT6.out.later hb7)
  have HB7 := Lib.hid (below_via hb7 HB6.out)
  clear own hb7 x6 y6 z6 zn6 HT6 HB6
  go_wp2_with fail
  obtain ⟨w8, hw8⟩ : ∃ w8, w8 = w7.alloc (.cells #[.int .i64 1, .int .i64 3, .int .i64 4] 3) := ⟨_, rfl⟩
  have C8 : Below w7.heap.size w7 w8 := by rw [hw8]; exact below_al (Below.refl _ _) _
  have k8 : w8.heap[w7.heap.size]? = some (.cells #[.int .i64 1, .int .i64 3, .int .i64 4] 3 (0, 0)) := by rw [hw8]; exact heap_alloc_new _ _
  rw [← hw8]
  have HS8 := Lib.hid (same_Ints_any v (.slice (some ⟨w7.heap.size, 0, none⟩) 3 3) [1, 3, 4] w8 (HI7.out.later C8 (Nat.le_refl _)) (ints_block (L := [1, 3, 4]) k8 (by decide)))
  have x8 : w8.cell? ⟨w1.heap.size, 0, none⟩ = some (.slice (some ⟨g, 0, none⟩) 6 6) := by rw [(bcell C8).1 _ _ z7]; exact x7
  have y8 : w8.cell? ⟨nb, 0, none⟩ = some (.int .i64 5) := by rw [(bcell C8).1 _ _ zn7]; exact y7
  have z8 : w1.heap.size < w8.heap.size := by have := C8.size; omega
  have zn8 : nb < w8.heap.size := by have := C8.size; omega
  have HT8 := Lib.hid (HT7.out.later C8)
  have HB8 := Lib.hid (below_via C8 HB7.out)
  clear hw8 k8 C8 x7 y7 z7 zn7 HT7 HB7 HI7
  refine HS8.out.mono ?_
  clear HS8
  rintro e w9 ⟨rfl, hb9⟩
  have x9 : w9.cell? ⟨w1.heap.size, 0, none⟩ = some (.slice (some ⟨g, 0, none⟩) 6 6) := by rw [(bcell hb9).1 _ _ z8]; exact x8
  have y9 : w9.cell? ⟨nb, 0, none⟩ = some (.int .i64 5) := by rw [(bcell hb9).1 _ _ zn8]; exact y8
  have z9 : w1.heap.size < w9.heap.size := by have := hb9.size; omega
  have zn9 : nb < w9.heap.size := by have := hb9.size; omega
  have HT9 := Lib.hid (HT8.out.later hb9)
  have HB9 := Lib.hid (below_via hb9 HB8.out)
  have HNX := Lib.hid (show Calls Try.prog 14 #[.agg #[.slice (some ⟨g, 0, none⟩) 6 6], .int .i64 4, .int .i64 1] w9 (RetN [1, 3, 4] 4 1 w9) from by
    have := focus_Next_any (some ⟨g, 0, none⟩) 6 smT 4 1 w9 HT9.out
    rw [smT_fos] at this
    exact this)
  clear hb9 x8 y8 z8 zn8 HT8 HB8
  go_wp2_with fail
  refine HNX.out.mono ?_
  clear HNX
  rintro e w10 ⟨rfl, hb10⟩
  rw [smT_next]
  have x10 : w10.cell? ⟨w1.heap.size, 0, none⟩ = some (.slice (some ⟨g, 0, none⟩) 6 6) := by rw [(bcell hb10).1 _ _ z9]; exact x9
  have y10 : w10.cell? ⟨nb, 0, none⟩ = some (.int .i64 5) := by rw [(bcell hb10).1 _ _ zn9]; exact y9
  have z10 : w1.heap.size < w10.heap.size := by have := hb10.size; omega
  have zn10 : nb < w10.heap.size := by have := hb10.size; omega
  have HT10 := Lib.hid (HT9.out.later hb10)
  have HB10 := Lib.hid (below_via hb10 HB9.out)
  have HCA := Lib.hid (show Calls Try.prog 18 #[.agg #[.slice (some ⟨g, 0, none⟩) 6 6], .agg #[.slice (some ⟨g, 0, none⟩) 6 6], .int .i64 3] w10 (RetC smT smT 3 w10) from focus_Carry_any (some ⟨g, 0, none⟩) (some ⟨g, 0, none⟩) 6 6 smT smT 3 w10 HT10.out HT10.out)
  clear hb10 x9 y9 z9 zn9 HT9 HB9
  go_wp2_with fail
  refine HCA.out.mono ?_
  clear HCA
  rintro e w11 ⟨rfl, hb11⟩
  rw [smT_carry]
  have y11 : w11.cell? ⟨nb, 0, none⟩ = some (.int .i64 5) := by rw [(bcell hb11).1 _ _ zn10]; exact y10
  have HB11 := Lib.hid (below_via hb11 HB10.out)
  clear hb11 x10 y10 z10 HT10 HB10
  go_wp2
  go_ret
  exact ⟨rfl, HB11.out⟩
end Go.Proofs.Ytihjefncjkdnpaa
