/- Focus: a router's state; contracts of New, parent, slices.Clone. -/
import Derived.Test.YtihjefncjkdnpaaFoC
import Derived.Test.YtihjefncjkdnpaaDwr
import Derived.Laws.OwnMore
namespace Go.Proofs.Ytihjefncjkdnpaa
open Go.RowKit Go.Deep
set_option linter.unusedVariables false
set_option linter.unusedSimpArgs false

/-- a slice: its block, its length, its room -/
abbrev Sl := Option (Nat × Nat × Nat)
def slV : Sl → Value
  | none => .slice none 0 0
  | some (g, n, c) => .slice (some ⟨g, 0, none⟩) n c
def slD : Sl → DataW Unit
  | none => .nil
  | some (g, n, c) => .agg [.lit (.int .i64 g), .lit (.int .i64 n), .lit (.int .i64 c)]
def rdSl (v : Value) : Option (DataW Unit × List MemPlace) :=
  match v with
  | .slice none 0 0 => some (slD none, [])
  | .slice (some ⟨g, 0, none⟩) n c => some (slD (some (g, n, c)), [])
  | _ => none
theorem rdSl_mk (s : Sl) : rdSl (slV s) = some (slD s, []) := by
  rcases s with _ | ⟨g, n, c⟩ <;> rfl
theorem rdSl_inv {v : Value} {s : Sl} {ps : List MemPlace} (h : rdSl v = some (slD s, ps)) : v = slV s := by
  unfold rdSl at h
  split at h
  · rcases s with _ | ⟨g, n, c⟩
    · rfl
    · simp [slD] at h
  · rename_i g n c
    rcases s with _ | ⟨g', n', c'⟩
    · simp [slD] at h
    · simp only [slD, Option.some.injEq, Prod.mk.injEq, DataW.agg.injEq, List.cons.injEq, DataW.lit.injEq, Lit.int.injEq, true_and, and_true] at h
      obtain ⟨⟨h1, h2, h3⟩, _⟩ := h
      obtain rfl : g = g' := by omega
      obtain rfl : n = n' := by omega
      obtain rfl : c = c' := by omega
      rfl
  · cases h
theorem zero_sl_ (w : World) : (zeroValue 105).run Try.prog w = .ok (slV none) w := by kernel_rfl
theorem int_law_ : Maps.Keyed Try.prog 3 := Maps.int_keyed Try.underlying3
/-- block b is a map of at most m nodes; f: each node's takers -/
def TksMap (w : World) (b m : Nat) (f : Int → Sl) : Prop := ∃ D : DataW Unit, w.ownsMap Try.prog 3 rdSl b m D ∧ Maps.IsMap D ∧ ∀ k : Int, (Lit.int .i64 k).wf = true → D.atKey (.int .i64 k) (slD none) = slD (f k)
theorem TksMap.of_block {w w' : World} {b m : Nat} {f : Int → Sl} (h : TksMap w b m f) (e : w'.heap[b]? = w.heap[b]?) : TksMap w' b m f := by
  obtain ⟨D, ⟨es, clock, hb, hr⟩, h2⟩ := h
  exact ⟨D, ⟨es, clock, e.trans hb, hr⟩, h2⟩
theorem TksMap.lt {w : World} {b m : Nat} {f : Int → Sl} (h : TksMap w b m f) : b < w.heap.size := by
  obtain ⟨D, h1, _⟩ := h
  exact h1.lt
theorem TksMap.block {w : World} {b m : Nat} {f : Int → Sl} (h : TksMap w b m f) : ∃ es clock, w.heap[b]? = some (.map es clock) := by
  obtain ⟨D, ⟨es, clock, hb, _⟩, _⟩ := h
  exact ⟨es, clock, hb⟩
theorem TksMap.look {w : World} {b m : Nat} {f : Int → Sl} (h : TksMap w b m f) (k : Int) (hk : (Lit.int .i64 k).wf = true) : (Instr.lookup 99 (.map (some b)) (.int .i64 k) false).run Try.prog w = .ok (slV (f k)) w := by
  obtain ⟨D, h1, h2, h3⟩ := h
  obtain ⟨v, ps, hrun, hv⟩ := h1.lookup int_law_ Try.underlying99 (zero_sl_ w) (rdSl_mk none) (Maps.keyOf_int_mk Try.underlying3 hk)
  rw [h3 k hk] at hv
  rw [hrun, rdSl_inv hv]
def putI (f : Int → Sl) (k : Int) (v : Sl) : Int → Sl := fun j => if j = k then v else f j
theorem TksMap.put {w : World} {b m : Nat} {f : Int → Sl} (h : TksMap w b m f) (hm : m < maxLen) (k : Int) (hk : (Lit.int .i64 k).wf = true) (s : Sl) : ∃ w', (Instr.mapUpdate 99 (.map (some b)) (.int .i64 k) (slV s)).run Try.prog w = .ok () w' ∧ TksMap w' b (m + 1) (putI f k s) ∧ w.grownBy w' (some b) := by
  obtain ⟨D, h1, h2, h3⟩ := h
  obtain ⟨w', hrun, h4, h5⟩ := h1.update int_law_ Try.underlying99 hm (Maps.keyOf_int_mk Try.underlying3 hk) (rdSl_mk s)
  refine ⟨w', hrun, ⟨_, h4, h2.put _ _, fun j hj => ?_⟩, h5⟩
  unfold putI
  by_cases e : j = k
  · rw [if_pos e, e]
    exact Maps.atKey_put_same (k := .int .i64 k) h2 (by first | trivial | exact hk) _ _
  · rw [if_neg e, Maps.atKey_put_other (fun h => by injection h with _ h; exact e h)]
    exact h3 j hj
theorem tksMap_made (w : World) : TksMap (w.alloc (.map #[] 0)) w.heap.size 0 (fun _ => none) :=
  ⟨.map [], World.ownsMap_made _ _ _ _, ⟨_, rfl⟩, fun l _ => rfl⟩
theorem infoFun_ : (Try.prog.info? 91).map (fun i => (i.zero, i.size, i.bytes)) = some (some .nilFunc, 1, 8) := by kernel_rfl
def parF (pv : Value) : Value := .func (.func 50) #[pv] #[]
/-- a router lies in memory: f: each node's takers, ts: what they are -/
structure RouterAt (w0 W : World) (rb mb : Nat) (pv : Value) (P : List Int) (m : Nat) (f : Int → Sl) (ts : Int → List Value) (many : Nat) : Prop where
  be : Below w0.heap.size w0 W
  ro : W.heap[rb]? = some (.cells #[.int .i64 P.length, parF pv, .map (some mb), .int .i64 many] 101 (0, 0))
  pa : W.ownsRow w0.heap.size 3 1 pv P.length (P.map (Value.int .i64))
  mp : TksMap W mb m f
  mm : m ≤ many
  rw : ∀ k : Int, W.ownsRow w0.heap.size 91 1 (slV (f k)) (ts k).length (ts k)
  ap : ∀ j k : Int, j ≠ k → (slV (f j)).ownBlock = none ∨ (slV (f j)).ownBlock ≠ (slV (f k)).ownBlock
  zr : w0.heap.size ≤ rb
  zm : w0.heap.size ≤ mb
  tl : ∀ k : Int, (ts k).length ≤ many
set_option maxRecDepth 100000 in
set_option maxHeartbeats 8000000 in
theorem focus_New_yes (p : Option Addr) (c : Nat) (T : List Nd) (w : World) (hT : TreeAt w (.slice p T.length c) T) (hck : (checkT T).1 = 0) : Calls Try.prog 20 #[.agg #[.slice p T.length c]] w fun e w' => ∃ rb mb pv, e = .returned (.tuple #[.pointer (some ⟨rb, 0, none⟩), .int .i64 0]) ∧ RouterAt w w' rb mb pv (parL T) 0 (fun _ => none) (fun _ => []) 0 := by
  have HT := Lib.hid hT
  have hlen := hT.len
  have HCK := Lib.hid hck
  have hmf : ∀ (fn : Fn) (first cap : Array Value) (w : World), (Instr.makeFunc fn first cap).run Try.prog w = .ok (.func fn first cap) w := fun _ _ _ _ => rfl
  have hmm := @run_makeMap Try.prog
  clear hT hck
  go_enter Try.func20, Try.ntmps20
  go_wp2_with fail
  refine (tree_Check_any p c T _ (HT.out.later (by go_grown))).mono ?_
  rw [HCK.out]
  generalize (checkT T).2 = c2 at *
  rintro e w1 ⟨rfl, hb1⟩
  have B1 : Below w.heap.size w w1 := below_via hb1 (by go_grown)
  have x0 : w1.cell? ⟨w.heap.size, 0, none⟩ = some (.slice p T.length c) := by rw [(bcell hb1).1 _ _ (by simp)]; simp [go_sem]
  have z0 : w.heap.size < w1.heap.size := by have := hb1.size; simp at this; omega
  clear hb1
  go_wp2_with fail
  refine (tree_Parents_any p c T _ (HT.out.later B1)).mono ?_
  rintro e w2 ⟨v, rfl, own, hb2⟩
  have B2 := below_via hb2 B1
  have HPV := Lib.hid (row_sink_ own B1.size)
  have z2 : w.heap.size ≤ w2.heap.size := B2.size
  obtain ⟨pv, cv, rfl, hcv⟩ : ∃ p c, v = .slice p (parL T).length c ∧ (parL T).length ≤ c := by
    rcases row_form own with ⟨rfl, h0, _⟩ | ⟨g, c, rfl, h1, _⟩
    · exact ⟨none, 0, by rw [h0], by omega⟩
    · exact ⟨_, _, rfl, h1⟩
  clear own hb2 x0 z0
  obtain ⟨W4, hW4⟩ : ∃ W4, W4 = (w2.alloc (.map #[] 0)).alloc (.cells #[.int .i64 (parL T).length, parF (.slice pv (parL T).length cv), .map (some w2.heap.size), .int .i64 0] 101) := ⟨_, rfl⟩
  have B24 : Below w2.heap.size w2 W4 := by rw [hW4]; exact below_al (below_al (Below.refl _ _) _) _
  have HRA := Lib.hid (show RouterAt w W4 (w2.heap.size + 1) w2.heap.size (.slice pv (parL T).length cv) (parL T) 0 (fun _ => none) (fun _ => []) 0 from by
    have b1 := heap_alloc_new (w2.alloc (.map #[] 0)) (.cells #[.int .i64 (parL T).length, parF (.slice pv (parL T).length cv), .map (some w2.heap.size), .int .i64 0] 101)
    rw [World.size_alloc] at b1
    refine ⟨below_via B24 B2, by rw [hW4]; exact b1, row_later HPV.out B24, ?_, Nat.le_refl _, fun k => ⟨rfl, .inl ⟨rfl, rfl⟩⟩, fun j k _ => .inl rfl, by omega, z2, fun k => Nat.zero_le _⟩
    rw [hW4]
    exact (tksMap_made w2).of_block (heap_alloc_old _ _ (by simp)))
  have HW4 := Lib.hid hW4
  clear hW4 B24
  go_wp2
  go_ret2
  exact ⟨_, _, _, rfl, by rw [HW4.out] at HRA; exact HRA.out⟩
set_option maxRecDepth 100000 in
set_option maxHeartbeats 4000000 in
theorem parent_any (pv : Value) (P : List Int) (n : Nat) (w : World) (hP : IntsAt w pv P) (hn : n < P.length) : Calls Try.prog 50 #[pv, .int .i64 n] w fun e w' => e = .returned (.int .i64 (P.getD n 0)) ∧ w = w' := by
  obtain ⟨p, c, rfl, h1, h2, _, hc⟩ := hP
  obtain ⟨b, off, rfl, hb, hc⟩ := hc (by omega)
  have cn := hc n hn
  generalize P.getD n 0 = x at *
  have hni : (n : Int) < (P.length : Int) := by omega
  clear hc
  go_enter Try.func50, Try.ntmps50
  go_wp2
  go_ret
  exact ⟨rfl, rfl⟩
set_option maxRecDepth 100000 in
set_option maxHeartbeats 4000000 in
theorem Clone_any (base : Nat) (s : Sl) (xs : List Value) (w : World) (h : w.ownsRow base 91 1 (slV s) xs.length xs) (h1 : ∀ x ∈ xs, x.oneCell' = true) (hl : xs.length ≤ 4096) : Calls Try.prog 69 #[slV s] w fun e w' => ∃ s', e = .returned (slV s') ∧ w'.ownsRow w.heap.size 91 1 (slV s') xs.length xs ∧ Below w.heap.size w w' := by
  obtain ⟨i0, hi, hz0, hz1, hz2⟩ := info_parts infoFun_
  have HI := Lib.hid (And.intro hi (And.intro hz0 (And.intro hz1 hz2)))
  have qT : ∀ (w : World) (a : Option Addr) (n c n' c' : Nat), (binOp .eql 105 (.slice a n c) (.slice none n' c')).run Try.prog w = .ok (.bool a.isNone) w := fun w a n c n' c' => Lib.run_eql_slice_nil w _ _ a n c n' c' Try.underlying105
  clear hi hz0 hz1 hz2
  rcases s with _ | ⟨g, n, c⟩
  · have hx : xs = [] := by
      rcases row_form h with ⟨_, _, h⟩ | ⟨g, c, e, _⟩
      · exact h
      · cases e
    subst hx
    clear h
    unfold slV
    go_enter Try.func69, Try.ntmps69
    go_wp2
    go_ret
    exact ⟨none, rfl, ⟨rfl, .inl ⟨rfl, rfl⟩⟩, Below.refl _ _⟩
  · have hnx : n = xs.length := by
      rcases row_form h with ⟨e, _⟩ | ⟨g', c', e, _⟩
      · cases e
      · injection e
    subst hnx
    have hgz := (row_lt h g rfl).1
    have HS := Lib.hid (show Src (w.alloc (.cells #[] 91)) (some ⟨g, 0, none⟩) xs.length 1 xs from (row_src h).later (below_al (Below.refl _ _) (.cells #[] 91)) (Nat.le_refl _))
    have HON := Lib.hid h1
    have HROW : RowKit.Hid ((w.alloc (.cells #[] 91)).ownsRow w.heap.size 91 1 (.slice (some ⟨w.heap.size, 0, none⟩) 0 0) 0 []) := Lib.hid ⟨rfl, .inr ⟨w.heap.size, 0, #[], rfl, Nat.le_refl _, heap_alloc_new _ _, Nat.le_refl _, Nat.zero_le _, rfl, rfl⟩⟩
    have hm : 0 + xs.length ≤ maxLen := by unfold maxLen; omega
    clear h h1
    show Calls _ _ #[.slice (some ⟨g, 0, none⟩) xs.length c] _ _
    go_enter Try.func69, Try.ntmps69
    go_wp2_with (at_builtin; go_must (refine wpList_append_src _ rfl (.tmp 5) (.tmp 6) 105 rfl w.heap.size 91 i0 _ 1 8 Try.underlying105 HI.out.1 HI.out.2.1 HI.out.2.2.1 HI.out.2.2.2 rfl (by decide) _ 0 [] rfl HROW.out (some ⟨g, 0, none⟩) xs.length c xs rfl HS.out HON.out hm ?o2 ?o3 ?_))
    case o2 => omega
    case o3 => first | omega | (simp; done) | (simp; omega)
    intro v' w1 own gr pl
    have B1 : Below w.heap.size w w1 := Below.grown (below_al (Below.refl _ _) _) gr (by simp) (fun k hk => by simp [Value.ownBlock] at hk; omega)
    have HO := Lib.hid (show w1.ownsRow w.heap.size 91 1 v' xs.length xs by simpa using own)
    obtain ⟨s', hs'⟩ : ∃ s' : Sl, v' = slV s' := by
      rcases row_form HO.out with ⟨rfl, _, _⟩ | ⟨g, c, rfl, _⟩
      · exact ⟨none, rfl⟩
      · exact ⟨some (g, xs.length, c), rfl⟩
    have HS' := Lib.hid hs'
    have B1' := Lib.hid B1
    clear own gr pl B1 hs'
    go_wp2
    go_ret
    exact ⟨s', by rw [← HS'.out]; rfl, by rw [← HS'.out]; exact HO.out, B1'.out⟩
end Go.Proofs.Ytihjefncjkdnpaa
