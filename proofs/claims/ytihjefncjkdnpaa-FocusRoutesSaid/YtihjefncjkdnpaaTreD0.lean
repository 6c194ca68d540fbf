/- Trees: the state of Check's loop, and what each step makes of it. -/
import Derived.Test.YtihjefncjkdnpaaTreC
import Derived.Maps.OwnOps
import Derived.Maps.Views
import Derived.Maps.Keyed
import Derived.Deep.OwnRows
namespace Go.Proofs.Ytihjefncjkdnpaa
open Go.RowKit Go.Deep
set_option linter.unusedVariables false
set_option linter.unusedSimpArgs false

theorem res_bad {T l : List Nd} {x : Nd} {n : Nat} {t : Nat → Bool} {d : Nat → Int} {R : Int × Int} {c : Int} (h : resT T (x :: l) n t d = R) (hw : wrongAt T n x t d = c) (hc : c ≠ 0) : R = (c, (n : Int)) := by
  rw [← h, resT_cons, hw, if_neg hc]
theorem res_ok {T l : List Nd} {x : Nd} {n : Nat} {t : Nat → Bool} {d : Nat → Int} {R : Int × Int} (h : resT T (x :: l) n t d = R) (hw : wrongAt T n x t d = 0) : resT T l (n + 1) (after T.length n x t d).1 (after T.length n x t d).2 = R := by
  rw [← h, resT_cons, if_pos hw]
section
variable {T : List Nd} {x : Nd} {n : Nat} {t : Nat → Bool} {d : Nat → Int}
theorem wrong_kind (h : x.kind < 1 ∨ 11 < x.kind) : wrongAt T n x t d = 101 := by unfold wrongAt; rw [if_pos h]
def namesBad (T : List Nd) (n : Nat) (x : Nd) : Prop := (0 < x.id.size ∧ (idIn (T.take n) x.id = true ∨ nameB x.id = false)) ∨ (0 < x.cls.size ∧ nameB x.cls = false)
theorem wrong_name (hk : ¬ (x.kind < 1 ∨ 11 < x.kind)) (h : namesBad T n x) : wrongAt T n x t d = 105 := by unfold namesBad at h; unfold wrongAt; rw [if_neg hk, if_pos h]
def kidsBad (T : List Nd) (n : Nat) (x : Nd) (t : Nat → Bool) (d : Nat → Int) : Prop := (kidGo T.length n x.kids t d).isNone = true ∨ (leafB x.kind = true ∧ 0 < x.kids.length) ∨ (x.kind = 6 ∧ x.kids.length ≠ 1)
theorem wrong_kids (hk : ¬ (x.kind < 1 ∨ 11 < x.kind)) (hn : ¬ namesBad T n x) (h : kidsBad T n x t d) : wrongAt T n x t d = 102 := by unfold namesBad at hn; unfold kidsBad at h; unfold wrongAt; rw [if_neg hk, if_neg hn, if_pos h]
theorem wrong_items (hk : ¬ (x.kind < 1 ∨ 11 < x.kind)) (hn : ¬ namesBad T n x) (hq : ¬ kidsBad T n x t d) (h : itemsB x = false) : wrongAt T n x t d = 104 := by unfold namesBad at hn; unfold kidsBad at hq; unfold wrongAt; rw [if_neg hk, if_neg hn, if_neg hq, if_pos h]
theorem wrong_fields (hk : ¬ (x.kind < 1 ∨ 11 < x.kind)) (hn : ¬ namesBad T n x) (hq : ¬ kidsBad T n x t d) (hi : itemsB x = true) (h : fieldsB x = false) : wrongAt T n x t d = 106 := by
  unfold namesBad at hn; unfold kidsBad at hq; unfold wrongAt; rw [if_neg hk, if_neg hn, if_neg hq, if_neg (by rw [hi]; decide), if_pos h]
theorem wrong_text (hk : ¬ (x.kind < 1 ∨ 11 < x.kind)) (hn : ¬ namesBad T n x) (hq : ¬ kidsBad T n x t d) (hi : itemsB x = true) (hf : fieldsB x = true) (h : 65536 < x.text.size) : wrongAt T n x t d = 3 := by
  unfold namesBad at hn; unfold kidsBad at hq; unfold wrongAt; rw [if_neg hk, if_neg hn, if_neg hq, if_neg (by rw [hi]; decide), if_neg (by rw [hf]; decide), if_pos h]
theorem wrong_none (hk : ¬ (x.kind < 1 ∨ 11 < x.kind)) (hn : ¬ namesBad T n x) (hq : ¬ kidsBad T n x t d) (hi : itemsB x = true) (hf : fieldsB x = true) (h : x.text.size ≤ 65536) : wrongAt T n x t d = 0 := by
  unfold namesBad at hn; unfold kidsBad at hq; unfold wrongAt; rw [if_neg hk, if_neg hn, if_neg hq, if_neg (by rw [hi]; decide), if_neg (by rw [hf]; decide), if_neg (by omega)]
end
theorem kidGo_bad {N n : Nat} {k : Int} {ks : List Int} {t : Nat → Bool} {d : Nat → Int} (h : k ≤ (n : Int) ∨ (N : Int) ≤ k ∨ t k.toNat = true) : kidGo N n (k :: ks) t d = none := by
  rw [kidGo, if_pos h]
theorem kidGo_ok {N n q : Nat} {ks : List Int} {t : Nat → Bool} {d : Nat → Int} (h1 : n < q) (h2 : q < N) (h3 : t q = false) : kidGo N n ((q : Int) :: ks) t d = kidGo N n ks (upd t q true) (upd d q (d n + 1)) := by
  rw [kidGo, if_neg (by simp only [Int.toNat_natCast, h3]; rintro (h | h | h) <;> first | omega | cases h)]
  simp

/-- the names that are taken: those of the first m nodes -/
def IdTaken (T : List Nd) (m : Nat) (l : List UInt8) : Prop := ∃ y ∈ T.take m, y.id.data.toList = l ∧ l ≠ []
theorem string_law_ : Maps.Keyed Try.prog 9 := Maps.string_keyed Try.underlying9
theorem zero_int_ (w : World) : (zeroValue 3).run Try.prog w = .ok (.int .i64 0) w := by kernel_rfl
theorem keyOf_str {s : ByteArray} (hs : s.size ≤ 9223372036854775807) : keyOf Try.prog 9 (.string s) = some (.string s.data.toList) := by
  simp [keyOf, Try.underlying9, mapKey, maxLen, hs]
/-- the map of names: block b; the first m nodes' -/
def IdsAt (w : World) (b m : Nat) (T : List Nd) : Prop := ∃ D : DataW Unit, w.ownsMap Try.prog 9 (plainElem Try.prog 3) b m D ∧ Maps.IsMap D ∧ ∀ l, (IdTaken T m l → ∃ c : Int, 0 < c ∧ D.atKey (.string l) (.lit (.int .i64 0)) = .lit (.int .i64 c)) ∧ (¬ IdTaken T m l → D.atKey (.string l) (.lit (.int .i64 0)) = .lit (.int .i64 0))
theorem IdsAt.of_block {w w' : World} {b m : Nat} {T : List Nd} (h : IdsAt w b m T) (e : w'.heap[b]? = w.heap[b]?) : IdsAt w' b m T := by
  obtain ⟨D, ⟨es, clock, hb, hr⟩, h2⟩ := h
  exact ⟨D, ⟨es, clock, e.trans hb, hr⟩, h2⟩
theorem IdsAt.lt {w : World} {b m : Nat} {T : List Nd} (h : IdsAt w b m T) : b < w.heap.size := by
  obtain ⟨D, h1, _⟩ := h
  exact h1.lt
theorem take_id {T : List Nd} {m : Nat} {x : Nd} (hm : m < T.length) (hx : T.getD m zNd = x) (l : List UInt8) : IdTaken T (m + 1) l ↔ IdTaken T m l ∨ (x.id.data.toList = l ∧ l ≠ []) := by
  have e : T.take (m + 1) = T.take m ++ [x] := by
    rw [List.take_add_one, ← hx, List.getD_eq_getElem?_getD, List.getElem?_eq_getElem hm]; rfl
  unfold IdTaken
  rw [e]
  constructor
  · rintro ⟨y, hy, h1, h2⟩
    rcases List.mem_append.1 hy with h | h
    · exact .inl ⟨y, h, h1, h2⟩
    · rw [List.mem_singleton] at h; subst h; exact .inr ⟨h1, h2⟩
  · rintro (⟨y, hy, h⟩ | h)
    · exact ⟨y, List.mem_append_left _ hy, h⟩
    · exact ⟨x, List.mem_append_right _ (List.mem_singleton.2 rfl), h⟩
/-- a node without a name -/
theorem IdsAt.skip {w : World} {b m : Nat} {T : List Nd} {x : Nd} (h : IdsAt w b m T) (hm : m < T.length) (hx : T.getD m zNd = x) (h0 : x.id.size = 0) : IdsAt w b (m + 1) T := by
  obtain ⟨D, h1, h2, h3⟩ := h
  refine ⟨D, h1.mono (by omega), h2, fun l => ?_⟩
  have e : IdTaken T (m + 1) l ↔ IdTaken T m l := by
    rw [take_id hm hx]
    refine ⟨fun h => h.elim id fun ⟨h1, h2⟩ => absurd h1 ?_, .inl⟩
    rintro rfl
    exact h2 (List.eq_nil_of_length_eq_zero (by rw [← Lib.size_eq]; exact h0))
  rw [e]
  exact h3 l
set_option maxRecDepth 100000 in
/-- what the map says of a name -/
theorem IdsAt.look {w : World} {b m : Nat} {T : List Nd} (h : IdsAt w b m T) (s : ByteArray) (hs : s.size ≤ 9223372036854775807) : ∃ c : Int, (Instr.lookup 127 (.map (some b)) (.string s) false).run Try.prog w = .ok (.int .i64 c) w ∧ (0 < s.size → idIn (T.take m) s = true → 0 < c) ∧ (0 < s.size → idIn (T.take m) s = false → c = 0) := by
  obtain ⟨D, h1, h2, h3⟩ := h
  obtain ⟨c, hrun, hat, _⟩ := h1.lookup_int string_law_ Try.underlying127 Try.underlying3 (zero_int_ w) (keyOf_str (s := s) hs)
  have ne : 0 < s.size → s.data.toList ≠ [] := fun h0 e => by rw [Lib.size_eq, e] at h0; exact absurd h0 (Nat.lt_irrefl _)
  refine ⟨c, hrun, fun h0 hi => ?_, fun h0 hi => ?_⟩
  · have ne := ne h0
    obtain ⟨y, hy, he⟩ := List.any_eq_true.1 hi
    rw [decide_eq_true_eq] at he
    obtain ⟨c', hc', hat'⟩ := (h3 s.data.toList).1 ⟨y, hy, by rw [he], ne⟩
    rw [hat] at hat'
    injection hat' with hat'
    injection hat' with _ hat'
    omega
  · have hn : ¬ IdTaken T m s.data.toList := by
      rintro ⟨y, hy, he, _⟩
      have := List.any_eq_false.1 hi y hy
      apply this
      rw [decide_eq_true_eq]
      cases hy' : y.id; cases s
      rw [hy'] at he
      simp only [ByteArray.mk.injEq]
      exact Array.ext' he
    have hat' := (h3 s.data.toList).2 hn
    rw [hat] at hat'
    injection hat' with hat'
    injection hat' with _ hat'
/-- a name more -/
theorem IdsAt.put {w' : World} {b m : Nat} {T : List Nd} {x : Nd} {D : DataW Unit} {c : Int} (hD : Maps.IsMap D) (h3 : ∀ l, (IdTaken T m l → ∃ c : Int, 0 < c ∧ D.atKey (.string l) (.lit (.int .i64 0)) = .lit (.int .i64 c)) ∧ (¬ IdTaken T m l → D.atKey (.string l) (.lit (.int .i64 0)) = .lit (.int .i64 0)))
    (hm : m < T.length) (hx : T.getD m zNd = x) (h0 : 0 < x.id.size) (hc : 0 < c) (h1 : w'.ownsMap Try.prog 9 (plainElem Try.prog 3) b (m + 1) (D.put (.string x.id.data.toList) (.lit (.int .i64 c)))) : IdsAt w' b (m + 1) T := by
  have ne : x.id.data.toList ≠ [] := fun e => by rw [Lib.size_eq, e] at h0; exact absurd h0 (Nat.lt_irrefl _)
  refine ⟨_, h1, hD.put _ _, fun l => ?_⟩
  rw [take_id hm hx]
  by_cases e : l = x.id.data.toList
  · subst e
    have := Maps.atKey_put_same (k := .string x.id.data.toList) hD trivial (.lit (.int .i64 c)) (.lit (.int .i64 0))
    exact ⟨fun _ => ⟨c, hc, this⟩, fun h => absurd (.inr ⟨rfl, ne⟩) h⟩
  · have := Maps.atKey_put_other (D := D) (k := .string x.id.data.toList) (k' := .string l) (fun h => by injection h with h; exact e h) (.lit (.int .i64 c)) (.lit (.int .i64 0))
    rw [this]
    refine ⟨fun h => (h3 l).1 (h.elim id fun h => absurd h.1.symm e), fun h => (h3 l).2 fun h' => h (.inl h')⟩
theorem idsAt_made (w : World) (T : List Nd) : IdsAt (w.alloc (.map #[] 0)) w.heap.size 0 T :=
  ⟨.map [], World.ownsMap_made _ _ _ _, ⟨_, rfl⟩, fun l => ⟨fun ⟨y, hy, _⟩ => by simp at hy, fun _ => rfl⟩⟩

/-- the state of the loop: how the worlds hang together (B: Check's first block) -/
structure CkW (w wr : World) (BT BD BM : Nat) (p : Option Addr) (c : Nat) (T : List Nd) (t : Nat → Bool) (d : Nat → Int) (m n : Nat) : Prop where
  l1 : w.heap.size < BT
  l2 : BT < BD
  l3 : BD < BM
  rt : wr.rowIs BT 4 T.length fun i => .bool (t i)
  rd : wr.rowIs BD 3 T.length fun i => .int .i64 (d i)
  ids : IdsAt wr BM n T
  be : Below w.heap.size w wr
  box : wr.cell? ⟨w.heap.size, 0, none⟩ = some (.slice p T.length c)
  dep : ∀ i, 0 ≤ d i ∧ d i ≤ (m : Int)
theorem below_block {B b : Nat} {w w' : World} (h : Below B w w') (hb : b < B) : w'.heap[b]? = w.heap[b]? := h.block b hb
theorem CkW.below {w wr w' : World} {BT BD BM : Nat} {p : Option Addr} {c : Nat} {T : List Nd} {t : Nat → Bool} {d : Nat → Int} {m n : Nat} (h : CkW w wr BT BD BM p c T t d m n) (hb : Below wr.heap.size wr w') : CkW w w' BT BD BM p c T t d m n := by
  have z1 := h.rt.lt
  have z2 := h.rd.lt
  have z3 := h.ids.lt
  have l1 := h.l1; have l2 := h.l2; have l3 := h.l3
  exact ⟨h.l1, h.l2, h.l3, h.rt.of_block (below_block hb z1), h.rd.of_block (below_block hb z2), h.ids.of_block (below_block hb z3), below_via hb h.be, by rw [(bcell hb).1 _ _ (by omega)]; exact h.box, h.dep⟩
theorem CkW.depth {w wr : World} {BT BD BM : Nat} {p : Option Addr} {c : Nat} {T : List Nd} {t : Nat → Bool} {d : Nat → Int} {m n m' : Nat} (h : CkW w wr BT BD BM p c T t d m n) (hm : m ≤ m') : CkW w wr BT BD BM p c T t d m' n :=
  ⟨h.l1, h.l2, h.l3, h.rt, h.rd, h.ids, h.be, h.box, fun i => ⟨(h.dep i).1, by have := (h.dep i).2; omega⟩⟩
theorem CkW.setT {w wr : World} {BT BD BM : Nat} {p : Option Addr} {c : Nat} {T : List Nd} {t : Nat → Bool} {d : Nat → Int} {m n : Nat} (h : CkW w wr BT BD BM p c T t d m n) (q : Nat) : CkW w (wr.setCell ⟨BT, q, none⟩ (.bool true)) BT BD BM p c T (upd t q true) d m n := by
  have z1 := h.rt.lt
  have z2 := h.rd.lt
  have z3 := h.ids.lt
  have l1 := h.l1; have l2 := h.l2; have l3 := h.l3
  refine ⟨h.l1, h.l2, h.l3, (h.rt.set q (.bool true)).congr fun i _ => ?_, h.rd.setOther (by simp; omega) _, h.ids.of_block (blk_setCell_other _ _ _ _ (by simp; omega)), h.be.setCell (by simp; omega) _, ?_, h.dep⟩
  · unfold upd; split <;> rfl
  · rw [World.cell?_of_block (blk_setCell_other _ _ _ _ (by simp; omega))]; exact h.box
theorem CkW.setD {w wr : World} {BT BD BM : Nat} {p : Option Addr} {c : Nat} {T : List Nd} {t : Nat → Bool} {d : Nat → Int} {m n : Nat} (h : CkW w wr BT BD BM p c T t d m n) (q : Nat) (v : Int) (hv : 0 ≤ v ∧ v ≤ (m : Int)) : CkW w (wr.setCell ⟨BD, q, none⟩ (.int .i64 v)) BT BD BM p c T t (upd d q v) m n := by
  have z1 := h.rt.lt
  have z2 := h.rd.lt
  have z3 := h.ids.lt
  have l1 := h.l1; have l2 := h.l2; have l3 := h.l3
  refine ⟨h.l1, h.l2, h.l3, h.rt.setOther (by simp; omega) _, (h.rd.set q (.int .i64 v)).congr fun i _ => ?_, h.ids.of_block (blk_setCell_other _ _ _ _ (by simp; omega)), h.be.setCell (by simp; omega) _, ?_, fun i => ?_⟩
  · unfold upd; split <;> rfl
  · rw [World.cell?_of_block (blk_setCell_other _ _ _ _ (by simp; omega))]; exact h.box
  · unfold upd; split
    · exact hv
    · exact h.dep i
theorem CkW.put {w wr w' : World} {BT BD BM : Nat} {p : Option Addr} {c : Nat} {T : List Nd} {t : Nat → Bool} {d : Nat → Int} {m n : Nat} (h : CkW w wr BT BD BM p c T t d m n) (hi : IdsAt w' BM (n + 1) T) (hg : wr.grownBy w' (some BM)) : CkW w w' BT BD BM p c T t d m (n + 1) := by
  have z1 := h.rt.lt
  have z2 := h.rd.lt
  have z3 := h.ids.lt
  have l1 := h.l1; have l2 := h.l2; have l3 := h.l3
  have g : ∀ b, b < wr.heap.size → b ≠ BM → w'.heap[b]? = wr.heap[b]? := fun b hb hne => hg.block b hb (fun e => hne (by injection e))
  exact ⟨h.l1, h.l2, h.l3, h.rt.of_block (g _ z1 (by omega)), h.rd.of_block (g _ z2 (by omega)), hi, Below.grown h.be hg h.be.size (fun k hk => by injection hk with hk; omega), by rw [World.cell?_of_block (g w.heap.size (by omega) (by omega))]; exact h.box, h.dep⟩
theorem CkW.skip {w wr : World} {BT BD BM : Nat} {p : Option Addr} {c : Nat} {T : List Nd} {t : Nat → Bool} {d : Nat → Int} {m n : Nat} {x : Nd} (h : CkW w wr BT BD BM p c T t d m n) (hm : n < T.length) (hx : T.getD n zNd = x) (h0 : x.id.size = 0) : CkW w wr BT BD BM p c T t d m (n + 1) :=
  ⟨h.l1, h.l2, h.l3, h.rt, h.rd, h.ids.skip hm hx h0, h.be, h.box, h.dep⟩
end Go.Proofs.Ytihjefncjkdnpaa
