/- Trees: the plain model of a tree of nodes, what Check says of it, and how a tree lies in memory. -/
import Derived.Test.YtihjefncjkdnpaaBase
namespace Go.Proofs.Ytihjefncjkdnpaa
open Go.RowKit
set_option linter.unusedVariables false
set_option linter.unusedSimpArgs false

/-- an item -/
structure It where
  k : Int
  n : Int
  d : Int
  lo : Int
  hi : Int
/-- a node -/
structure Nd where
  kind : Int
  id : ByteArray
  cls : ByteArray
  kids : List Int
  iw : It
  ih : It
  gap : Int
  p0 : Int
  p1 : Int
  p2 : Int
  p3 : Int
  border : Int
  align : Int
  cross : Int
  text : ByteArray
  wrap : Int
  fg : Int
  bg : Int
  add : Int
  drop : Int
  cols : List It
  x0 : Int
  x1 : Int
  x2 : Int
  x3 : Int
  flags : Int
def zIt : It := ⟨0, 0, 0, 0, 0⟩
def zNd : Nd := ⟨0, ByteArray.empty, ByteArray.empty, [], zIt, zIt, 0, 0, 0, 0, 0, 0, 0, 0, ByteArray.empty, 0, 0, 0, 0, 0, [], 0, 0, 0, 0, 0⟩

def itemB (x : It) : Bool := decide (0 ≤ x.lo ∧ x.lo ≤ 4096 ∧ (x.hi = 0 ∨ (x.lo ≤ x.hi ∧ 1 ≤ x.hi ∧ x.hi ≤ 4096)) ∧ ((x.k = 0 ∧ x.n = 0 ∧ x.d = 0) ∨ (x.k = 1 ∧ 0 ≤ x.n ∧ x.n ≤ 4096 ∧ x.d = 0) ∨ (x.k = 2 ∧ 0 ≤ x.n ∧ x.n ≤ 1000 ∧ 1 ≤ x.d ∧ x.d ≤ 1000) ∨ (x.k = 3 ∧ 1 ≤ x.n ∧ x.n ≤ 1000 ∧ x.d = 0)))
def colB (c : Int) : Bool := decide (c = 0 ∨ c = 1 ∨ (256 ≤ c ∧ c < 512) ∨ (16777216 ≤ c ∧ c < 33554432))
def leafB (k : Int) : Bool := decide (k < 2 ∨ 6 < k)
def okC (i : Nat) (c : Int) : Bool := decide ((97 ≤ c ∧ c ≤ 122) ∨ (65 ≤ c ∧ c ≤ 90) ∨ (0 < i ∧ ((48 ≤ c ∧ c ≤ 57) ∨ c = 45 ∨ c = 95)))
def okAll (s : ByteArray) (n : Nat) : Prop := ∀ i, i < n → okC i ((s.data.toList.getD i 0).toNat : Int) = true
def nameB (s : ByteArray) : Bool := decide (0 < s.size ∧ s.size ≤ 32) && (List.range s.size).all fun i => okC i ((s.data.toList.getD i 0).toNat : Int)
theorem nameB_eq (s : ByteArray) : nameB s = true ↔ (0 < s.size ∧ s.size ≤ 32 ∧ okAll s s.size) := by
  unfold nameB okAll
  simp [and_assoc]
theorem nameB_yes {s : ByteArray} (h0 : 0 < s.size) (h1 : s.size ≤ 32) (h : okAll s s.size) : nameB s = true := (nameB_eq s).2 ⟨h0, h1, h⟩
theorem nameB_no {s : ByteArray} (h : ¬ (0 < s.size ∧ s.size ≤ 32 ∧ okAll s s.size)) : nameB s = false := by rw [Bool.eq_false_iff]; exact fun e => h ((nameB_eq s).1 e)
theorem okAll_no {s : ByteArray} {i : Nat} (hi : i < s.size) (h : okC i ((s.data.toList.getD i 0).toNat : Int) = false) : nameB s = false := nameB_no fun ⟨_, _, h3⟩ => by have := h3 i hi; rw [h] at this; cases this
theorem okAll_succ {s : ByteArray} {i : Nat} (h : okAll s i) (hc : okC i ((s.data.toList.getD i 0).toNat : Int) = true) : okAll s (i + 1) := fun j hj => by
  by_cases e : j = i
  · subst e; exact hc
  · exact h j (by omega)

def itemsB (x : Nd) : Bool := itemB x.iw && itemB x.ih && x.cols.all itemB && (if x.kind = 4 then decide (0 < x.cols.length ∧ x.cols.length ≤ 64) else if x.kind = 8 then decide (x.cols.length ≤ 64) else decide (x.cols.length = 0))
def padsB (x : Nd) : Bool := decide ((0 ≤ x.p0 ∧ x.p0 ≤ 4096 ∧ -4096 ≤ x.x0 ∧ x.x0 ≤ 4096) ∧ (0 ≤ x.p1 ∧ x.p1 ≤ 4096 ∧ -4096 ≤ x.x1 ∧ x.x1 ≤ 4096) ∧ (0 ≤ x.p2 ∧ x.p2 ≤ 4096 ∧ -4096 ≤ x.x2 ∧ x.x2 ≤ 4096) ∧ (0 ≤ x.p3 ∧ x.p3 ≤ 4096 ∧ -4096 ≤ x.x3 ∧ x.x3 ≤ 4096))
def restB (x : Nd) : Bool := decide (0 ≤ x.gap ∧ x.gap ≤ 4096 ∧ 0 ≤ x.border ∧ x.border ≤ 4 ∧ 0 ≤ x.align ∧ x.align ≤ 5 ∧ 0 ≤ x.cross ∧ x.cross ≤ 5 ∧ 0 ≤ x.wrap ∧ x.wrap ≤ 2 ∧ x.flags ≤ 7)
def fieldsB (x : Nd) : Bool := padsB x && restB x && colB x.fg && colB x.bg

/-- one more place is filled -/
def upd {α : Type} (f : Nat → α) (k : Nat) (v : α) : Nat → α := fun j => if j = k then v else f j
theorem upd_same {α : Type} (f : Nat → α) (k : Nat) (v : α) : upd f k v k = v := by simp [upd]
theorem upd_other {α : Type} {f : Nat → α} {k j : Nat} {v : α} (h : j ≠ k) : upd f k v j = f j := by simp [upd, h]
/-- the kids of the node n, one by one; none: one of them may not be -/
def kidGo (N n : Nat) : List Int → (Nat → Bool) → (Nat → Int) → Option ((Nat → Bool) × (Nat → Int))
  | [], t, d => some (t, d)
  | k :: ks, t, d => if k ≤ (n : Int) ∨ (N : Int) ≤ k ∨ t k.toNat = true then none else kidGo N n ks (upd t k.toNat true) (upd d k.toNat (d n + 1))
/-- is the id of x one of those of the first nodes? -/
def idIn (l : List Nd) (id : ByteArray) : Bool := l.any fun y => decide (y.id = id)
/-- what is wrong with the node n: 0: nothing -/
def wrongAt (T : List Nd) (n : Nat) (x : Nd) (t : Nat → Bool) (d : Nat → Int) : Int :=
  if x.kind < 1 ∨ 11 < x.kind then 101
  else if (0 < x.id.size ∧ (idIn (T.take n) x.id = true ∨ nameB x.id = false)) ∨ (0 < x.cls.size ∧ nameB x.cls = false) then 105
  else if (kidGo T.length n x.kids t d).isNone = true ∨ (leafB x.kind = true ∧ 0 < x.kids.length) ∨ (x.kind = 6 ∧ x.kids.length ≠ 1) then 102
  else if itemsB x = false then 104
  else if fieldsB x = false then 106
  else if 65536 < x.text.size then 3
  else 0
/-- which nodes are some node's kids, how deep they lie, behind the node n -/
def after (N n : Nat) (x : Nd) (t : Nat → Bool) (d : Nat → Int) : (Nat → Bool) × (Nat → Int) := (kidGo N n x.kids t d).getD (t, d)
/-- the depths: f nodes from n on -/
def deepFrom (d : Nat → Int) : Nat → Nat → Int × Int
  | 0, _ => (0, 0)
  | f + 1, n => if 64 ≤ d n then (103, n) else deepFrom d f (n + 1)
/-- who is no kid: f nodes from n on -/
def loneFrom (t : Nat → Bool) (fin : Int × Int) : Nat → Nat → Int × Int
  | 0, _ => fin
  | f + 1, n => if t n = true then loneFrom t fin f (n + 1) else (102, n)
def endT (N : Nat) (t : Nat → Bool) (d : Nat → Int) : Int × Int := loneFrom t (deepFrom d N 0) (N - 1) 1
/-- the nodes from n on -/
def resT (T : List Nd) : List Nd → Nat → (Nat → Bool) → (Nat → Int) → Int × Int
  | [], _, t, d => endT T.length t d
  | x :: l, n, t, d => if wrongAt T n x t d = 0 then resT T l (n + 1) (after T.length n x t d).1 (after T.length n x t d).2 else (wrongAt T n x t d, n)
/-- what Check says of a tree: the error and the node -/
def checkT (T : List Nd) : Int × Int := if T.length = 0 ∨ 4096 < T.length then (100, 0) else resT T T 0 (fun _ => false) (fun _ => 0)
theorem resT_cons {T l : List Nd} {x : Nd} {n : Nat} {t : Nat → Bool} {d : Nat → Int} : resT T (x :: l) n t d = if wrongAt T n x t d = 0 then resT T l (n + 1) (after T.length n x t d).1 (after T.length n x t d).2 else (wrongAt T n x t d, n) := rfl

/-- a list of ints lies in memory -/
def IntsAt (w : World) (v : Value) (L : List Int) : Prop := ∃ p c, v = .slice p L.length c ∧ L.length ≤ c ∧ c ≤ 9223372036854775807 ∧ (p = none → c = 0) ∧ (0 < L.length → ∃ b off, p = some ⟨b, off, none⟩ ∧ b < w.heap.size ∧ ∀ i, i < L.length → w.cell? ⟨b, off + i, none⟩ = some (.int .i64 (L.getD i 0)))
def itV (x : It) : List Value := [.int .i8 x.k, .int .i64 x.n, .int .i64 x.d, .int .i64 x.lo, .int .i64 x.hi]
/-- a list of items lies in memory -/
def ItsAt (w : World) (v : Value) (L : List It) : Prop := ∃ p c, v = .slice p L.length c ∧ L.length ≤ c ∧ c ≤ 9223372036854775807 ∧ (p = none → c = 0) ∧ (0 < L.length → ∃ b off, p = some ⟨b, off, none⟩ ∧ b < w.heap.size ∧ ∀ i, i < L.length → ∀ j, j < 5 → w.cell? ⟨b, off + (i * 5 + j), none⟩ = (itV (L.getD i zIt))[j]?)
/-- a node's cells; kv, cv: its two lists -/
def ndV (x : Nd) (kv cv : Value) : List Value :=
  [.int .i8 x.kind, .string x.id, .string x.cls, kv, .int .i8 x.iw.k, .int .i64 x.iw.n, .int .i64 x.iw.d, .int .i64 x.iw.lo, .int .i64 x.iw.hi,
   .int .i8 x.ih.k, .int .i64 x.ih.n, .int .i64 x.ih.d, .int .i64 x.ih.lo, .int .i64 x.ih.hi, .int .i64 x.gap, .int .i64 x.p0, .int .i64 x.p1, .int .i64 x.p2, .int .i64 x.p3,
   .int .i8 x.border, .int .i8 x.align, .int .i8 x.cross, .string x.text, .int .i8 x.wrap, .int .i32 x.fg, .int .i32 x.bg, .int .u8 x.add, .int .u8 x.drop, cv,
   .int .i64 x.x0, .int .i64 x.x1, .int .i64 x.x2, .int .i64 x.x3, .int .u8 x.flags]
def NdAt (w : World) (b o : Nat) (x : Nd) : Prop := ∃ kv cv, IntsAt w kv x.kids ∧ ItsAt w cv x.cols ∧ ∀ j, j < 34 → w.cell? ⟨b, o + j, none⟩ = (ndV x kv cv)[j]?
/-- numbers that are what their types let them be -/
structure ItOk (x : It) : Prop where
  k : -128 ≤ x.k ∧ x.k ≤ 127
  n : -9223372036854775808 ≤ x.n ∧ x.n ≤ 9223372036854775807
  d : -9223372036854775808 ≤ x.d ∧ x.d ≤ 9223372036854775807
  lo : -9223372036854775808 ≤ x.lo ∧ x.lo ≤ 9223372036854775807
  hi : -9223372036854775808 ≤ x.hi ∧ x.hi ≤ 9223372036854775807
structure NdOk (x : Nd) : Prop where
  kind : -128 ≤ x.kind ∧ x.kind ≤ 127
  id : x.id.size ≤ 9223372036854775807
  cls : x.cls.size ≤ 9223372036854775807
  text : x.text.size ≤ 9223372036854775807
  kids : ∀ k ∈ x.kids, -9223372036854775808 ≤ k ∧ k ≤ 9223372036854775807
  iw : ItOk x.iw
  ih : ItOk x.ih
  gap : -9223372036854775808 ≤ x.gap ∧ x.gap ≤ 9223372036854775807
  p0 : -9223372036854775808 ≤ x.p0 ∧ x.p0 ≤ 9223372036854775807
  p1 : -9223372036854775808 ≤ x.p1 ∧ x.p1 ≤ 9223372036854775807
  p2 : -9223372036854775808 ≤ x.p2 ∧ x.p2 ≤ 9223372036854775807
  p3 : -9223372036854775808 ≤ x.p3 ∧ x.p3 ≤ 9223372036854775807
  border : -128 ≤ x.border ∧ x.border ≤ 127
  align : -128 ≤ x.align ∧ x.align ≤ 127
  cross : -128 ≤ x.cross ∧ x.cross ≤ 127
  wrap : -128 ≤ x.wrap ∧ x.wrap ≤ 127
  fg : -2147483648 ≤ x.fg ∧ x.fg ≤ 2147483647
  bg : -2147483648 ≤ x.bg ∧ x.bg ≤ 2147483647
  add : 0 ≤ x.add ∧ x.add ≤ 255
  drop : 0 ≤ x.drop ∧ x.drop ≤ 255
  cols : ∀ k ∈ x.cols, ItOk k
  x0 : -9223372036854775808 ≤ x.x0 ∧ x.x0 ≤ 9223372036854775807
  x1 : -9223372036854775808 ≤ x.x1 ∧ x.x1 ≤ 9223372036854775807
  x2 : -9223372036854775808 ≤ x.x2 ∧ x.x2 ≤ 9223372036854775807
  x3 : -9223372036854775808 ≤ x.x3 ∧ x.x3 ≤ 9223372036854775807
  flags : 0 ≤ x.flags ∧ x.flags ≤ 255
/-- the nodes lie in memory -/
def NdsAt (w : World) (p : Option Addr) (T : List Nd) : Prop := 0 < T.length → ∃ b off, p = some ⟨b, off, none⟩ ∧ b < w.heap.size ∧ ∀ i, i < T.length → NdAt w b (off + i * 34) (T.getD i zNd)
/-- a tree lies in memory: v is the value of its list of nodes -/
structure TreeAt (w : World) (v : Value) (T : List Nd) : Prop where
  ok : ∀ x ∈ T, NdOk x
  len : T.length ≤ 9223372036854775807
  at_ : ∃ p c, v = .slice p T.length c ∧ T.length ≤ c ∧ c ≤ 9223372036854775807 ∧ NdsAt w p T
theorem IntsAt.later {w wr : World} {v : Value} {L : List Int} {B : Nat} (h : IntsAt w v L) (hb : Below B w wr) (hB : w.heap.size ≤ B) : IntsAt wr v L := by
  obtain ⟨p, c, h1, h2, h3, h5, h4⟩ := h
  refine ⟨p, c, h1, h2, h3, h5, fun h0 => ?_⟩
  obtain ⟨b, off, e, hz, hc⟩ := h4 h0
  exact ⟨b, off, e, Nat.lt_of_lt_of_le hz hb.size, fun i hi => by rw [(bcell hb).1 _ _ (Nat.lt_of_lt_of_le hz hB)]; exact hc i hi⟩
theorem ItsAt.later {w wr : World} {v : Value} {L : List It} {B : Nat} (h : ItsAt w v L) (hb : Below B w wr) (hB : w.heap.size ≤ B) : ItsAt wr v L := by
  obtain ⟨p, c, h1, h2, h3, h5, h4⟩ := h
  refine ⟨p, c, h1, h2, h3, h5, fun h0 => ?_⟩
  obtain ⟨b, off, e, hz, hc⟩ := h4 h0
  exact ⟨b, off, e, Nat.lt_of_lt_of_le hz hb.size, fun i hi j hj => by rw [(bcell hb).1 _ _ (Nat.lt_of_lt_of_le hz hB)]; exact hc i hi j hj⟩
theorem NdAt.later {w wr : World} {b o : Nat} {x : Nd} {B : Nat} (h : NdAt w b o x) (hb : Below B w wr) (hB : w.heap.size ≤ B) (hz : b < w.heap.size) : NdAt wr b o x := by
  obtain ⟨kv, cv, h1, h2, h3⟩ := h
  exact ⟨kv, cv, h1.later hb hB, h2.later hb hB, fun j hj => by rw [(bcell hb).1 _ _ (Nat.lt_of_lt_of_le hz hB)]; exact h3 j hj⟩
theorem NdsAt.later {w wr : World} {p : Option Addr} {T : List Nd} {B : Nat} (h : NdsAt w p T) (hb : Below B w wr) (hB : w.heap.size ≤ B) : NdsAt wr p T := by
  intro h0
  obtain ⟨b, off, e, hz, hc⟩ := h h0
  exact ⟨b, off, e, Nat.lt_of_lt_of_le hz hb.size, fun i hi => (hc i hi).later hb hB hz⟩
theorem TreeAt.later {w wr : World} {v : Value} {T : List Nd} (h : TreeAt w v T) (hb : Below w.heap.size w wr) : TreeAt wr v T := by
  obtain ⟨h1, h2, p, c, h3, h4, h5, h6⟩ := h
  exact ⟨h1, h2, p, c, h3, h4, h5, h6.later hb (Nat.le_refl _)⟩
end Go.Proofs.Ytihjefncjkdnpaa
