/- EncZ: EncM EncL EncK in one text. -/
import Derived.Test.YtcihihncgpddfaaTreM
import Derived.Test.YtcihihncgpddfaaOdA
namespace Go.Proofs.Ytcihihncgpddfaa
open Go.RowKit
set_option linter.unusedVariables false
set_option linter.unusedSimpArgs false

/-- a number's bytes, the least seven bits first -/
def numF : Nat → Nat → List Int
  | 0, n => [((n % 256 : Nat) : Int)]
  | f + 1, n => if n < 128 then [(n : Int)] else ((n % 128 + 128 : Nat) : Int) :: numF f (n / 128)
def numB (n : Int) : List Int := numF 10 n.toNat
def sgnN (n : Int) : Int := if n < 0 then -2 * n - 1 else 2 * n
def sgnB (n : Int) : List Int := numB (sgnN n)
def strB (s : ByteArray) : List Int := s.data.toList.map fun c => (c.toNat : Int)
def txtB (s : ByteArray) : List Int := numB s.size ++ strB s
def itB (x : It) : List Int := [x.k] ++ (numB x.n ++ (numB x.d ++ (numB x.lo ++ numB x.hi)))
def kidsB (l : List Int) : List Int := l.flatMap numB
def itsB (l : List It) : List Int := l.flatMap itB
/-- the thirteen pieces of a node's bytes -/
def partB (x : Nd) : Nat → List Int
  | 0 => [x.kind]
  | 1 => txtB x.id
  | 2 => txtB x.cls
  | 3 => txtB x.text
  | 4 => numB x.kids.length ++ kidsB x.kids
  | 5 => itB x.iw
  | 6 => itB x.ih
  | 7 => numB x.gap
  | 8 => numB x.p0 ++ (numB x.p1 ++ (numB x.p2 ++ numB x.p3))
  | 9 => [x.border, x.align, x.cross, x.wrap, x.flags]
  | 10 => numB x.fg ++ (numB x.bg ++ [x.add, x.drop])
  | 11 => numB x.cols.length ++ itsB x.cols
  | _ => sgnB x.x0 ++ (sgnB x.x1 ++ (sgnB x.x2 ++ sgnB x.x3))
def partsTo (x : Nd) : Nat → List Int
  | 0 => []
  | k + 1 => partsTo x k ++ partB x k
def ndB (x : Nd) : List Int := partsTo x 13
def headB (n : Nat) : List Int := [70, 84, 1] ++ numB n
/-- the first nodes' bytes, till they are too many -/
def encGo : List Nd → List Int → Option (List Int)
  | [], b => some b
  | x :: l, b => if 1048576 < (b ++ ndB x).length then none else encGo l (b ++ ndB x)
def encT (T : List Nd) : List Int × Int :=
  if (checkT T).1 ≠ 0 then ([], (checkT T).1)
  else match encGo T (headB T.length) with
    | some b => (b, 0)
    | none => ([], 3)

/-- a reader's state: where it is, what was wrong first, and where -/
structure Rs where
  at_ : Nat
  code : Int
  bad : Int
def failS (c : Int) (a : Int) (s : Rs) : Rs := if s.code = 0 then ⟨s.at_, c, a⟩ else s
abbrev Rdr (α : Type) := List Int → Rs → α × Rs
def rP {α : Type} (a : α) : Rdr α := fun _ s => (a, s)
def rB {α β : Type} (f : Rdr α) (g : α → Rdr β) : Rdr β := fun B s => g (f B s).1 B (f B s).2
def octR (most : Int) : Rdr Int := fun B s =>
  if s.code ≠ 0 then (0, s)
  else if B.length ≤ s.at_ then (0, ⟨s.at_, 6, s.at_⟩)
  else if most < B.getD s.at_ 0 then (0, ⟨s.at_, 100, s.at_⟩)
  else (B.getD s.at_ 0, ⟨s.at_ + 1, 0, s.bad⟩)
def numGo (start : Nat) : Nat → Nat → Int → Rdr Int
  | 0, _, _ => fun _ s => (0, failS 100 start s)
  | f + 1, i, n => fun B s =>
    if (octR 255 B s).2.code ≠ 0 then (0, (octR 255 B s).2)
    else if (octR 255 B s).1 < 128 then
      (if (0 < i ∧ (octR 255 B s).1 = 0) ∨ 2147483648 ≤ n + (octR 255 B s).1 % 128 * 128 ^ i then (0, failS 100 start (octR 255 B s).2) else (n + (octR 255 B s).1 % 128 * 128 ^ i, (octR 255 B s).2))
    else numGo start f (i + 1) (n + (octR 255 B s).1 % 128 * 128 ^ i) B (octR 255 B s).2
def numR : Rdr Int := fun B s => numGo s.at_ 5 0 0 B s
def unS (n : Int) : Int := if n % 2 = 1 then -(n / 2) - 1 else n / 2
def sgnR : Rdr Int := rB numR fun n => rP (unS n)
def strOf (l : List Int) : ByteArray := ⟨(l.map fun c => UInt8.ofNat c.toNat).toArray⟩
def txtR : Rdr ByteArray := fun B s =>
  if (numR B s).2.code ≠ 0 then (ByteArray.empty, (numR B s).2)
  else if (B.length : Int) - (numR B s).2.at_ < (numR B s).1 then (ByteArray.empty, ⟨(numR B s).2.at_, 6, B.length⟩)
  else (strOf ((B.drop (numR B s).2.at_).take (numR B s).1.toNat), ⟨(numR B s).2.at_ + (numR B s).1.toNat, 0, (numR B s).2.bad⟩)
def itR : Rdr It := rB (octR 127) fun k => rB numR fun n => rB numR fun d => rB numR fun lo => rB numR fun hi => rP ⟨k, n, d, lo, hi⟩
/-- as many as are said, till something is wrong -/
def manyR {α : Type} (f : Rdr α) : Nat → Rdr (List α)
  | 0 => rP []
  | n + 1 => fun B s => if s.code ≠ 0 then ([], s) else ((f B s).1 :: (manyR f n B (f B s).2).1, (manyR f n B (f B s).2).2)
def partR (x : Nd) : Nat → Rdr Nd
  | 0 => rB (octR 127) fun k => rP { x with kind := k }
  | 1 => rB txtR fun k => rP { x with id := k }
  | 2 => rB txtR fun k => rP { x with cls := k }
  | 3 => rB txtR fun k => rP { x with text := k }
  | 4 => rB numR fun n => rB (manyR numR n.toNat) fun l => rP { x with kids := l }
  | 5 => rB itR fun k => rP { x with iw := k }
  | 6 => rB itR fun k => rP { x with ih := k }
  | 7 => rB numR fun k => rP { x with gap := k }
  | 8 => rB numR fun a => rB numR fun b => rB numR fun c => rB numR fun d => rP { x with p0 := a, p1 := b, p2 := c, p3 := d }
  | 9 => rB (octR 127) fun a => rB (octR 127) fun b => rB (octR 127) fun c => rB (octR 127) fun d => rB (octR 255) fun e => rP { x with border := a, align := b, cross := c, wrap := d, flags := e }
  | 10 => rB numR fun a => rB numR fun b => rB (octR 255) fun c => rB (octR 255) fun d => rP { x with fg := a, bg := b, add := c, drop := d }
  | 11 => rB numR fun n => rB (manyR itR n.toNat) fun l => rP { x with cols := l }
  | _ => rB sgnR fun a => rB sgnR fun b => rB sgnR fun c => rB sgnR fun d => rP { x with x0 := a, x1 := b, x2 := c, x3 := d }
def partsR : Nat → Rdr Nd
  | 0 => rP zNd
  | k + 1 => rB (partsR k) fun x => partR x k
def ndR : Rdr Nd := partsR 13
def wantR (i : Nat) (c : Int) : Rdr Unit := fun B s => ((), if (octR 255 B s).1 = c then (octR 255 B s).2 else failS 100 i (octR 255 B s).2)
def headR : Rdr Int := rB (wantR 0 70) fun _ => rB (wantR 1 84) fun _ => rB (wantR 2 1) fun _ => fun B s =>
  ((numR B s).1, if (numR B s).1 = 0 ∨ 4096 < (numR B s).1 then failS 100 s.at_ (numR B s).2 else (numR B s).2)
def bodyR : Rdr (List Nd) := rB headR fun n => manyR ndR n.toNat
def endS (B : List Int) (s : Rs) : Rs := if s.at_ < B.length then failS 100 s.at_ s else s
/-- what is read: the nodes, the error, its place -/
def decT (B : List Int) : List Nd × Int × Int :=
  if 1048576 < B.length then ([], 3, 0)
  else if (endS B (bodyR B ⟨0, 0, 0⟩).2).code ≠ 0 then ([], (endS B (bodyR B ⟨0, 0, 0⟩).2).code, (endS B (bodyR B ⟨0, 0, 0⟩).2).bad)
  else if (checkT (bodyR B ⟨0, 0, 0⟩).1).1 ≠ 0 then ([], checkT (bodyR B ⟨0, 0, 0⟩).1)
  else ((bodyR B ⟨0, 0, 0⟩).1, 0, 0)
end Go.Proofs.Ytcihihncgpddfaa
namespace Go.Proofs.Ytcihihncgpddfaa
open Go.RowKit
set_option linter.unusedVariables false
set_option linter.unusedSimpArgs false

def Idle {α : Type} (f : Rdr α) : Prop := ∀ B s, s.code ≠ 0 → (f B s).2 = s
structure Codec {α : Type} (f : Rdr α) (l : List Int) (v : α) : Prop where
  idle : Idle f
  good : ∀ B s rest, s.code = 0 → s.at_ ≤ B.length → B.drop s.at_ = l ++ rest → f B s = (v, ⟨s.at_ + l.length, 0, s.bad⟩)
  short : ∀ B s p q, s.code = 0 → s.at_ ≤ B.length → l = p ++ q → q ≠ [] → B.drop s.at_ = p → (f B s).2.code = 6 ∧ (f B s).2.bad = B.length
theorem drop_more {B : List Int} {a : Nat} {l r : List Int} (h : B.drop a = l ++ r) (ha : a ≤ B.length) : B.drop (a + l.length) = r ∧ a + l.length ≤ B.length := by
  constructor
  · rw [← List.drop_drop, h, List.drop_left]
  · have := congrArg List.length h
    simp at this
    omega
theorem idle_pure {α : Type} (a : α) : Idle (rP a) := fun B s h => rfl
theorem idle_bind {α β : Type} {f : Rdr α} {g : α → Rdr β} (hf : Idle f) (hg : ∀ a, Idle (g a)) : Idle (rB f g) := fun B s h => by
  show (g (f B s).1 B (f B s).2).2 = s
  rw [hf B s h]
  exact hg _ B s h
theorem codec_pure {α : Type} (a : α) : Codec (rP a) [] a := ⟨idle_pure a, fun B s rest h0 ha h => by
  show (a, s) = _
  obtain ⟨x, c, b⟩ := s
  simp only at h0
  subst h0
  rfl, fun B s p q h0 ha h hq hd => by
  rcases List.append_eq_nil_iff.1 h.symm with ⟨_, e⟩
  exact absurd e hq⟩
theorem codec_bind {α β : Type} {f : Rdr α} {g : α → Rdr β} {l m : List Int} {v : α} {u : β} (hf : Codec f l v) (hg : Codec (g v) m u) (hi : ∀ a, Idle (g a)) : Codec (rB f g) (l ++ m) u := by
  refine ⟨idle_bind hf.idle hi, fun B s rest h0 ha h => ?_, fun B s p q h0 ha h hq hd => ?_⟩
  · rw [List.append_assoc] at h
    show g (f B s).1 B (f B s).2 = _
    rw [hf.good B s _ h0 ha h]
    obtain ⟨h1, h2⟩ := drop_more h ha
    rw [hg.good B _ rest rfl h2 h1]
    simp only [List.length_append]
    rw [Nat.add_assoc]
  · show (g (f B s).1 B (f B s).2).2.code = 6 ∧ (g (f B s).1 B (f B s).2).2.bad = _
    have key : ∀ p', p = l ++ p' → m = p' ++ q → (g (f B s).1 B (f B s).2).2.code = 6 ∧ (g (f B s).1 B (f B s).2).2.bad = B.length := fun p' e1 e2 => by
      rw [e1] at hd
      rw [hf.good B s _ h0 ha hd]
      obtain ⟨h1, h2⟩ := drop_more hd ha
      exact hg.short B _ p' q rfl h2 e2 hq h1
    rcases List.append_eq_append_iff.1 h with ⟨a', e1, e2⟩ | ⟨c', e1, e2⟩
    · exact key a' e1 e2
    · by_cases hc : c' = []
      · subst hc
        exact key [] (by simpa using e1.symm) (by simpa using e2.symm)
      · obtain ⟨k1, k2⟩ := hf.short B s p c' h0 ha e1 hc hd
        rw [hi _ B _ (by rw [k1]; decide)]
        exact ⟨k1, k2⟩
theorem codec_map {α β : Type} {f : Rdr α} {l : List Int} {v : α} (hf : Codec f l v) (k : α → β) : Codec (rB f fun a => rP (k a)) l (k v) := by
  have := codec_bind hf (codec_pure (k v)) (g := fun a => rP (k a)) (fun a => idle_pure _)
  rwa [List.append_nil] at this
theorem codec_congr {α : Type} {f f' : Rdr α} {l : List Int} {v : α} (hf : Codec f' l v) (hi : Idle f) (h : ∀ B s, s.code = 0 → (f B s).2 = (f' B s).2 ∧ ((f' B s).2.code = 0 → f B s = f' B s)) : Codec f l v :=
  ⟨hi, fun B s rest h0 ha hd => by
    have := hf.good B s rest h0 ha hd
    rw [(h B s h0).2 (by rw [this]), this], fun B s p q h0 ha e hq hd => by
    rw [(h B s h0).1]
    exact hf.short B s p q h0 ha e hq hd⟩
theorem octR_idle (m : Int) : Idle (octR m) := fun B s h => by
  unfold octR
  rw [if_pos h]
theorem drop_head {B : List Int} {a : Nat} {c : Int} {r : List Int} (h : B.drop a = c :: r) : a < B.length ∧ B.getD a 0 = c := by
  have h1 : a < B.length := by
    have := congrArg List.length h
    simp at this
    omega
  refine ⟨h1, ?_⟩
  rw [List.drop_eq_getElem_cons h1] at h
  injection h with h _
  rw [List.getD_eq_getElem?_getD, List.getElem?_eq_getElem h1]
  exact h
theorem octR_end {m : Int} {B : List Int} {s : Rs} (h0 : s.code = 0) (h : B.length ≤ s.at_) : octR m B s = (0, ⟨s.at_, 6, s.at_⟩) := by
  unfold octR
  rw [if_neg (by rw [h0]; simp), if_pos h]
theorem octR_yes {m : Int} {B : List Int} {s : Rs} {c : Int} {r : List Int} (h0 : s.code = 0) (h : B.drop s.at_ = c :: r) (hc : c ≤ m) : octR m B s = (c, ⟨s.at_ + 1, 0, s.bad⟩) := by
  obtain ⟨h1, h2⟩ := drop_head h
  unfold octR
  rw [if_neg (by rw [h0]; simp), if_neg (by omega), h2, if_neg (by omega)]
theorem drop_nil_end {B : List Int} {a : Nat} (h : B.drop a = []) (ha : a ≤ B.length) : a = B.length := by
  have := congrArg List.length h
  simp at this
  omega
theorem octR_codec {m c : Int} (hc : c ≤ m) : Codec (octR m) [c] c := by
  refine ⟨octR_idle m, fun B s rest h0 ha h => octR_yes h0 h hc, fun B s p q h0 ha h hq hd => ?_⟩
  have hp : p = [] := by
    rcases p with _ | ⟨x, p⟩
    · rfl
    · have := congrArg List.length h
      rw [List.length_append, List.length_cons, List.length_cons, List.length_nil] at this
      exact absurd (List.eq_nil_of_length_eq_zero (by omega)) hq
  subst hp
  have := drop_nil_end hd ha
  rw [octR_end h0 (by omega)]
  exact ⟨rfl, by rw [this]⟩
theorem numGo_succ (start f i : Nat) (n : Int) (B : List Int) (s : Rs) : numGo start (f + 1) i n B s = if (octR 255 B s).2.code ≠ 0 then (0, (octR 255 B s).2)
    else if (octR 255 B s).1 < 128 then
      (if (0 < i ∧ (octR 255 B s).1 = 0) ∨ 2147483648 ≤ n + (octR 255 B s).1 % 128 * 128 ^ i then (0, failS 100 start (octR 255 B s).2) else (n + (octR 255 B s).1 % 128 * 128 ^ i, (octR 255 B s).2))
    else numGo start f (i + 1) (n + (octR 255 B s).1 % 128 * 128 ^ i) B (octR 255 B s).2 := rfl
theorem numR_idle : Idle numR := fun B s h => by
  unfold numR
  rw [numGo_succ, if_pos (by rw [octR_idle _ B s h]; exact h)]
  exact octR_idle _ B s h
theorem pow_step (n i : Nat) (acc : Int) : acc + ((n % 128 : Nat) : Int) * 128 ^ i + ((n / 128 : Nat) : Int) * 128 ^ (i + 1) = acc + (n : Int) * 128 ^ i := by
  have h : (n : Int) = ((n % 128 : Nat) : Int) + ((n / 128 : Nat) : Int) * 128 := by omega
  rw [Int.pow_succ, show ((n / 128 : Nat) : Int) * (128 ^ i * 128) = ((n / 128 : Nat) : Int) * 128 * 128 ^ i by rw [Int.mul_comm (128 ^ i) 128, ← Int.mul_assoc], Int.add_assoc, ← Int.add_mul, ← h]
theorem numGo_good (start : Nat) (B : List Int) : ∀ (f g i n : Nat) (acc : Int) (s : Rs) (rest : List Int), n < 128 ^ f → f ≤ g → (0 < n ∨ (i = 0 ∧ 0 < f)) → acc + (n : Int) * 128 ^ i < 2147483648 → s.code = 0 → s.at_ ≤ B.length → B.drop s.at_ = numF g n ++ rest →
    numGo start f i acc B s = (acc + (n : Int) * 128 ^ i, ⟨s.at_ + (numF g n).length, 0, s.bad⟩)
  | 0, g, i, n, acc, s, rest, hn, hg, hz, hb, h0, ha, hd => by
    simp at hn
    omega
  | f + 1, 0, i, n, acc, s, rest, hn, hg, hz, hb, h0, ha, hd => by omega
  | f + 1, g + 1, i, n, acc, s, rest, hn, hg, hz, hb, h0, ha, hd => by
    rw [numF] at hd ⊢
    by_cases h : n < 128
    · rw [if_pos h] at hd ⊢
      have ho := octR_yes (m := 255) h0 hd (by omega)
      rw [numGo_succ]
      simp only [ho]
      have e : (n : Int) % 128 = (n : Int) := by omega
      rw [if_neg (by simp), if_pos (by omega), e, if_neg (by omega)]
      rfl
    · rw [if_neg h] at hd ⊢
      rw [List.cons_append] at hd
      have ho := octR_yes (m := 255) h0 hd (by omega)
      rw [numGo_succ]
      simp only [ho]
      have e : ((n % 128 + 128 : Nat) : Int) % 128 = ((n % 128 : Nat) : Int) := by omega
      rw [if_neg (by simp), if_neg (by omega), e]
      obtain ⟨h1, h2⟩ := drop_more (l := [((n % 128 + 128 : Nat) : Int)]) (by rw [hd]; rfl) ha
      have hs := pow_step n i acc
      rw [numGo_good start B f g (i + 1) (n / 128) _ ⟨s.at_ + 1, 0, s.bad⟩ rest (by rw [Nat.pow_succ] at hn; omega) (by omega) (.inl (by omega)) (by rw [hs]; exact hb) rfl h2 h1, hs]
      simp only [List.length_cons]
      rw [Nat.add_assoc, Nat.add_comm 1]
theorem numGo_short (start : Nat) (B : List Int) : ∀ (f g i n : Nat) (acc : Int) (s : Rs) (p q : List Int), n < 128 ^ f → f ≤ g → (0 < n ∨ (i = 0 ∧ 0 < f)) → s.code = 0 → s.at_ ≤ B.length → numF g n = p ++ q → q ≠ [] → B.drop s.at_ = p →
    (numGo start f i acc B s).2.code = 6 ∧ (numGo start f i acc B s).2.bad = B.length
  | 0, g, i, n, acc, s, p, q, hn, hg, hz, h0, ha, he, hq, hd => by
    simp at hn
    omega
  | f + 1, 0, i, n, acc, s, p, q, hn, hg, hz, h0, ha, he, hq, hd => by omega
  | f + 1, g + 1, i, n, acc, s, p, q, hn, hg, hz, h0, ha, he, hq, hd => by
    rcases p with _ | ⟨x, p⟩
    · have := drop_nil_end hd ha
      have ho := octR_end (m := 255) h0 (by omega : B.length ≤ s.at_)
      rw [numGo_succ]
      simp only [ho]
      rw [if_pos (by simp)]
      exact ⟨rfl, by rw [this]⟩
    · rw [numF] at he
      by_cases h : n < 128
      · rw [if_pos h] at he
        have := congrArg List.length he
        rw [List.length_append, List.length_cons, List.length_cons, List.length_nil] at this
        exact absurd (List.eq_nil_of_length_eq_zero (by omega)) hq
      · rw [if_neg h, List.cons_append] at he
        injection he with hx he
        subst hx
        have ho := octR_yes (m := 255) h0 hd (by omega)
        rw [numGo_succ]
        simp only [ho]
        rw [if_neg (by simp), if_neg (by omega)]
        obtain ⟨h1, h2⟩ := drop_more (l := [((n % 128 + 128 : Nat) : Int)]) (r := p) (by rw [hd]; rfl) ha
        exact numGo_short start B f g (i + 1) (n / 128) _ ⟨s.at_ + 1, 0, s.bad⟩ p q (by rw [Nat.pow_succ] at hn; omega) (by omega) (.inl (by omega)) rfl h2 he hq h1
theorem numR_codec {n : Int} (h0 : 0 ≤ n) (h1 : n < 2147483648) : Codec numR (numB n) n := by
  obtain ⟨k, rfl⟩ := Int.eq_ofNat_of_zero_le h0
  refine ⟨numR_idle, fun B s rest hc ha hd => ?_, fun B s p q hc ha he hq hd => ?_⟩
  · have := numGo_good s.at_ B 5 10 0 k 0 s rest (by omega) (by omega) (.inr ⟨rfl, by omega⟩) (by omega) hc ha (by unfold numB at hd; simpa using hd)
    unfold numR numB
    rw [this]
    simp
  · exact numGo_short s.at_ B 5 10 0 k 0 s p q (by omega) (by omega) (.inr ⟨rfl, by omega⟩) hc ha (by unfold numB at he; simpa using he) hq hd
theorem unS_sgnN (n : Int) : unS (sgnN n) = n := by
  unfold unS sgnN
  split <;> split <;> omega
theorem sgnR_codec {n : Int} (h0 : -4096 ≤ n) (h1 : n ≤ 4096) : Codec sgnR (sgnB n) n := by
  have h : 0 ≤ sgnN n ∧ sgnN n < 2147483648 := by unfold sgnN; split <;> omega
  have := codec_map (numR_codec h.1 h.2) unS
  rw [unS_sgnN] at this
  exact this
theorem strB_len (s : ByteArray) : (strB s).length = s.size := by simp [strB]
theorem strOf_strB (s : ByteArray) : strOf (strB s) = s := by
  unfold strOf strB
  rw [List.map_map]
  have : ((fun c : Int => UInt8.ofNat c.toNat) ∘ fun c : UInt8 => (c.toNat : Int)) = id := by
    funext c
    simp
  rw [this, List.map_id]
theorem txtR_idle : Idle txtR := fun B s h => by
  unfold txtR
  rw [if_pos (by rw [numR_idle B s h]; exact h)]
  exact numR_idle B s h
theorem txtR_codec {s : ByteArray} (h : s.size < 2147483648) : Codec txtR (txtB s) s := by
  have hn := numR_codec (n := (s.size : Int)) (by omega) (by omega)
  have hl := strB_len s
  refine ⟨txtR_idle, fun B t rest hc ha hd => ?_, fun B t p q hc ha he hq hd => ?_⟩
  · unfold txtB at hd ⊢
    rw [List.append_assoc] at hd
    have hr := hn.good B t _ hc ha hd
    obtain ⟨h1, h2⟩ := drop_more hd ha
    have h3 := drop_more h1 h2
    unfold txtR
    simp only [hr]
    rw [if_neg (by simp), if_neg (by omega), h1]
    rw [Int.toNat_natCast, List.take_left' hl, strOf_strB, List.length_append, hl, Nat.add_assoc]
  · unfold txtB at he
    have key : ∀ p', p = numB s.size ++ p' → strB s = p' ++ q → (txtR B t).2.code = 6 ∧ (txtR B t).2.bad = B.length := fun p' e1 e2 => by
      rw [e1] at hd
      have hr := hn.good B t _ hc ha hd
      obtain ⟨h1, h2⟩ := drop_more hd ha
      unfold txtR
      simp only [hr]
      have e3 := congrArg List.length e2
      have e4 := congrArg List.length h1
      have e5 : q.length ≠ 0 := fun e => hq (List.eq_nil_of_length_eq_zero e)
      simp at e3 e4
      rw [if_neg (by simp), if_pos (by omega)]
      exact ⟨rfl, rfl⟩
    rcases List.append_eq_append_iff.1 he with ⟨a', e1, e2⟩ | ⟨c', e1, e2⟩
    · exact key a' e1 e2
    · by_cases hc' : c' = []
      · subst hc'
        exact key [] (by simpa using e1.symm) (by simpa using e2.symm)
      · obtain ⟨k1, k2⟩ := hn.short B t p c' hc ha e1 hc' hd
        unfold txtR
        rw [if_pos (by rw [k1]; decide)]
        exact ⟨k1, k2⟩
/-- numbers as they are written -/
def NumOk (n : Int) : Prop := 0 ≤ n ∧ n < 2147483648
structure ItFit (x : It) : Prop where
  k : x.k ≤ 127
  n : NumOk x.n
  d : NumOk x.d
  lo : NumOk x.lo
  hi : NumOk x.hi
theorem itR_idle : Idle itR := idle_bind (octR_idle _) fun _ => idle_bind numR_idle fun _ => idle_bind numR_idle fun _ => idle_bind numR_idle fun _ => idle_bind numR_idle fun _ => idle_pure _
theorem itR_codec {x : It} (h : ItFit x) : Codec itR (itB x) x := by
  unfold itR itB
  refine codec_bind (octR_codec h.k) ?_ (fun _ => idle_bind numR_idle fun _ => idle_bind numR_idle fun _ => idle_bind numR_idle fun _ => idle_bind numR_idle fun _ => idle_pure _)
  refine codec_bind (numR_codec h.n.1 h.n.2) ?_ (fun _ => idle_bind numR_idle fun _ => idle_bind numR_idle fun _ => idle_bind numR_idle fun _ => idle_pure _)
  refine codec_bind (numR_codec h.d.1 h.d.2) ?_ (fun _ => idle_bind numR_idle fun _ => idle_bind numR_idle fun _ => idle_pure _)
  refine codec_bind (numR_codec h.lo.1 h.lo.2) ?_ (fun _ => idle_bind numR_idle fun _ => idle_pure _)
  exact codec_map (numR_codec h.hi.1 h.hi.2) fun hi => (⟨x.k, x.n, x.d, x.lo, hi⟩ : It)
theorem manyR_succ {α : Type} (f : Rdr α) (n : Nat) (B : List Int) (s : Rs) : manyR f (n + 1) B s = if s.code ≠ 0 then ([], s) else ((f B s).1 :: (manyR f n B (f B s).2).1, (manyR f n B (f B s).2).2) := rfl
theorem manyR_idle {α : Type} (f : Rdr α) : ∀ n, Idle (manyR f n)
  | 0 => idle_pure _
  | n + 1 => fun B s h => by rw [manyR_succ, if_pos h]
theorem manyR_codec {α : Type} {f : Rdr α} (enc : α → List Int) : ∀ (l : List α), (∀ x ∈ l, Codec f (enc x) x) → Codec (manyR f l.length) (l.flatMap enc) l
  | [], _ => codec_pure []
  | x :: l, h => by
    have hx := h x (List.mem_cons_self ..)
    have ih := manyR_codec enc l fun y hy => h y (List.mem_cons_of_mem _ hy)
    have hb := codec_bind hx (codec_map ih fun l => x :: l) (g := fun a => rB (manyR f l.length) fun l => rP (a :: l)) (fun a => idle_bind (manyR_idle f _) fun _ => idle_pure _)
    refine codec_congr hb (manyR_idle f _) fun B s h0 => ?_
    rw [List.length_cons, manyR_succ, if_neg (by rw [h0]; simp)]
    exact ⟨rfl, fun _ => rfl⟩
/-- a node as it is written -/
structure NdFit (x : Nd) : Prop where
  kind : x.kind ≤ 127
  id : x.id.size < 2147483648
  cls : x.cls.size < 2147483648
  text : x.text.size < 2147483648
  kidl : x.kids.length < 2147483648
  kids : ∀ k ∈ x.kids, NumOk k
  iw : ItFit x.iw
  ih : ItFit x.ih
  gap : NumOk x.gap
  p0 : NumOk x.p0
  p1 : NumOk x.p1
  p2 : NumOk x.p2
  p3 : NumOk x.p3
  b : x.border ≤ 127 ∧ x.align ≤ 127 ∧ x.cross ≤ 127 ∧ x.wrap ≤ 127 ∧ x.flags ≤ 255
  fg : NumOk x.fg
  bg : NumOk x.bg
  ad : x.add ≤ 255 ∧ x.drop ≤ 255
  coll : x.cols.length < 2147483648
  cols : ∀ k ∈ x.cols, ItFit k
  pl : (-4096 ≤ x.x0 ∧ x.x0 ≤ 4096) ∧ (-4096 ≤ x.x1 ∧ x.x1 ≤ 4096) ∧ (-4096 ≤ x.x2 ∧ x.x2 ≤ 4096) ∧ (-4096 ≤ x.x3 ∧ x.x3 ≤ 4096)
/-- x with y's piece k -/
def mixP (x y : Nd) : Nat → Nd
  | 0 => { x with kind := y.kind }
  | 1 => { x with id := y.id }
  | 2 => { x with cls := y.cls }
  | 3 => { x with text := y.text }
  | 4 => { x with kids := y.kids }
  | 5 => { x with iw := y.iw }
  | 6 => { x with ih := y.ih }
  | 7 => { x with gap := y.gap }
  | 8 => { x with p0 := y.p0, p1 := y.p1, p2 := y.p2, p3 := y.p3 }
  | 9 => { x with border := y.border, align := y.align, cross := y.cross, wrap := y.wrap, flags := y.flags }
  | 10 => { x with fg := y.fg, bg := y.bg, add := y.add, drop := y.drop }
  | 11 => { x with cols := y.cols }
  | _ => { x with x0 := y.x0, x1 := y.x1, x2 := y.x2, x3 := y.x3 }
def mixTo (y : Nd) : Nat → Nd
  | 0 => zNd
  | k + 1 => mixP (mixTo y k) y k
theorem mix_all (y : Nd) : mixTo y 13 = y := by cases y; kernel_rfl
theorem sgnR_idle : Idle sgnR := idle_bind numR_idle fun _ => idle_pure _
theorem partR_idle (x : Nd) : ∀ k, Idle (partR x k)
  | 0 => by
    exact idle_bind (octR_idle _) fun _ => idle_pure _
  | 1 => by
    exact idle_bind txtR_idle fun _ => idle_pure _
  | 2 => by
    exact idle_bind txtR_idle fun _ => idle_pure _
  | 3 => by
    exact idle_bind txtR_idle fun _ => idle_pure _
  | 4 => by
    exact idle_bind numR_idle fun _ => idle_bind (manyR_idle _ _) fun _ => idle_pure _
  | 5 => by
    exact idle_bind itR_idle fun _ => idle_pure _
  | 6 => by
    exact idle_bind itR_idle fun _ => idle_pure _
  | 7 => by
    exact idle_bind numR_idle fun _ => idle_pure _
  | 8 => by
    exact idle_bind numR_idle fun _ => idle_bind numR_idle fun _ => idle_bind numR_idle fun _ => idle_bind numR_idle fun _ => idle_pure _
  | 9 => by
    exact idle_bind (octR_idle _) fun _ => idle_bind (octR_idle _) fun _ => idle_bind (octR_idle _) fun _ => idle_bind (octR_idle _) fun _ => idle_bind (octR_idle _) fun _ => idle_pure _
  | 10 => by
    exact idle_bind numR_idle fun _ => idle_bind numR_idle fun _ => idle_bind (octR_idle _) fun _ => idle_bind (octR_idle _) fun _ => idle_pure _
  | 11 => by
    exact idle_bind numR_idle fun _ => idle_bind (manyR_idle _ _) fun _ => idle_pure _
  | k + 12 => by
    exact idle_bind sgnR_idle fun _ => idle_bind sgnR_idle fun _ => idle_bind sgnR_idle fun _ => idle_bind sgnR_idle fun _ => idle_pure _
theorem partR_codec {x y : Nd} (h : NdFit y) : ∀ k, Codec (partR x k) (partB y k) (mixP x y k)
  | 0 => by
    exact codec_map (octR_codec h.kind) fun k => { x with kind := k }
  | 1 => by
    exact codec_map (txtR_codec h.id) fun k => { x with id := k }
  | 2 => by
    exact codec_map (txtR_codec h.cls) fun k => { x with cls := k }
  | 3 => by
    exact codec_map (txtR_codec h.text) fun k => { x with text := k }
  | 4 => by
    show Codec (rB numR fun n => rB (manyR numR n.toNat) fun l => rP { x with kids := l }) (numB y.kids.length ++ kidsB y.kids) ({ x with kids := y.kids })
    refine codec_bind (numR_codec (by omega) (by have := h.kidl; omega)) ?_ (fun _ => idle_bind (manyR_idle _ _) fun _ => idle_pure _)
    rw [Int.toNat_natCast]
    exact codec_map (manyR_codec numB y.kids fun k hk => numR_codec (h.kids k hk).1 (h.kids k hk).2) fun l => { x with kids := l }
  | 5 => by
    exact codec_map (itR_codec h.iw) fun k => { x with iw := k }
  | 6 => by
    exact codec_map (itR_codec h.ih) fun k => { x with ih := k }
  | 7 => by
    exact codec_map (numR_codec h.gap.1 h.gap.2) fun k => { x with gap := k }
  | 8 => by
    show Codec (rB numR fun a => rB numR fun b => rB numR fun c => rB numR fun d => rP { x with p0 := a, p1 := b, p2 := c, p3 := d }) (numB y.p0 ++ (numB y.p1 ++ (numB y.p2 ++ numB y.p3))) ({ x with p0 := y.p0, p1 := y.p1, p2 := y.p2, p3 := y.p3 })
    refine codec_bind (numR_codec h.p0.1 h.p0.2) ?_ (fun _ => idle_bind numR_idle fun _ => idle_bind numR_idle fun _ => idle_bind numR_idle fun _ => idle_pure _)
    refine codec_bind (numR_codec h.p1.1 h.p1.2) ?_ (fun _ => idle_bind numR_idle fun _ => idle_bind numR_idle fun _ => idle_pure _)
    refine codec_bind (numR_codec h.p2.1 h.p2.2) ?_ (fun _ => idle_bind numR_idle fun _ => idle_pure _)
    exact codec_map (numR_codec h.p3.1 h.p3.2) fun d => { x with p0 := y.p0, p1 := y.p1, p2 := y.p2, p3 := d }
  | 9 => by
    show Codec (rB (octR 127) fun a => rB (octR 127) fun b => rB (octR 127) fun c => rB (octR 127) fun d => rB (octR 255) fun e => rP { x with border := a, align := b, cross := c, wrap := d, flags := e }) ([y.border] ++ ([y.align] ++ ([y.cross] ++ ([y.wrap] ++ [y.flags])))) ({ x with border := y.border, align := y.align, cross := y.cross, wrap := y.wrap, flags := y.flags })
    obtain ⟨h1, h2, h3, h4, h5⟩ := h.b
    refine codec_bind (octR_codec h1) ?_ (fun _ => idle_bind (octR_idle _) fun _ => idle_bind (octR_idle _) fun _ => idle_bind (octR_idle _) fun _ => idle_bind (octR_idle _) fun _ => idle_pure _)
    refine codec_bind (octR_codec h2) ?_ (fun _ => idle_bind (octR_idle _) fun _ => idle_bind (octR_idle _) fun _ => idle_bind (octR_idle _) fun _ => idle_pure _)
    refine codec_bind (octR_codec h3) ?_ (fun _ => idle_bind (octR_idle _) fun _ => idle_bind (octR_idle _) fun _ => idle_pure _)
    refine codec_bind (octR_codec h4) ?_ (fun _ => idle_bind (octR_idle _) fun _ => idle_pure _)
    exact codec_map (octR_codec h5) fun e => { x with border := y.border, align := y.align, cross := y.cross, wrap := y.wrap, flags := e }
  | 10 => by
    show Codec (rB numR fun a => rB numR fun b => rB (octR 255) fun c => rB (octR 255) fun d => rP { x with fg := a, bg := b, add := c, drop := d }) (numB y.fg ++ (numB y.bg ++ ([y.add] ++ [y.drop]))) ({ x with fg := y.fg, bg := y.bg, add := y.add, drop := y.drop })
    refine codec_bind (numR_codec h.fg.1 h.fg.2) ?_ (fun _ => idle_bind numR_idle fun _ => idle_bind (octR_idle _) fun _ => idle_bind (octR_idle _) fun _ => idle_pure _)
    refine codec_bind (numR_codec h.bg.1 h.bg.2) ?_ (fun _ => idle_bind (octR_idle _) fun _ => idle_bind (octR_idle _) fun _ => idle_pure _)
    refine codec_bind (octR_codec h.ad.1) ?_ (fun _ => idle_bind (octR_idle _) fun _ => idle_pure _)
    exact codec_map (octR_codec h.ad.2) fun d => { x with fg := y.fg, bg := y.bg, add := y.add, drop := d }
  | 11 => by
    show Codec (rB numR fun n => rB (manyR itR n.toNat) fun l => rP { x with cols := l }) (numB y.cols.length ++ itsB y.cols) ({ x with cols := y.cols })
    refine codec_bind (numR_codec (by omega) (by have := h.coll; omega)) ?_ (fun _ => idle_bind (manyR_idle _ _) fun _ => idle_pure _)
    rw [Int.toNat_natCast]
    exact codec_map (manyR_codec itB y.cols fun k hk => itR_codec (h.cols k hk)) fun l => { x with cols := l }
  | k + 12 => by
    show Codec (rB sgnR fun a => rB sgnR fun b => rB sgnR fun c => rB sgnR fun d => rP { x with x0 := a, x1 := b, x2 := c, x3 := d }) (sgnB y.x0 ++ (sgnB y.x1 ++ (sgnB y.x2 ++ sgnB y.x3))) ({ x with x0 := y.x0, x1 := y.x1, x2 := y.x2, x3 := y.x3 })
    obtain ⟨h1, h2, h3, h4⟩ := h.pl
    refine codec_bind (sgnR_codec h1.1 h1.2) ?_ (fun _ => idle_bind sgnR_idle fun _ => idle_bind sgnR_idle fun _ => idle_bind sgnR_idle fun _ => idle_pure _)
    refine codec_bind (sgnR_codec h2.1 h2.2) ?_ (fun _ => idle_bind sgnR_idle fun _ => idle_bind sgnR_idle fun _ => idle_pure _)
    refine codec_bind (sgnR_codec h3.1 h3.2) ?_ (fun _ => idle_bind sgnR_idle fun _ => idle_pure _)
    exact codec_map (sgnR_codec h4.1 h4.2) fun d => { x with x0 := y.x0, x1 := y.x1, x2 := y.x2, x3 := d }
theorem partsR_idle : ∀ k, Idle (partsR k)
  | 0 => idle_pure _
  | k + 1 => idle_bind (partsR_idle k) fun x => partR_idle x k
theorem partsR_codec {y : Nd} (h : NdFit y) : ∀ k, Codec (partsR k) (partsTo y k) (mixTo y k)
  | 0 => codec_pure _
  | k + 1 => codec_bind (partsR_codec h k) (partR_codec h k) fun x => partR_idle x k
theorem ndR_codec {y : Nd} (h : NdFit y) : Codec ndR (ndB y) y := by
  have := partsR_codec h 13
  rwa [mix_all] at this
theorem failS_idle (c a : Int) (s : Rs) (h : s.code ≠ 0) : failS c a s = s := by unfold failS; rw [if_neg h]
theorem wantR_codec (i : Nat) {c : Int} (h0 : c ≠ 0) (h1 : c ≤ 255) : Codec (wantR i c) [c] () := by
  have ho := octR_codec h1
  refine ⟨fun B s h => ?_, fun B s rest hc ha hd => ?_, fun B s p q hc ha he hq hd => ?_⟩
  · unfold wantR
    have := ho.idle B s h
    simp only [this]
    split
    · rfl
    · exact failS_idle _ _ _ h
  · unfold wantR
    rw [ho.good B s rest hc ha hd]
    simp
  · obtain ⟨h1, h2⟩ := ho.short B s p q hc ha he hq hd
    unfold wantR
    simp only
    split
    · exact ⟨h1, h2⟩
    · rw [failS_idle _ _ _ (by rw [h1]; decide)]; exact ⟨h1, h2⟩
theorem wantR_idle (i : Nat) (c : Int) : Idle (wantR i c) := fun B s h => by
  unfold wantR
  have := octR_idle 255 B s h
  simp only [this]
  split
  · rfl
  · exact failS_idle _ _ _ h
def countR : Rdr Int := fun B s => ((numR B s).1, if (numR B s).1 = 0 ∨ 4096 < (numR B s).1 then failS 100 s.at_ (numR B s).2 else (numR B s).2)
theorem countR_idle : Idle countR := fun B s h => by
  unfold countR
  have := numR_idle B s h
  simp only [this]
  split
  · exact failS_idle _ _ _ h
  · rfl
theorem countR_codec {n : Nat} (h0 : 0 < n) (h1 : n ≤ 4096) : Codec countR (numB n) (n : Int) := by
  have hn := numR_codec (n := (n : Int)) (by omega) (by omega)
  refine ⟨countR_idle, fun B s rest hc ha hd => ?_, fun B s p q hc ha he hq hd => ?_⟩
  · unfold countR
    rw [hn.good B s rest hc ha hd]
    simp only
    rw [if_neg (by omega)]
  · obtain ⟨h1, h2⟩ := hn.short B s p q hc ha he hq hd
    unfold countR
    simp only
    split
    · rw [failS_idle _ _ _ (by rw [h1]; decide)]; exact ⟨h1, h2⟩
    · exact ⟨h1, h2⟩
theorem headR_eq : headR = rB (wantR 0 70) fun _ => rB (wantR 1 84) fun _ => rB (wantR 2 1) fun _ => countR := rfl
theorem headR_codec {n : Nat} (h0 : 0 < n) (h1 : n ≤ 4096) : Codec headR (headB n) (n : Int) := by
  rw [headR_eq]
  show Codec _ ([70] ++ ([84] ++ ([1] ++ numB n))) _
  refine codec_bind (wantR_codec 0 (by decide) (by decide)) ?_ (fun _ => idle_bind (wantR_idle _ _) fun _ => idle_bind (wantR_idle _ _) fun _ => countR_idle)
  refine codec_bind (wantR_codec 1 (by decide) (by decide)) ?_ (fun _ => idle_bind (wantR_idle _ _) fun _ => countR_idle)
  exact codec_bind (wantR_codec 2 (by decide) (by decide)) (countR_codec h0 h1) (fun _ => countR_idle)
theorem bodyR_codec {T : List Nd} (h0 : 0 < T.length) (h1 : T.length ≤ 4096) (hT : ∀ x ∈ T, NdFit x) : Codec bodyR (headB T.length ++ T.flatMap ndB) T := by
  refine codec_bind (headR_codec h0 h1) ?_ (fun _ => manyR_idle _ _)
  rw [Int.toNat_natCast]
  exact manyR_codec ndB T fun x hx => ndR_codec (hT x hx)
theorem encGo_some : ∀ (T : List Nd) (b r : List Int), b.length ≤ 1048576 → encGo T b = some r → r = b ++ T.flatMap ndB ∧ r.length ≤ 1048576
  | [], b, r, hb, h => by
    rw [encGo] at h
    injection h with h
    subst h
    exact ⟨by simp, hb⟩
  | x :: T, b, r, hb, h => by
    rw [encGo] at h
    split at h
    · cases h
    · rename_i hx
      obtain ⟨h1, h2⟩ := encGo_some T _ r (by omega) h
      exact ⟨by rw [h1, List.append_assoc, List.flatMap_cons], h2⟩
end Go.Proofs.Ytcihihncgpddfaa
namespace Go.Proofs.Ytcihihncgpddfaa
open Go.RowKit Go.Deep
set_option linter.unusedVariables false
set_option linter.unusedSimpArgs false

theorem itemB_fit {x : It} (h : itemB x = true) : ItFit x := by
  unfold itemB at h
  rw [decide_eq_true_eq] at h
  obtain ⟨h1, h2, h3, h4⟩ := h
  exact ⟨by omega, by unfold NumOk; omega, by unfold NumOk; omega, by unfold NumOk; omega, by unfold NumOk; omega⟩
theorem colB_fit {c : Int} (h : colB c = true) : NumOk c := by
  unfold colB at h
  rw [decide_eq_true_eq] at h
  unfold NumOk
  omega
theorem nd_of_mem {T : List Nd} {x : Nd} (hx : x ∈ T) : ∃ i, i < T.length ∧ T.getD i zNd = x := by
  obtain ⟨i, hi, rfl⟩ := List.getElem_of_mem hx
  exact ⟨i, hi, by rw [List.getD_eq_getElem?_getD, List.getElem?_eq_getElem hi]; rfl⟩
theorem ints_nodup_len {l : List Int} (h : l.Nodup) {n : Nat} (hr : ∀ k ∈ l, 0 ≤ k ∧ k < (n : Int)) : l.length ≤ n := by
  have h1 : (l.map Int.toNat).Nodup := by
    rw [List.nodup_iff_pairwise_ne, List.pairwise_map]
    refine List.Pairwise.imp_of_mem ?_ (List.nodup_iff_pairwise_ne.1 h)
    intro a b ha hb hne e
    have := hr a ha
    have := hr b hb
    omega
  have := nodup_le n _ h1 (fun x hx => by
    obtain ⟨k, hk, rfl⟩ := List.mem_map.1 hx
    have := hr k hk
    omega)
  simpa using this
theorem check_fit {T : List Nd} (h : (checkT T).1 = 0) (hok : ∀ x ∈ T, NdOk x) : ∀ x ∈ T, NdFit x := fun x hx => by
  obtain ⟨i, hi, hxi⟩ := nd_of_mem hx
  have ho := hok x hx
  have hkr := check_kids h i hi
  have hkn := kids_nodup h hi
  have hlen := check_len h
  obtain ⟨t, d, hw⟩ := check_each h i hi
  unfold kidsOf at hkn
  rw [hxi] at hw hkr hkn
  have hkl := ints_nodup_len hkn (n := T.length) (fun k hk => by have := hkr k hk; omega)
  have hk : ¬ (x.kind < 1 ∨ 11 < x.kind) := fun hb => by rw [wrong_kind hb] at hw; cases hw
  have hn := wrong_names hw
  have hq : ¬ kidsBad T i x t d := fun hb => by rw [wrong_kids hk hn hb] at hw; cases hw
  have hit : itemsB x = true := by
    cases e : itemsB x with
    | true => rfl
    | false => rw [wrong_items hk hn hq e] at hw; cases hw
  have hf : fieldsB x = true := by
    cases e : fieldsB x with
    | true => rfl
    | false => rw [wrong_fields hk hn hq hit e] at hw; cases hw
  have ht : x.text.size ≤ 65536 := by
    rcases Nat.lt_or_ge 65536 x.text.size with e | e
    · rw [wrong_text hk hn hq hit hf e] at hw; cases hw
    · exact e
  unfold namesBad at hn
  have hid : x.id.size ≤ 32 := by
    rcases Nat.eq_zero_or_pos x.id.size with e | e
    · omega
    · cases en : nameB x.id with
      | false => exact absurd (.inl ⟨e, .inr en⟩) hn
      | true => exact ((nameB_eq _).1 en).2.1
  have hcl : x.cls.size ≤ 32 := by
    rcases Nat.eq_zero_or_pos x.cls.size with e | e
    · omega
    · cases en : nameB x.cls with
      | false => exact absurd (.inr ⟨e, en⟩) hn
      | true => exact ((nameB_eq _).1 en).2.1
  unfold itemsB at hit
  simp only [Bool.and_eq_true] at hit
  obtain ⟨⟨⟨i1, i2⟩, i3⟩, i4⟩ := hit
  have hcols : x.cols.length ≤ 64 := by
    split at i4
    · rw [decide_eq_true_eq] at i4; omega
    · split at i4 <;> rw [decide_eq_true_eq] at i4 <;> omega
  unfold fieldsB at hf
  simp only [Bool.and_eq_true] at hf
  obtain ⟨⟨⟨f1, f2⟩, f3⟩, f4⟩ := hf
  unfold padsB at f1
  unfold restB at f2
  rw [decide_eq_true_eq] at f1 f2
  have hall : ∀ k ∈ x.cols, ItFit k := fun k hk => itemB_fit ((List.all_eq_true.1 i3) k hk)
  have hkids : ∀ k ∈ x.kids, NumOk k := fun k hk => by have := hkr k hk; unfold NumOk; omega
  have hfl := ho.flags
  have had := ho.add
  have hdr := ho.drop
  clear hw hq hn hkn hkr i3 i4 hok ho
  exact ⟨by omega, by omega, by omega, by omega, by omega, hkids, itemB_fit i1, itemB_fit i2, by unfold NumOk; omega, by unfold NumOk; omega, by unfold NumOk; omega, by unfold NumOk; omega, by unfold NumOk; omega, by omega, colB_fit f3, colB_fit f4, by omega, by omega, hall, by omega⟩
theorem numF_pos : ∀ (f n : Nat), 0 < (numF f n).length
  | 0, n => by simp [numF]
  | f + 1, n => by rw [numF]; split <;> simp
theorem numB_short {n : Nat} (h : n ≤ 4096) : (numB n).length ≤ 2 := by
  unfold numB
  rw [Int.toNat_natCast, numF]
  split
  · simp
  · rw [numF, if_pos (by omega)]
    simp
theorem headB_len {n : Nat} (h : n ≤ 4096) : (headB n).length ≤ 5 := by
  have := numB_short h
  unfold headB
  rw [List.length_append]
  simp
  omega
theorem encT_ok {T : List Nd} {b : List Int} (h : encT T = (b, 0)) : (checkT T).1 = 0 ∧ b = headB T.length ++ T.flatMap ndB ∧ b.length ≤ 1048576 := by
  unfold encT at h
  split at h
  · rename_i hc
    injection h with _ h
    exact absurd h hc
  · rename_i hc
    have hc : (checkT T).1 = 0 := by omega
    refine ⟨hc, ?_⟩
    have hl := check_len hc
    have hh := headB_len hl.2
    cases e : encGo T (headB T.length) with
    | none => rw [e] at h; injection h with _ h; cases h
    | some r =>
      rw [e] at h
      injection h with h _
      subst h
      exact encGo_some T _ _ (by omega) e
theorem encT_no {T : List Nd} (h : (encT T).2 ≠ 0) : (encT T).1 = [] := by
  unfold encT at h ⊢
  split
  · rfl
  · rename_i hc
    rw [if_neg hc] at h
    cases e : encGo T (headB T.length) with
    | none => rfl
    | some r => rw [e] at h; exact absurd rfl h
theorem endS_idle (B : List Int) {s : Rs} (h : s.code ≠ 0) : endS B s = s := by
  unfold endS
  split
  · exact failS_idle _ _ _ h
  · rfl
/-- a right tree's bytes are read again -/
theorem enc_back {T : List Nd} {b : List Int} (h : encT T = (b, 0)) (hok : ∀ x ∈ T, NdOk x) :
    decT b = (T, 0, 0) ∧ (∀ cut, cut < b.length → decT (b.take cut) = ([], 6, (cut : Int))) ∧ ∀ more, more ≠ [] → b.length + more.length ≤ 1048576 → decT (b ++ more) = ([], 100, (b.length : Int)) := by
  obtain ⟨hc, hb, hl⟩ := encT_ok h
  have hlen := check_len hc
  have hC := bodyR_codec hlen.1 hlen.2 (check_fit hc hok)
  rw [← hb] at hC
  refine ⟨?_, fun cut hcut => ?_, fun more hm hml => ?_⟩
  · have hg := hC.good b ⟨0, 0, 0⟩ [] rfl (Nat.zero_le _) (by simp)
    unfold decT
    rw [if_neg (by omega), hg]
    have he : endS b ⟨0 + b.length, 0, 0⟩ = ⟨0 + b.length, 0, 0⟩ := by
      unfold endS
      rw [if_neg (by simp)]
    simp only [he]
    rw [if_neg (by simp), if_neg (by simpa using hc)]
  · have hsz : (b.take cut).length = cut := by rw [List.length_take]; omega
    have hs := hC.short (b.take cut) ⟨0, 0, 0⟩ (b.take cut) (b.drop cut) rfl (Nat.zero_le _) (List.take_append_drop cut b).symm (fun e => by
      have := congrArg List.length e
      simp at this
      omega) (by simp)
    unfold decT
    rw [if_neg (by omega), endS_idle _ (by rw [hs.1]; decide), if_pos (by rw [hs.1]; decide), hs.1, hs.2, hsz]
  · have hg := hC.good (b ++ more) ⟨0, 0, 0⟩ more rfl (Nat.zero_le _) (by simp)
    have hpos : 0 < more.length := List.length_pos_iff.2 hm
    unfold decT
    rw [if_neg (by rw [List.length_append]; omega), hg]
    have he : endS (b ++ more) ⟨0 + b.length, 0, 0⟩ = ⟨0 + b.length, 100, (b.length : Int)⟩ := by
      unfold endS failS
      rw [if_pos (by simp; exact hpos), if_pos rfl]
      simp
    simp only [he]
    rw [if_pos (by decide)]

/-! What is read is the very bytes. -/
def Byte (B : List Int) : Prop := ∀ c ∈ B, 0 ≤ c ∧ c ≤ 255
def Back {α : Type} (f : Rdr α) (R : α → List Int → Prop) : Prop := ∀ B s, Byte B → s.code = 0 → s.at_ ≤ B.length → (f B s).2.code = 0 → ∃ l, R (f B s).1 l ∧ (f B s).2.at_ = s.at_ + l.length ∧ (f B s).2.at_ ≤ B.length ∧ B.drop s.at_ = l ++ B.drop (f B s).2.at_
theorem back_pure {α : Type} (a : α) : Back (rP a) (fun b l => b = a ∧ l = []) := fun B s hB h0 ha h => ⟨[], ⟨rfl, rfl⟩, rfl, ha, rfl⟩
theorem back_bind {α β : Type} {f : Rdr α} {g : α → Rdr β} {R : α → List Int → Prop} {S : α → β → List Int → Prop} (hf : Back f R) (hg : ∀ a, Back (g a) (S a)) (hi : ∀ a, Idle (g a)) : Back (rB f g) (fun b l => ∃ a l1 l2, R a l1 ∧ S a b l2 ∧ l = l1 ++ l2) := fun B s hB h0 ha h => by
  have h1 : (f B s).2.code = 0 := by
    rcases Decidable.em ((f B s).2.code = 0) with e | e
    · exact e
    · have h2 : (g (f B s).1 B (f B s).2).2.code = 0 := h
      rw [hi _ B _ e] at h2
      exact absurd h2 e
  obtain ⟨l1, r1, a1, b1, d1⟩ := hf B s hB h0 ha h1
  obtain ⟨l2, r2, a2, b2, d2⟩ := hg (f B s).1 B (f B s).2 hB h1 b1 h
  refine ⟨l1 ++ l2, ⟨_, l1, l2, r1, r2, rfl⟩, ?_, b2, ?_⟩
  · show (g (f B s).1 B (f B s).2).2.at_ = _
    rw [a2, a1, List.length_append, Nat.add_assoc]
  · show _ = _ ++ B.drop (g (f B s).1 B (f B s).2).2.at_
    rw [d1, d2, List.append_assoc]
theorem Back.imp {α : Type} {f : Rdr α} {R R' : α → List Int → Prop} (h : Back f R) (hr : ∀ a l, R a l → R' a l) : Back f R' := fun B s hB h0 ha h1 => by
  obtain ⟨l, r, x⟩ := h B s hB h0 ha h1
  exact ⟨l, hr _ _ r, x⟩
theorem octR_back (m : Int) : Back (octR m) (fun c l => 0 ≤ c ∧ c ≤ 255 ∧ c ≤ m ∧ l = [c]) := fun B s hB h0 ha h => by
  unfold octR at h ⊢
  rw [if_neg (by rw [h0]; simp)] at h ⊢
  by_cases h1 : B.length ≤ s.at_
  · rw [if_pos h1] at h; cases h
  · rw [if_neg h1] at h ⊢
    by_cases h2 : m < B.getD s.at_ 0
    · rw [if_pos h2] at h; cases h
    · rw [if_neg h2]
      have hlt : s.at_ < B.length := by omega
      have e : B.getD s.at_ 0 = B[s.at_] := by rw [List.getD_eq_getElem?_getD, List.getElem?_eq_getElem hlt]; rfl
      have hb := hB _ (List.getElem_mem hlt)
      refine ⟨[B.getD s.at_ 0], ⟨by rw [e]; exact hb.1, by rw [e]; exact hb.2, by omega, rfl⟩, rfl, by show s.at_ + 1 ≤ _; omega, ?_⟩
      rw [List.drop_eq_getElem_cons hlt, e]
      rfl
theorem numGo_back (start : Nat) (B : List Int) (hB : Byte B) : ∀ (f g i : Nat) (acc : Int) (s : Rs), f ≤ g → s.code = 0 → s.at_ ≤ B.length → (numGo start f i acc B s).2.code = 0 →
    ∃ n : Nat, n < 128 ^ f ∧ (0 < n ∨ i = 0) ∧ (numGo start f i acc B s).1 = acc + (n : Int) * 128 ^ i ∧ acc + (n : Int) * 128 ^ i < 2147483648 ∧ (numGo start f i acc B s).2.at_ = s.at_ + (numF g n).length ∧ (numGo start f i acc B s).2.at_ ≤ B.length ∧ B.drop s.at_ = numF g n ++ B.drop (numGo start f i acc B s).2.at_
  | 0, g, i, acc, s, hg, h0, ha, h => by
    unfold numGo at h
    unfold failS at h
    rw [if_pos h0] at h
    cases h
  | f + 1, 0, i, acc, s, hg, h0, ha, h => by omega
  | f + 1, g + 1, i, acc, s, hg, h0, ha, h => by
    rw [numGo_succ] at h ⊢
    by_cases hc : (octR 255 B s).2.code = 0
    · obtain ⟨l, ⟨c0, c1, _, rfl⟩, a1, b1, d1⟩ := octR_back 255 B s hB h0 ha hc
      generalize octR 255 B s = r at *
      obtain ⟨c, s1⟩ := r
      simp only at *
      rw [if_neg (by rw [hc]; simp)] at h ⊢
      obtain ⟨k, rfl⟩ := Int.eq_ofNat_of_zero_le c0
      by_cases hs : (k : Int) < 128
      · rw [if_pos hs] at h ⊢
        have e : (k : Int) % 128 = (k : Int) := by omega
        rw [e] at h ⊢
        by_cases hx : (0 < i ∧ (k : Int) = 0) ∨ 2147483648 ≤ acc + (k : Int) * 128 ^ i
        · rw [if_pos hx] at h
          unfold failS at h
          rw [if_pos hc] at h
          cases h
        · rw [if_neg hx] at h ⊢
          have hnf : numF (g + 1) k = [(k : Int)] := by rw [numF, if_pos (by omega)]
          have hp : 1 ≤ 128 ^ f := Nat.one_le_pow _ _ (by decide)
          refine ⟨k, by rw [Nat.pow_succ]; omega, by omega, rfl, by omega, by rw [hnf]; exact a1, b1, by rw [hnf]; exact d1⟩
      · rw [if_neg hs] at h ⊢
        obtain ⟨n, n1, n2, n3, n4, n5, n6, n7⟩ := numGo_back start B hB f g (i + 1) _ s1 (by omega) hc b1 h
        have hdiv : (k % 128 + 128 * n) / 128 = n := by omega
        have hmod : (k % 128 + 128 * n) % 128 = k % 128 := by omega
        have hst := pow_step (k % 128 + 128 * n) i acc
        rw [hdiv, hmod] at hst
        have e : (k : Int) % 128 = ((k % 128 : Nat) : Int) := by omega
        rw [e] at n3 n4 n5 n6 n7 ⊢
        have hn0 : 0 < n := by omega
        have hnf : numF (g + 1) (k % 128 + 128 * n) = (k : Int) :: numF g n := by
          rw [numF, if_neg (by omega), hdiv, hmod]
          congr 1
          omega
        refine ⟨k % 128 + 128 * n, by rw [Nat.pow_succ]; omega, .inl (by omega), by rw [n3, hst], by rw [← hst]; exact n4, ?_, n6, ?_⟩
        · rw [n5, a1, hnf]
          simp only [List.length_cons, List.length_nil]
          omega
        · rw [d1, n7, hnf]
          rfl
    · rw [if_pos hc] at h
      exact absurd h hc
theorem numR_back : Back numR (fun n l => NumOk n ∧ l = numB n) := fun B s hB h0 ha h => by
  obtain ⟨n, n1, n2, n3, n4, n5, n6, n7⟩ := numGo_back s.at_ B hB 5 10 0 0 s (by omega) h0 ha h
  simp only [Int.pow_zero, Int.mul_one, Int.zero_add] at n3 n4
  have e : numB n = numF 10 n := by unfold numB; rw [Int.toNat_natCast]
  refine ⟨numF 10 n, ⟨?_, ?_⟩, n5, n6, n7⟩
  · show NumOk (numGo s.at_ 5 0 0 B s).1
    rw [n3]
    exact ⟨by omega, n4⟩
  · show _ = numB (numGo s.at_ 5 0 0 B s).1
    rw [n3, e]
theorem sgnN_unS {n : Int} (h : 0 ≤ n) : sgnN (unS n) = n := by
  unfold sgnN unS
  split <;> split <;> omega
theorem sgnR_back : Back sgnR (fun n l => l = sgnB n) := (back_bind numR_back (fun a => back_pure (unS a)) fun _ => idle_pure _).imp fun a l => by
  rintro ⟨n, l1, l2, ⟨h1, rfl⟩, ⟨rfl, rfl⟩, rfl⟩
  unfold sgnB
  rw [sgnN_unS h1.1, List.append_nil]
theorem byte_drop {B : List Int} (h : Byte B) (n : Nat) : Byte (B.drop n) := fun c hc => h c (List.mem_of_mem_drop hc)
theorem byte_take {B : List Int} (h : Byte B) (n : Nat) : Byte (B.take n) := fun c hc => h c (List.mem_of_mem_take hc)
theorem strB_strOf {l : List Int} (h : Byte l) : strB (strOf l) = l := by
  unfold strB strOf
  rw [List.map_map]
  conv => rhs; rw [← List.map_id l]
  refine List.map_congr_left fun c hc => ?_
  have := h c hc
  show ((UInt8.ofNat c.toNat).toNat : Int) = c
  rw [UInt8.toNat_ofNat']
  omega
theorem strOf_size (l : List Int) : (strOf l).size = l.length := by
  show ((l.map fun c => UInt8.ofNat c.toNat).toArray).size = _
  simp
theorem txtR_back : Back txtR (fun s l => s.size < 2147483648 ∧ l = txtB s) := fun B s hB h0 ha h => by
  unfold txtR at h ⊢
  by_cases hc : (numR B s).2.code = 0
  · obtain ⟨l, ⟨⟨c0, c1⟩, hl⟩, a1, b1, d1⟩ := numR_back B s hB h0 ha hc
    generalize numR B s = r at *
    obtain ⟨c, s1⟩ := r
    simp only at *
    rw [if_neg (by rw [hc]; simp)] at h ⊢
    by_cases hx : (B.length : Int) - s1.at_ < c
    · rw [if_pos hx] at h; cases h
    · rw [if_neg hx]
      obtain ⟨k, rfl⟩ := Int.eq_ofNat_of_zero_le c0
      rw [Int.toNat_natCast]
      have hlen : ((B.drop s1.at_).take k).length = k := by rw [List.length_take, List.length_drop]; omega
      have hbt := byte_take (byte_drop hB s1.at_) k
      refine ⟨txtB (strOf ((B.drop s1.at_).take k)), ⟨by rw [strOf_size, hlen]; omega, rfl⟩, ?_, by show s1.at_ + k ≤ _; omega, ?_⟩
      · unfold txtB
        rw [List.length_append, strB_strOf hbt, strOf_size, hlen, ← hl, a1, Nat.add_assoc]
      · unfold txtB
        rw [strB_strOf hbt, strOf_size, hlen, ← hl, d1, List.append_assoc, ← List.drop_drop, List.take_append_drop]
  · rw [if_pos hc] at h
    exact absurd h hc
theorem itR_back : Back itR (fun x l => ItFit x ∧ 0 ≤ x.k ∧ l = itB x) := by
  refine (back_bind (octR_back 127) (fun k => back_bind numR_back (fun n => back_bind numR_back (fun d => back_bind numR_back (fun lo => back_bind numR_back (fun hi => back_pure (⟨k, n, d, lo, hi⟩ : It)) fun _ => idle_pure _) fun _ => idle_bind numR_idle fun _ => idle_pure _) fun _ => idle_bind numR_idle fun _ => idle_bind numR_idle fun _ => idle_pure _) fun _ => idle_bind numR_idle fun _ => idle_bind numR_idle fun _ => idle_bind numR_idle fun _ => idle_pure _) fun _ => idle_bind numR_idle fun _ => idle_bind numR_idle fun _ => idle_bind numR_idle fun _ => idle_bind numR_idle fun _ => idle_pure _).imp fun x l => ?_
  rintro ⟨k, l1, l2, ⟨k0, k1, k2, rfl⟩, ⟨n, l3, l4, ⟨hn, rfl⟩, ⟨d, l5, l6, ⟨hd, rfl⟩, ⟨lo, l7, l8, ⟨hlo, rfl⟩, ⟨hi, l9, l10, ⟨hhi, rfl⟩, ⟨rfl, rfl⟩, rfl⟩, rfl⟩, rfl⟩, rfl⟩, rfl⟩
  exact ⟨⟨k2, hn, hd, hlo, hhi⟩, k0, by unfold itB; simp⟩
theorem manyR_back {α : Type} {f : Rdr α} {enc : α → List Int} {Ok : α → Prop} (hf : Back f (fun a l => Ok a ∧ l = enc a)) (hi : Idle f) : ∀ n, Back (manyR f n) (fun L l => L.length = n ∧ (∀ x ∈ L, Ok x) ∧ l = L.flatMap enc)
  | 0 => (back_pure []).imp fun a l => by
    rintro ⟨rfl, rfl⟩
    exact ⟨rfl, (fun x hx => by cases hx), rfl⟩
  | n + 1 => fun B s hB h0 ha h => by
    rw [manyR_succ, if_neg (by rw [h0]; simp)] at h ⊢
    have h1 : (f B s).2.code = 0 := by
      rcases Decidable.em ((f B s).2.code = 0) with e | e
      · exact e
      · have h2 : (manyR f n B (f B s).2).2.code = 0 := h
        rw [manyR_idle f n B _ e] at h2
        exact absurd h2 e
    obtain ⟨l1, ⟨r1, rfl⟩, a1, b1, d1⟩ := hf B s hB h0 ha h1
    obtain ⟨l2, ⟨r2, r3, rfl⟩, a2, b2, d2⟩ := manyR_back hf hi n B (f B s).2 hB h1 b1 h
    refine ⟨_, ⟨by simp [r2], fun x hx => ?_, rfl⟩, ?_, b2, ?_⟩
    · rcases List.mem_cons.1 hx with rfl | hx
      · exact r1
      · exact r3 x hx
    · rw [a2, a1, List.flatMap_cons, List.length_append, Nat.add_assoc]
    · rw [d1, d2, List.flatMap_cons, List.append_assoc]
theorem mixTo_mixP (a y : Nd) : ∀ k, k < 13 → mixTo (mixP a y k) k = mixTo a k ∧ partsTo (mixP a y k) k = partsTo a k := by
  intro k hk
  have : k = 0 ∨ k = 1 ∨ k = 2 ∨ k = 3 ∨ k = 4 ∨ k = 5 ∨ k = 6 ∨ k = 7 ∨ k = 8 ∨ k = 9 ∨ k = 10 ∨ k = 11 ∨ k = 12 := by omega
  cases a
  cases y
  rcases this with rfl | rfl | rfl | rfl | rfl | rfl | rfl | rfl | rfl | rfl | rfl | rfl | rfl <;> exact ⟨by kernel_rfl, by kernel_rfl⟩
theorem partR_back (x : Nd) : ∀ k, Back (partR x k) (fun y l => y = mixP x y k ∧ l = partB y k)
  | 0 => by
    show Back (rB (octR 127) fun k => rP { x with kind := k }) (fun y l => y = { x with kind := y.kind } ∧ l = [y.kind])
    refine (back_bind (octR_back 127) (fun k => back_pure _) fun _ => idle_pure _).imp fun y l => ?_
    rintro ⟨a, l1, l2, ⟨_, _, _, rfl⟩, ⟨rfl, rfl⟩, rfl⟩
    exact ⟨rfl, by simp⟩
  | 1 => by
    show Back (rB txtR fun k => rP { x with id := k }) (fun y l => y = { x with id := y.id } ∧ l = txtB y.id)
    refine (back_bind txtR_back (fun k => back_pure _) fun _ => idle_pure _).imp fun y l => ?_
    rintro ⟨a, l1, l2, ⟨_, rfl⟩, ⟨rfl, rfl⟩, rfl⟩
    exact ⟨rfl, by simp⟩
  | 2 => by
    show Back (rB txtR fun k => rP { x with cls := k }) (fun y l => y = { x with cls := y.cls } ∧ l = txtB y.cls)
    refine (back_bind txtR_back (fun k => back_pure _) fun _ => idle_pure _).imp fun y l => ?_
    rintro ⟨a, l1, l2, ⟨_, rfl⟩, ⟨rfl, rfl⟩, rfl⟩
    exact ⟨rfl, by simp⟩
  | 3 => by
    show Back (rB txtR fun k => rP { x with text := k }) (fun y l => y = { x with text := y.text } ∧ l = txtB y.text)
    refine (back_bind txtR_back (fun k => back_pure _) fun _ => idle_pure _).imp fun y l => ?_
    rintro ⟨a, l1, l2, ⟨_, rfl⟩, ⟨rfl, rfl⟩, rfl⟩
    exact ⟨rfl, by simp⟩
  | 4 => by
    show Back (rB numR fun n => rB (manyR numR n.toNat) fun l => rP { x with kids := l }) (fun y l => y = { x with kids := y.kids } ∧ l = numB y.kids.length ++ kidsB y.kids)
    refine (back_bind numR_back (fun n => back_bind (manyR_back numR_back numR_idle n.toNat) (fun l => back_pure _) fun _ => idle_pure _) fun _ => idle_bind (manyR_idle _ _) fun _ => idle_pure _).imp fun y l => ?_
    rintro ⟨a, l1, l2, ⟨h, rfl⟩, ⟨L, l3, l4, ⟨h1, h2, rfl⟩, ⟨rfl, rfl⟩, rfl⟩, rfl⟩
    refine ⟨rfl, ?_⟩
    have : (L.length : Int) = a := by have := h.1; omega
    simp only [this, kidsB, List.append_nil]
  | 5 => by
    show Back (rB itR fun k => rP { x with iw := k }) (fun y l => y = { x with iw := y.iw } ∧ l = itB y.iw)
    refine (back_bind itR_back (fun k => back_pure _) fun _ => idle_pure _).imp fun y l => ?_
    rintro ⟨a, l1, l2, ⟨_, _, rfl⟩, ⟨rfl, rfl⟩, rfl⟩
    exact ⟨rfl, by simp⟩
  | 6 => by
    show Back (rB itR fun k => rP { x with ih := k }) (fun y l => y = { x with ih := y.ih } ∧ l = itB y.ih)
    refine (back_bind itR_back (fun k => back_pure _) fun _ => idle_pure _).imp fun y l => ?_
    rintro ⟨a, l1, l2, ⟨_, _, rfl⟩, ⟨rfl, rfl⟩, rfl⟩
    exact ⟨rfl, by simp⟩
  | 7 => by
    show Back (rB numR fun k => rP { x with gap := k }) (fun y l => y = { x with gap := y.gap } ∧ l = numB y.gap)
    refine (back_bind numR_back (fun k => back_pure _) fun _ => idle_pure _).imp fun y l => ?_
    rintro ⟨a, l1, l2, ⟨_, rfl⟩, ⟨rfl, rfl⟩, rfl⟩
    exact ⟨rfl, by simp⟩
  | 8 => by
    show Back (rB numR fun a => rB numR fun b => rB numR fun c => rB numR fun d => rP { x with p0 := a, p1 := b, p2 := c, p3 := d }) (fun y l => y = { x with p0 := y.p0, p1 := y.p1, p2 := y.p2, p3 := y.p3 } ∧ l = numB y.p0 ++ (numB y.p1 ++ (numB y.p2 ++ numB y.p3)))
    refine (back_bind numR_back (fun a => back_bind numR_back (fun b => back_bind numR_back (fun c => back_bind numR_back (fun d => back_pure _) fun _ => idle_pure _) fun _ => idle_bind numR_idle fun _ => idle_pure _) fun _ => idle_bind numR_idle fun _ => idle_bind numR_idle fun _ => idle_pure _) fun _ => idle_bind numR_idle fun _ => idle_bind numR_idle fun _ => idle_bind numR_idle fun _ => idle_pure _).imp fun y l => ?_
    rintro ⟨a, l1, l2, ⟨_, rfl⟩, ⟨b, l3, l4, ⟨_, rfl⟩, ⟨c, l5, l6, ⟨_, rfl⟩, ⟨d, l7, l8, ⟨_, rfl⟩, ⟨rfl, rfl⟩, rfl⟩, rfl⟩, rfl⟩, rfl⟩
    exact ⟨rfl, by simp⟩
  | 9 => by
    show Back (rB (octR 127) fun a => rB (octR 127) fun b => rB (octR 127) fun c => rB (octR 127) fun d => rB (octR 255) fun e => rP { x with border := a, align := b, cross := c, wrap := d, flags := e }) (fun y l => y = { x with border := y.border, align := y.align, cross := y.cross, wrap := y.wrap, flags := y.flags } ∧ l = [y.border, y.align, y.cross, y.wrap, y.flags])
    refine (back_bind (octR_back 127) (fun a => back_bind (octR_back 127) (fun b => back_bind (octR_back 127) (fun c => back_bind (octR_back 127) (fun d => back_bind (octR_back 255) (fun e => back_pure _) fun _ => idle_pure _) fun _ => idle_bind (octR_idle _) fun _ => idle_pure _) fun _ => idle_bind (octR_idle _) fun _ => idle_bind (octR_idle _) fun _ => idle_pure _) fun _ => idle_bind (octR_idle _) fun _ => idle_bind (octR_idle _) fun _ => idle_bind (octR_idle _) fun _ => idle_pure _) fun _ => idle_bind (octR_idle _) fun _ => idle_bind (octR_idle _) fun _ => idle_bind (octR_idle _) fun _ => idle_bind (octR_idle _) fun _ => idle_pure _).imp fun y l => ?_
    rintro ⟨a, l1, l2, ⟨_, _, _, rfl⟩, ⟨b, l3, l4, ⟨_, _, _, rfl⟩, ⟨c, l5, l6, ⟨_, _, _, rfl⟩, ⟨d, l7, l8, ⟨_, _, _, rfl⟩, ⟨e, l9, l10, ⟨_, _, _, rfl⟩, ⟨rfl, rfl⟩, rfl⟩, rfl⟩, rfl⟩, rfl⟩, rfl⟩
    exact ⟨rfl, by simp⟩
  | 10 => by
    show Back (rB numR fun a => rB numR fun b => rB (octR 255) fun c => rB (octR 255) fun d => rP { x with fg := a, bg := b, add := c, drop := d }) (fun y l => y = { x with fg := y.fg, bg := y.bg, add := y.add, drop := y.drop } ∧ l = numB y.fg ++ (numB y.bg ++ [y.add, y.drop]))
    refine (back_bind numR_back (fun a => back_bind numR_back (fun b => back_bind (octR_back 255) (fun c => back_bind (octR_back 255) (fun d => back_pure _) fun _ => idle_pure _) fun _ => idle_bind (octR_idle _) fun _ => idle_pure _) fun _ => idle_bind (octR_idle _) fun _ => idle_bind (octR_idle _) fun _ => idle_pure _) fun _ => idle_bind numR_idle fun _ => idle_bind (octR_idle _) fun _ => idle_bind (octR_idle _) fun _ => idle_pure _).imp fun y l => ?_
    rintro ⟨a, l1, l2, ⟨_, rfl⟩, ⟨b, l3, l4, ⟨_, rfl⟩, ⟨c, l5, l6, ⟨_, _, _, rfl⟩, ⟨d, l7, l8, ⟨_, _, _, rfl⟩, ⟨rfl, rfl⟩, rfl⟩, rfl⟩, rfl⟩, rfl⟩
    exact ⟨rfl, by simp⟩
  | 11 => by
    show Back (rB numR fun n => rB (manyR itR n.toNat) fun l => rP { x with cols := l }) (fun y l => y = { x with cols := y.cols } ∧ l = numB y.cols.length ++ itsB y.cols)
    refine (back_bind numR_back (fun n => back_bind (manyR_back (enc := itB) (Ok := fun x => ItFit x ∧ 0 ≤ x.k) (itR_back.imp fun a l h => ⟨⟨h.1, h.2.1⟩, h.2.2⟩) itR_idle n.toNat) (fun l => back_pure _) fun _ => idle_pure _) fun _ => idle_bind (manyR_idle _ _) fun _ => idle_pure _).imp fun y l => ?_
    rintro ⟨a, l1, l2, ⟨h, rfl⟩, ⟨L, l3, l4, ⟨h1, h2, rfl⟩, ⟨rfl, rfl⟩, rfl⟩, rfl⟩
    refine ⟨rfl, ?_⟩
    have : (L.length : Int) = a := by have := h.1; omega
    simp only [this, itsB, List.append_nil]
  | k + 12 => by
    show Back (rB sgnR fun a => rB sgnR fun b => rB sgnR fun c => rB sgnR fun d => rP { x with x0 := a, x1 := b, x2 := c, x3 := d }) (fun y l => y = { x with x0 := y.x0, x1 := y.x1, x2 := y.x2, x3 := y.x3 } ∧ l = sgnB y.x0 ++ (sgnB y.x1 ++ (sgnB y.x2 ++ sgnB y.x3)))
    refine (back_bind sgnR_back (fun a => back_bind sgnR_back (fun b => back_bind sgnR_back (fun c => back_bind sgnR_back (fun d => back_pure _) fun _ => idle_pure _) fun _ => idle_bind sgnR_idle fun _ => idle_pure _) fun _ => idle_bind sgnR_idle fun _ => idle_bind sgnR_idle fun _ => idle_pure _) fun _ => idle_bind sgnR_idle fun _ => idle_bind sgnR_idle fun _ => idle_bind sgnR_idle fun _ => idle_pure _).imp fun y l => ?_
    rintro ⟨a, l1, l2, rfl, ⟨b, l3, l4, rfl, ⟨c, l5, l6, rfl, ⟨d, l7, l8, rfl, ⟨rfl, rfl⟩, rfl⟩, rfl⟩, rfl⟩, rfl⟩
    exact ⟨rfl, by simp⟩
theorem partsR_back : ∀ k, k ≤ 13 → Back (partsR k) (fun y l => y = mixTo y k ∧ l = partsTo y k)
  | 0, _ => (back_pure zNd).imp fun y l => by
    rintro ⟨rfl, rfl⟩
    exact ⟨rfl, rfl⟩
  | k + 1, hk => (back_bind (partsR_back k (by omega)) (fun x => partR_back x k) fun x => partR_idle x k).imp fun y l => by
    rintro ⟨a, l1, l2, ⟨h1, rfl⟩, ⟨h2, rfl⟩, rfl⟩
    obtain ⟨m1, m2⟩ := mixTo_mixP a y k (by omega)
    rw [← h2] at m1 m2
    refine ⟨?_, ?_⟩
    · show y = mixP (mixTo y k) y k
      rw [m1, ← h1]
      exact h2
    · show _ = partsTo y k ++ partB y k
      rw [m2]
theorem ndR_back : Back ndR (fun y l => True ∧ l = ndB y) := (partsR_back 13 (by omega)).imp fun y l h => ⟨trivial, h.2⟩
theorem ndR_idle : Idle ndR := partsR_idle 13
theorem wantR_back (i : Nat) (c : Int) : Back (wantR i c) (fun _ l => l = [c]) := fun B s hB h0 ha h => by
  unfold wantR at h ⊢
  have hc : (octR 255 B s).2.code = 0 := by
    simp only at h
    split at h
    · exact h
    · rcases Decidable.em ((octR 255 B s).2.code = 0) with e | e
      · exact e
      · rw [failS_idle _ _ _ e] at h; exact absurd h e
  obtain ⟨l, ⟨_, _, _, rfl⟩, a1, b1, d1⟩ := octR_back 255 B s hB h0 ha hc
  by_cases e : (octR 255 B s).1 = c
  · simp only [e, if_true]
    exact ⟨_, rfl, a1, b1, by rw [d1, e]⟩
  · simp only [e, if_false] at h
    unfold failS at h
    rw [if_pos hc] at h
    cases h
theorem countR_back : Back countR (fun n l => (1 ≤ n ∧ n ≤ 4096) ∧ l = numB n) := fun B s hB h0 ha h => by
  unfold countR at h ⊢
  have hc : (numR B s).2.code = 0 := by
    simp only at h
    split at h
    · rcases Decidable.em ((numR B s).2.code = 0) with e | e
      · exact e
      · rw [failS_idle _ _ _ e] at h; exact absurd h e
    · exact h
  obtain ⟨l, ⟨h1, hl⟩, a1, b1, d1⟩ := numR_back B s hB h0 ha hc
  by_cases e : (numR B s).1 = 0 ∨ 4096 < (numR B s).1
  · simp only [e, if_true] at h
    unfold failS at h
    rw [if_pos hc] at h
    cases h
  · simp only [e, if_false]
    exact ⟨_, ⟨by have := h1.1; omega, hl⟩, a1, b1, d1⟩
theorem headR_back : Back headR (fun n l => (1 ≤ n ∧ n ≤ 4096) ∧ l = headB n.toNat) := by
  rw [headR_eq]
  refine (back_bind (wantR_back 0 70) (fun _ => back_bind (wantR_back 1 84) (fun _ => back_bind (wantR_back 2 1) (fun _ => countR_back) fun _ => countR_idle) fun _ => idle_bind (wantR_idle _ _) fun _ => countR_idle) fun _ => idle_bind (wantR_idle _ _) fun _ => idle_bind (wantR_idle _ _) fun _ => countR_idle).imp fun y l => ?_
  rintro ⟨a, l1, l2, rfl, ⟨b, l3, l4, rfl, ⟨c, l5, l6, rfl, ⟨h, rfl⟩, rfl⟩, rfl⟩, rfl⟩
  refine ⟨h, ?_⟩
  unfold headB
  rw [show ((y.toNat : Nat) : Int) = y by omega]
  rfl
theorem headR_idle : Idle headR := by
  rw [headR_eq]
  exact idle_bind (wantR_idle _ _) fun _ => idle_bind (wantR_idle _ _) fun _ => idle_bind (wantR_idle _ _) fun _ => countR_idle
theorem bodyR_idle : Idle bodyR := idle_bind headR_idle fun _ => manyR_idle _ _
theorem bodyR_back : Back bodyR (fun T l => (1 ≤ T.length ∧ T.length ≤ 4096) ∧ l = headB T.length ++ T.flatMap ndB) := (back_bind headR_back (fun n => manyR_back ndR_back ndR_idle n.toNat) fun _ => manyR_idle _ _).imp fun T l => by
  rintro ⟨n, l1, l2, ⟨h1, rfl⟩, ⟨h2, _, rfl⟩, rfl⟩
  exact ⟨by omega, by rw [h2]⟩
theorem encGo_all : ∀ (T : List Nd) (b : List Int), (b ++ T.flatMap ndB).length ≤ 1048576 → encGo T b = some (b ++ T.flatMap ndB)
  | [], b, h => by simp [encGo]
  | x :: T, b, h => by
    rw [List.flatMap_cons, ← List.append_assoc] at h ⊢
    rw [encGo, if_neg (by rw [List.length_append] at h; omega)]
    exact encGo_all T _ h
/-- bytes of which a tree is read are the very bytes of that tree -/
theorem dec_only {B : List Int} (hB : Byte B) (h : (decT B).2.1 = 0) : (checkT (decT B).1).1 = 0 ∧ encT (decT B).1 = (B, 0) ∧ (decT B).2.2 = 0 := by
  unfold decT at h ⊢
  by_cases h1 : 1048576 < B.length
  · rw [if_pos h1] at h; cases h
  · rw [if_neg h1] at h ⊢
    by_cases h2 : (endS B (bodyR B ⟨0, 0, 0⟩).2).code = 0
    · rw [if_neg (by rw [h2]; simp)] at h ⊢
      by_cases h3 : (checkT (bodyR B ⟨0, 0, 0⟩).1).1 = 0
      · rw [if_neg (by rw [h3]; simp)]
        refine ⟨h3, ?_, rfl⟩
        have hc : (bodyR B ⟨0, 0, 0⟩).2.code = 0 := by
          rcases Decidable.em ((bodyR B ⟨0, 0, 0⟩).2.code = 0) with e | e
          · exact e
          · rw [endS_idle _ e] at h2; exact absurd h2 e
        obtain ⟨l, ⟨hT, hl⟩, a1, b1, d1⟩ := bodyR_back B ⟨0, 0, 0⟩ hB rfl (Nat.zero_le _) hc
        have hend : ¬ (bodyR B ⟨0, 0, 0⟩).2.at_ < B.length := fun e => by
          unfold endS failS at h2
          rw [if_pos e, if_pos hc] at h2
          cases h2
        rw [List.drop_of_length_le (by omega : B.length ≤ (bodyR B ⟨0, 0, 0⟩).2.at_), List.append_nil, hl] at d1
        have d2 : B = headB (bodyR B ⟨0, 0, 0⟩).1.length ++ (bodyR B ⟨0, 0, 0⟩).1.flatMap ndB := d1
        have hg := encGo_all (bodyR B ⟨0, 0, 0⟩).1 (headB (bodyR B ⟨0, 0, 0⟩).1.length) (by rw [← d2]; omega)
        rw [← d2] at hg
        unfold encT
        rw [if_neg (by rw [h3]; simp), hg]
      · rw [if_pos h3] at h
        exact absurd h h3
    · rw [if_pos h2] at h
      exact absurd h h2
theorem dec_wrong {B : List Int} (h : (decT B).2.1 ≠ 0) : (decT B).1 = [] := by
  unfold decT at h ⊢
  split
  · rfl
  · split
    · rfl
    · split
      · rfl
      · rename_i h1 h2 h3
        rw [if_neg h1, if_neg h2, if_neg h3] at h
        exact absurd rfl h
end Go.Proofs.Ytcihihncgpddfaa
