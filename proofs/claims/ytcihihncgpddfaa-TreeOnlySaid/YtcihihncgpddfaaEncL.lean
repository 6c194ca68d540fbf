/- Laws of a tree's bytes: what is written is read again; cut off; lengthened. Plain Lean. -/
import Derived.Test.YtcihihncgpddfaaEncM
namespace Go.Proofs.Ytcihihncgpddfaa
open Go.RowKit
set_option linter.unusedVariables false
set_option linter.unusedSimpArgs false

def Idle {α : Type} (f : Rdr α) : Prop := ∀ B s, s.code ≠ 0 → (f B s).2 = s
structure Codec {α : Type} (f : Rdr α) (l : List Int) (v : α) : Prop where
  idle : Idle f
  good : ∀ B s rest, s.code = 0 → s.at_ ≤ B.length → B.drop s.at_ = l ++ rest → f B s = (v, ⟨s.at_ + l.length, 0, s.bad⟩)
  short : ∀ B s p q, s.code = 0 → s.at_ ≤ B.length → l = p ++ q → q ≠ [] → B.drop s.at_ = p → (f B s).2.code = 6 ∧ (f B s).2.bad = B.length
theorem drop_more {B : List Int} {a : Nat} {l r : List Int} (h : B.drop a = l ++ r) (ha : a ≤ B.length) : B.drop (a + l.length) = r ∧ a + l.length ≤ B.length := by
  constructor
  · rw [← List.drop_drop, h, List.drop_left]
  · have := congrArg List.length h
    simp at this
    omega
theorem idle_pure {α : Type} (a : α) : Idle (rP a) := fun B s h => rfl
theorem idle_bind {α β : Type} {f : Rdr α} {g : α → Rdr β} (hf : Idle f) (hg : ∀ a, Idle (g a)) : Idle (rB f g) := fun B s h => by
  show (g (f B s).1 B (f B s).2).2 = s
  rw [hf B s h]
  exact hg _ B s h
theorem codec_pure {α : Type} (a : α) : Codec (rP a) [] a := ⟨idle_pure a, fun B s rest h0 ha h => by
  show (a, s) = _
  obtain ⟨x, c, b⟩ := s
  simp only at h0
  subst h0
  rfl, fun B s p q h0 ha h hq hd => by
  rcases List.append_eq_nil_iff.1 h.symm with ⟨_, e⟩
  exact absurd e hq⟩
theorem codec_bind {α β : Type} {f : Rdr α} {g : α → Rdr β} {l m : List Int} {v : α} {u : β} (hf : Codec f l v) (hg : Codec (g v) m u) (hi : ∀ a, Idle (g a)) : Codec (rB f g) (l ++ m) u := by
  refine ⟨idle_bind hf.idle hi, fun B s rest h0 ha h => ?_, fun B s p q h0 ha h hq hd => ?_⟩
  · rw [List.append_assoc] at h
    show g (f B s).1 B (f B s).2 = _
    rw [hf.good B s _ h0 ha h]
    obtain ⟨h1, h2⟩ := drop_more h ha
    rw [hg.good B _ rest rfl h2 h1]
    simp only [List.length_append]
    rw [Nat.add_assoc]
  · show (g (f B s).1 B (f B s).2).2.code = 6 ∧ (g (f B s).1 B (f B s).2).2.bad = _
    have key : ∀ p', p = l ++ p' → m = p' ++ q → (g (f B s).1 B (f B s).2).2.code = 6 ∧ (g (f B s).1 B (f B s).2).2.bad = B.length := fun p' e1 e2 => by
      rw [e1] at hd
      rw [hf.good B s _ h0 ha hd]
      obtain ⟨h1, h2⟩ := drop_more hd ha
      exact hg.short B _ p' q rfl h2 e2 hq h1
    rcases List.append_eq_append_iff.1 h with ⟨a', e1, e2⟩ | ⟨c', e1, e2⟩
    · exact key a' e1 e2
    · by_cases hc : c' = []
      · subst hc
        exact key [] (by simpa using e1.symm) (by simpa using e2.symm)
      · obtain ⟨k1, k2⟩ := hf.short B s p c' h0 ha e1 hc hd
        rw [hi _ B _ (by rw [k1]; decide)]
        exact ⟨k1, k2⟩
theorem codec_map {α β : Type} {f : Rdr α} {l : List Int} {v : α} (hf : Codec f l v) (k : α → β) : Codec (rB f fun a => rP (k a)) l (k v) := by
  have := codec_bind hf (codec_pure (k v)) (g := fun a => rP (k a)) (fun a => idle_pure _)
  rwa [List.append_nil] at this
theorem codec_congr {α : Type} {f f' : Rdr α} {l : List Int} {v : α} (hf : Codec f' l v) (hi : Idle f) (h : ∀ B s, s.code = 0 → (f B s).2 = (f' B s).2 ∧ ((f' B s).2.code = 0 → f B s = f' B s)) : Codec f l v :=
  ⟨hi, fun B s rest h0 ha hd => by
    have := hf.good B s rest h0 ha hd
    rw [(h B s h0).2 (by rw [this]), this], fun B s p q h0 ha e hq hd => by
    rw [(h B s h0).1]
    exact hf.short B s p q h0 ha e hq hd⟩
theorem octR_idle (m : Int) : Idle (octR m) := fun B s h => by
  unfold octR
  rw [if_pos h]
theorem drop_head {B : List Int} {a : Nat} {c : Int} {r : List Int} (h : B.drop a = c :: r) : a < B.length ∧ B.getD a 0 = c := by
  have h1 : a < B.length := by
    have := congrArg List.length h
    simp at this
    omega
  refine ⟨h1, ?_⟩
  rw [List.drop_eq_getElem_cons h1] at h
  injection h with h _
  rw [List.getD_eq_getElem?_getD, List.getElem?_eq_getElem h1]
  exact h
theorem octR_end {m : Int} {B : List Int} {s : Rs} (h0 : s.code = 0) (h : B.length ≤ s.at_) : octR m B s = (0, ⟨s.at_, 6, s.at_⟩) := by
  unfold octR
  rw [if_neg (by rw [h0]; simp), if_pos h]
theorem octR_yes {m : Int} {B : List Int} {s : Rs} {c : Int} {r : List Int} (h0 : s.code = 0) (h : B.drop s.at_ = c :: r) (hc : c ≤ m) : octR m B s = (c, ⟨s.at_ + 1, 0, s.bad⟩) := by
  obtain ⟨h1, h2⟩ := drop_head h
  unfold octR
  rw [if_neg (by rw [h0]; simp), if_neg (by omega), h2, if_neg (by omega)]
theorem drop_nil_end {B : List Int} {a : Nat} (h : B.drop a = []) (ha : a ≤ B.length) : a = B.length := by
  have := congrArg List.length h
  simp at this
  omega
theorem octR_codec {m c : Int} (hc : c ≤ m) : Codec (octR m) [c] c := by
  refine ⟨octR_idle m, fun B s rest h0 ha h => octR_yes h0 h hc, fun B s p q h0 ha h hq hd => ?_⟩
  have hp : p = [] := by
    rcases p with _ | ⟨x, p⟩
    · rfl
    · have := congrArg List.length h
      rw [List.length_append, List.length_cons, List.length_cons, List.length_nil] at this
      exact absurd (List.eq_nil_of_length_eq_zero (by omega)) hq
  subst hp
  have := drop_nil_end hd ha
  rw [octR_end h0 (by omega)]
  exact ⟨rfl, by rw [this]⟩
theorem numGo_succ (start f i : Nat) (n : Int) (B : List Int) (s : Rs) : numGo start (f + 1) i n B s = if (octR 255 B s).2.code ≠ 0 then (0, (octR 255 B s).2)
    else if (octR 255 B s).1 < 128 then
      (if (0 < i ∧ (octR 255 B s).1 = 0) ∨ 2147483648 ≤ n + (octR 255 B s).1 % 128 * 128 ^ i then (0, failS 100 start (octR 255 B s).2) else (n + (octR 255 B s).1 % 128 * 128 ^ i, (octR 255 B s).2))
    else numGo start f (i + 1) (n + (octR 255 B s).1 % 128 * 128 ^ i) B (octR 255 B s).2 := rfl
theorem numR_idle : Idle numR := fun B s h => by
  unfold numR
  rw [numGo_succ, if_pos (by rw [octR_idle _ B s h]; exact h)]
  exact octR_idle _ B s h
theorem pow_step (n i : Nat) (acc : Int) : acc + ((n % 128 : Nat) : Int) * 128 ^ i + ((n / 128 : Nat) : Int) * 128 ^ (i + 1) = acc + (n : Int) * 128 ^ i := by
  have h : (n : Int) = ((n % 128 : Nat) : Int) + ((n / 128 : Nat) : Int) * 128 := by omega
  rw [Int.pow_succ, show ((n / 128 : Nat) : Int) * (128 ^ i * 128) = ((n / 128 : Nat) : Int) * 128 * 128 ^ i by rw [Int.mul_comm (128 ^ i) 128, ← Int.mul_assoc], Int.add_assoc, ← Int.add_mul, ← h]
theorem numGo_good (start : Nat) (B : List Int) : ∀ (f g i n : Nat) (acc : Int) (s : Rs) (rest : List Int), n < 128 ^ f → f ≤ g → (0 < n ∨ (i = 0 ∧ 0 < f)) → acc + (n : Int) * 128 ^ i < 2147483648 → s.code = 0 → s.at_ ≤ B.length → B.drop s.at_ = numF g n ++ rest →
    numGo start f i acc B s = (acc + (n : Int) * 128 ^ i, ⟨s.at_ + (numF g n).length, 0, s.bad⟩)
  | 0, g, i, n, acc, s, rest, hn, hg, hz, hb, h0, ha, hd => by
    simp at hn
    omega
  | f + 1, 0, i, n, acc, s, rest, hn, hg, hz, hb, h0, ha, hd => by omega
  | f + 1, g + 1, i, n, acc, s, rest, hn, hg, hz, hb, h0, ha, hd => by
    rw [numF] at hd ⊢
    by_cases h : n < 128
    · rw [if_pos h] at hd ⊢
      have ho := octR_yes (m := 255) h0 hd (by omega)
      rw [numGo_succ]
      simp only [ho]
      have e : (n : Int) % 128 = (n : Int) := by omega
      rw [if_neg (by simp), if_pos (by omega), e, if_neg (by omega)]
      rfl
    · rw [if_neg h] at hd ⊢
      rw [List.cons_append] at hd
      have ho := octR_yes (m := 255) h0 hd (by omega)
      rw [numGo_succ]
      simp only [ho]
      have e : ((n % 128 + 128 : Nat) : Int) % 128 = ((n % 128 : Nat) : Int) := by omega
      rw [if_neg (by simp), if_neg (by omega), e]
      obtain ⟨h1, h2⟩ := drop_more (l := [((n % 128 + 128 : Nat) : Int)]) (by rw [hd]; rfl) ha
      have hs := pow_step n i acc
      rw [numGo_good start B f g (i + 1) (n / 128) _ ⟨s.at_ + 1, 0, s.bad⟩ rest (by rw [Nat.pow_succ] at hn; omega) (by omega) (.inl (by omega)) (by rw [hs]; exact hb) rfl h2 h1, hs]
      simp only [List.length_cons]
      rw [Nat.add_assoc, Nat.add_comm 1]
theorem numGo_short (start : Nat) (B : List Int) : ∀ (f g i n : Nat) (acc : Int) (s : Rs) (p q : List Int), n < 128 ^ f → f ≤ g → (0 < n ∨ (i = 0 ∧ 0 < f)) → s.code = 0 → s.at_ ≤ B.length → numF g n = p ++ q → q ≠ [] → B.drop s.at_ = p →
    (numGo start f i acc B s).2.code = 6 ∧ (numGo start f i acc B s).2.bad = B.length
  | 0, g, i, n, acc, s, p, q, hn, hg, hz, h0, ha, he, hq, hd => by
    simp at hn
    omega
  | f + 1, 0, i, n, acc, s, p, q, hn, hg, hz, h0, ha, he, hq, hd => by omega
  | f + 1, g + 1, i, n, acc, s, p, q, hn, hg, hz, h0, ha, he, hq, hd => by
    rcases p with _ | ⟨x, p⟩
    · have := drop_nil_end hd ha
      have ho := octR_end (m := 255) h0 (by omega : B.length ≤ s.at_)
      rw [numGo_succ]
      simp only [ho]
      rw [if_pos (by simp)]
      exact ⟨rfl, by rw [this]⟩
    · rw [numF] at he
      by_cases h : n < 128
      · rw [if_pos h] at he
        have := congrArg List.length he
        rw [List.length_append, List.length_cons, List.length_cons, List.length_nil] at this
        exact absurd (List.eq_nil_of_length_eq_zero (by omega)) hq
      · rw [if_neg h, List.cons_append] at he
        injection he with hx he
        subst hx
        have ho := octR_yes (m := 255) h0 hd (by omega)
        rw [numGo_succ]
        simp only [ho]
        rw [if_neg (by simp), if_neg (by omega)]
        obtain ⟨h1, h2⟩ := drop_more (l := [((n % 128 + 128 : Nat) : Int)]) (r := p) (by rw [hd]; rfl) ha
        exact numGo_short start B f g (i + 1) (n / 128) _ ⟨s.at_ + 1, 0, s.bad⟩ p q (by rw [Nat.pow_succ] at hn; omega) (by omega) (.inl (by omega)) rfl h2 he hq h1
theorem numR_codec {n : Int} (h0 : 0 ≤ n) (h1 : n < 2147483648) : Codec numR (numB n) n := by
  obtain ⟨k, rfl⟩ := Int.eq_ofNat_of_zero_le h0
  refine ⟨numR_idle, fun B s rest hc ha hd => ?_, fun B s p q hc ha he hq hd => ?_⟩
  · have := numGo_good s.at_ B 5 10 0 k 0 s rest (by omega) (by omega) (.inr ⟨rfl, by omega⟩) (by omega) hc ha (by unfold numB at hd; simpa using hd)
    unfold numR numB
    rw [this]
    simp
  · exact numGo_short s.at_ B 5 10 0 k 0 s p q (by omega) (by omega) (.inr ⟨rfl, by omega⟩) hc ha (by unfold numB at he; simpa using he) hq hd
theorem unS_sgnN (n : Int) : unS (sgnN n) = n := by
  unfold unS sgnN
  split <;> split <;> omega
theorem sgnR_codec {n : Int} (h0 : -4096 ≤ n) (h1 : n ≤ 4096) : Codec sgnR (sgnB n) n := by
  have h : 0 ≤ sgnN n ∧ sgnN n < 2147483648 := by unfold sgnN; split <;> omega
  have := codec_map (numR_codec h.1 h.2) unS
  rw [unS_sgnN] at this
  exact this
theorem strB_len (s : ByteArray) : (strB s).length = s.size := by simp [strB]
theorem strOf_strB (s : ByteArray) : strOf (strB s) = s := by
  unfold strOf strB
  rw [List.map_map]
  have : ((fun c : Int => UInt8.ofNat c.toNat) ∘ fun c : UInt8 => (c.toNat : Int)) = id := by
    funext c
    simp
  rw [this, List.map_id]
theorem txtR_idle : Idle txtR := fun B s h => by
  unfold txtR
  rw [if_pos (by rw [numR_idle B s h]; exact h)]
  exact numR_idle B s h
theorem txtR_codec {s : ByteArray} (h : s.size < 2147483648) : Codec txtR (txtB s) s := by
  have hn := numR_codec (n := (s.size : Int)) (by omega) (by omega)
  have hl := strB_len s
  refine ⟨txtR_idle, fun B t rest hc ha hd => ?_, fun B t p q hc ha he hq hd => ?_⟩
  · unfold txtB at hd ⊢
    rw [List.append_assoc] at hd
    have hr := hn.good B t _ hc ha hd
    obtain ⟨h1, h2⟩ := drop_more hd ha
    have h3 := drop_more h1 h2
    unfold txtR
    simp only [hr]
    rw [if_neg (by simp), if_neg (by omega), h1]
    rw [Int.toNat_natCast, List.take_left' hl, strOf_strB, List.length_append, hl, Nat.add_assoc]
  · unfold txtB at he
    have key : ∀ p', p = numB s.size ++ p' → strB s = p' ++ q → (txtR B t).2.code = 6 ∧ (txtR B t).2.bad = B.length := fun p' e1 e2 => by
      rw [e1] at hd
      have hr := hn.good B t _ hc ha hd
      obtain ⟨h1, h2⟩ := drop_more hd ha
      unfold txtR
      simp only [hr]
      have e3 := congrArg List.length e2
      have e4 := congrArg List.length h1
      have e5 : q.length ≠ 0 := fun e => hq (List.eq_nil_of_length_eq_zero e)
      simp at e3 e4
      rw [if_neg (by simp), if_pos (by omega)]
      exact ⟨rfl, rfl⟩
    rcases List.append_eq_append_iff.1 he with ⟨a', e1, e2⟩ | ⟨c', e1, e2⟩
    · exact key a' e1 e2
    · by_cases hc' : c' = []
      · subst hc'
        exact key [] (by simpa using e1.symm) (by simpa using e2.symm)
      · obtain ⟨k1, k2⟩ := hn.short B t p c' hc ha e1 hc' hd
        unfold txtR
        rw [if_pos (by rw [k1]; decide)]
        exact ⟨k1, k2⟩
/-- numbers as they are written -/
def NumOk (n : Int) : Prop := 0 ≤ n ∧ n < 2147483648
structure ItFit (x : It) : Prop where
  k : x.k ≤ 127
  n : NumOk x.n
  d : NumOk x.d
  lo : NumOk x.lo
  hi : NumOk x.hi
theorem itR_idle : Idle itR := idle_bind (octR_idle _) fun _ => idle_bind numR_idle fun _ => idle_bind numR_idle fun _ => idle_bind numR_idle fun _ => idle_bind numR_idle fun _ => idle_pure _
theorem itR_codec {x : It} (h : ItFit x) : Codec itR (itB x) x := by
  unfold itR itB
  refine codec_bind (octR_codec h.k) ?_ (fun _ => idle_bind numR_idle fun _ => idle_bind numR_idle fun _ => idle_bind numR_idle fun _ => idle_bind numR_idle fun _ => idle_pure _)
  refine codec_bind (numR_codec h.n.1 h.n.2) ?_ (fun _ => idle_bind numR_idle fun _ => idle_bind numR_idle fun _ => idle_bind numR_idle fun _ => idle_pure _)
  refine codec_bind (numR_codec h.d.1 h.d.2) ?_ (fun _ => idle_bind numR_idle fun _ => idle_bind numR_idle fun _ => idle_pure _)
  refine codec_bind (numR_codec h.lo.1 h.lo.2) ?_ (fun _ => idle_bind numR_idle fun _ => idle_pure _)
  exact codec_map (numR_codec h.hi.1 h.hi.2) fun hi => (⟨x.k, x.n, x.d, x.lo, hi⟩ : It)
theorem manyR_succ {α : Type} (f : Rdr α) (n : Nat) (B : List Int) (s : Rs) : manyR f (n + 1) B s = if s.code ≠ 0 then ([], s) else ((f B s).1 :: (manyR f n B (f B s).2).1, (manyR f n B (f B s).2).2) := rfl
theorem manyR_idle {α : Type} (f : Rdr α) : ∀ n, Idle (manyR f n)
  | 0 => idle_pure _
  | n + 1 => fun B s h => by rw [manyR_succ, if_pos h]
theorem manyR_codec {α : Type} {f : Rdr α} (enc : α → List Int) : ∀ (l : List α), (∀ x ∈ l, Codec f (enc x) x) → Codec (manyR f l.length) (l.flatMap enc) l
  | [], _ => codec_pure []
  | x :: l, h => by
    have hx := h x (List.mem_cons_self ..)
    have ih := manyR_codec enc l fun y hy => h y (List.mem_cons_of_mem _ hy)
    have hb := codec_bind hx (codec_map ih fun l => x :: l) (g := fun a => rB (manyR f l.length) fun l => rP (a :: l)) (fun a => idle_bind (manyR_idle f _) fun _ => idle_pure _)
    refine codec_congr hb (manyR_idle f _) fun B s h0 => ?_
    rw [List.length_cons, manyR_succ, if_neg (by rw [h0]; simp)]
    exact ⟨rfl, fun _ => rfl⟩
/-- a node as it is written -/
structure NdFit (x : Nd) : Prop where
  kind : x.kind ≤ 127
  id : x.id.size < 2147483648
  cls : x.cls.size < 2147483648
  text : x.text.size < 2147483648
  kidl : x.kids.length < 2147483648
  kids : ∀ k ∈ x.kids, NumOk k
  iw : ItFit x.iw
  ih : ItFit x.ih
  gap : NumOk x.gap
  p0 : NumOk x.p0
  p1 : NumOk x.p1
  p2 : NumOk x.p2
  p3 : NumOk x.p3
  b : x.border ≤ 127 ∧ x.align ≤ 127 ∧ x.cross ≤ 127 ∧ x.wrap ≤ 127 ∧ x.flags ≤ 255
  fg : NumOk x.fg
  bg : NumOk x.bg
  ad : x.add ≤ 255 ∧ x.drop ≤ 255
  coll : x.cols.length < 2147483648
  cols : ∀ k ∈ x.cols, ItFit k
  pl : (-4096 ≤ x.x0 ∧ x.x0 ≤ 4096) ∧ (-4096 ≤ x.x1 ∧ x.x1 ≤ 4096) ∧ (-4096 ≤ x.x2 ∧ x.x2 ≤ 4096) ∧ (-4096 ≤ x.x3 ∧ x.x3 ≤ 4096)
/-- x with y's piece k -/
def mixP (x y : Nd) : Nat → Nd
  | 0 => { x with kind := y.kind }
  | 1 => { x with id := y.id }
  | 2 => { x with cls := y.cls }
  | 3 => { x with text := y.text }
  | 4 => { x with kids := y.kids }
  | 5 => { x with iw := y.iw }
  | 6 => { x with ih := y.ih }
  | 7 => { x with gap := y.gap }
  | 8 => { x with p0 := y.p0, p1 := y.p1, p2 := y.p2, p3 := y.p3 }
  | 9 => { x with border := y.border, align := y.align, cross := y.cross, wrap := y.wrap, flags := y.flags }
  | 10 => { x with fg := y.fg, bg := y.bg, add := y.add, drop := y.drop }
  | 11 => { x with cols := y.cols }
  | _ => { x with x0 := y.x0, x1 := y.x1, x2 := y.x2, x3 := y.x3 }
def mixTo (y : Nd) : Nat → Nd
  | 0 => zNd
  | k + 1 => mixP (mixTo y k) y k
theorem mix_all (y : Nd) : mixTo y 13 = y := by cases y; kernel_rfl
theorem sgnR_idle : Idle sgnR := idle_bind numR_idle fun _ => idle_pure _
theorem partR_idle (x : Nd) : ∀ k, Idle (partR x k)
  | 0 => by
    exact idle_bind (octR_idle _) fun _ => idle_pure _
  | 1 => by
    exact idle_bind txtR_idle fun _ => idle_pure _
  | 2 => by
    exact idle_bind txtR_idle fun _ => idle_pure _
  | 3 => by
    exact idle_bind txtR_idle fun _ => idle_pure _
  | 4 => by
    exact idle_bind numR_idle fun _ => idle_bind (manyR_idle _ _) fun _ => idle_pure _
  | 5 => by
    exact idle_bind itR_idle fun _ => idle_pure _
  | 6 => by
    exact idle_bind itR_idle fun _ => idle_pure _
  | 7 => by
    exact idle_bind numR_idle fun _ => idle_pure _
  | 8 => by
    exact idle_bind numR_idle fun _ => idle_bind numR_idle fun _ => idle_bind numR_idle fun _ => idle_bind numR_idle fun _ => idle_pure _
  | 9 => by
    exact idle_bind (octR_idle _) fun _ => idle_bind (octR_idle _) fun _ => idle_bind (octR_idle _) fun _ => idle_bind (octR_idle _) fun _ => idle_bind (octR_idle _) fun _ => idle_pure _
  | 10 => by
    exact idle_bind numR_idle fun _ => idle_bind numR_idle fun _ => idle_bind (octR_idle _) fun _ => idle_bind (octR_idle _) fun _ => idle_pure _
  | 11 => by
    exact idle_bind numR_idle fun _ => idle_bind (manyR_idle _ _) fun _ => idle_pure _
  | k + 12 => by
    exact idle_bind sgnR_idle fun _ => idle_bind sgnR_idle fun _ => idle_bind sgnR_idle fun _ => idle_bind sgnR_idle fun _ => idle_pure _
theorem partR_codec {x y : Nd} (h : NdFit y) : ∀ k, Codec (partR x k) (partB y k) (mixP x y k)
  | 0 => by
    exact codec_map (octR_codec h.kind) fun k => { x with kind := k }
  | 1 => by
    exact codec_map (txtR_codec h.id) fun k => { x with id := k }
  | 2 => by
    exact codec_map (txtR_codec h.cls) fun k => { x with cls := k }
  | 3 => by
    exact codec_map (txtR_codec h.text) fun k => { x with text := k }
  | 4 => by
    show Codec (rB numR fun n => rB (manyR numR n.toNat) fun l => rP { x with kids := l }) (numB y.kids.length ++ kidsB y.kids) ({ x with kids := y.kids })
    refine codec_bind (numR_codec (by omega) (by have := h.kidl; omega)) ?_ (fun _ => idle_bind (manyR_idle _ _) fun _ => idle_pure _)
    rw [Int.toNat_natCast]
    exact codec_map (manyR_codec numB y.kids fun k hk => numR_codec (h.kids k hk).1 (h.kids k hk).2) fun l => { x with kids := l }
  | 5 => by
    exact codec_map (itR_codec h.iw) fun k => { x with iw := k }
  | 6 => by
    exact codec_map (itR_codec h.ih) fun k => { x with ih := k }
  | 7 => by
    exact codec_map (numR_codec h.gap.1 h.gap.2) fun k => { x with gap := k }
  | 8 => by
    show Codec (rB numR fun a => rB numR fun b => rB numR fun c => rB numR fun d => rP { x with p0 := a, p1 := b, p2 := c, p3 := d }) (numB y.p0 ++ (numB y.p1 ++ (numB y.p2 ++ numB y.p3))) ({ x with p0 := y.p0, p1 := y.p1, p2 := y.p2, p3 := y.p3 })
    refine codec_bind (numR_codec h.p0.1 h.p0.2) ?_ (fun _ => idle_bind numR_idle fun _ => idle_bind numR_idle fun _ => idle_bind numR_idle fun _ => idle_pure _)
    refine codec_bind (numR_codec h.p1.1 h.p1.2) ?_ (fun _ => idle_bind numR_idle fun _ => idle_bind numR_idle fun _ => idle_pure _)
    refine codec_bind (numR_codec h.p2.1 h.p2.2) ?_ (fun _ => idle_bind numR_idle fun _ => idle_pure _)
    exact codec_map (numR_codec h.p3.1 h.p3.2) fun d => { x with p0 := y.p0, p1 := y.p1, p2 := y.p2, p3 := d }
  | 9 => by
    show Codec (rB (octR 127) fun a => rB (octR 127) fun b => rB (octR 127) fun c => rB (octR 127) fun d => rB (octR 255) fun e => rP { x with border := a, align := b, cross := c, wrap := d, flags := e }) ([y.border] ++ ([y.align] ++ ([y.cross] ++ ([y.wrap] ++ [y.flags])))) ({ x with border := y.border, align := y.align, cross := y.cross, wrap := y.wrap, flags := y.flags })
    obtain ⟨h1, h2, h3, h4, h5⟩ := h.b
    refine codec_bind (octR_codec h1) ?_ (fun _ => idle_bind (octR_idle _) fun _ => idle_bind (octR_idle _) fun _ => idle_bind (octR_idle _) fun _ => idle_bind (octR_idle _) fun _ => idle_pure _)
    refine codec_bind (octR_codec h2) ?_ (fun _ => idle_bind (octR_idle _) fun _ => idle_bind (octR_idle _) fun _ => idle_bind (octR_idle _) fun _ => idle_pure _)
    refine codec_bind (octR_codec h3) ?_ (fun _ => idle_bind (octR_idle _) fun _ => idle_bind (octR_idle _) fun _ => idle_pure _)
    refine codec_bind (octR_codec h4) ?_ (fun _ => idle_bind (octR_idle _) fun _ => idle_pure _)
    exact codec_map (octR_codec h5) fun e => { x with border := y.border, align := y.align, cross := y.cross, wrap := y.wrap, flags := e }
  | 10 => by
    show Codec (rB numR fun a => rB numR fun b => rB (octR 255) fun c => rB (octR 255) fun d => rP { x with fg := a, bg := b, add := c, drop := d }) (numB y.fg ++ (numB y.bg ++ ([y.add] ++ [y.drop]))) ({ x with fg := y.fg, bg := y.bg, add := y.add, drop := y.drop })
    refine codec_bind (numR_codec h.fg.1 h.fg.2) ?_ (fun _ => idle_bind numR_idle fun _ => idle_bind (octR_idle _) fun _ => idle_bind (octR_idle _) fun _ => idle_pure _)
    refine codec_bind (numR_codec h.bg.1 h.bg.2) ?_ (fun _ => idle_bind (octR_idle _) fun _ => idle_bind (octR_idle _) fun _ => idle_pure _)
    refine codec_bind (octR_codec h.ad.1) ?_ (fun _ => idle_bind (octR_idle _) fun _ => idle_pure _)
    exact codec_map (octR_codec h.ad.2) fun d => { x with fg := y.fg, bg := y.bg, add := y.add, drop := d }
  | 11 => by
    show Codec (rB numR fun n => rB (manyR itR n.toNat) fun l => rP { x with cols := l }) (numB y.cols.length ++ itsB y.cols) ({ x with cols := y.cols })
    refine codec_bind (numR_codec (by omega) (by have := h.coll; omega)) ?_ (fun _ => idle_bind (manyR_idle _ _) fun _ => idle_pure _)
    rw [Int.toNat_natCast]
    exact codec_map (manyR_codec itB y.cols fun k hk => itR_codec (h.cols k hk)) fun l => { x with cols := l }
  | k + 12 => by
    show Codec (rB sgnR fun a => rB sgnR fun b => rB sgnR fun c => rB sgnR fun d => rP { x with x0 := a, x1 := b, x2 := c, x3 := d }) (sgnB y.x0 ++ (sgnB y.x1 ++ (sgnB y.x2 ++ sgnB y.x3))) ({ x with x0 := y.x0, x1 := y.x1, x2 := y.x2, x3 := y.x3 })
    obtain ⟨h1, h2, h3, h4⟩ := h.pl
    refine codec_bind (sgnR_codec h1.1 h1.2) ?_ (fun _ => idle_bind sgnR_idle fun _ => idle_bind sgnR_idle fun _ => idle_bind sgnR_idle fun _ => idle_pure _)
    refine codec_bind (sgnR_codec h2.1 h2.2) ?_ (fun _ => idle_bind sgnR_idle fun _ => idle_bind sgnR_idle fun _ => idle_pure _)
    refine codec_bind (sgnR_codec h3.1 h3.2) ?_ (fun _ => idle_bind sgnR_idle fun _ => idle_pure _)
    exact codec_map (sgnR_codec h4.1 h4.2) fun d => { x with x0 := y.x0, x1 := y.x1, x2 := y.x2, x3 := d }
theorem partsR_idle : ∀ k, Idle (partsR k)
  | 0 => idle_pure _
  | k + 1 => idle_bind (partsR_idle k) fun x => partR_idle x k
theorem partsR_codec {y : Nd} (h : NdFit y) : ∀ k, Codec (partsR k) (partsTo y k) (mixTo y k)
  | 0 => codec_pure _
  | k + 1 => codec_bind (partsR_codec h k) (partR_codec h k) fun x => partR_idle x k
theorem ndR_codec {y : Nd} (h : NdFit y) : Codec ndR (ndB y) y := by
  have := partsR_codec h 13
  rwa [mix_all] at this
theorem failS_idle (c a : Int) (s : Rs) (h : s.code ≠ 0) : failS c a s = s := by unfold failS; rw [if_neg h]
theorem wantR_codec (i : Nat) {c : Int} (h0 : c ≠ 0) (h1 : c ≤ 255) : Codec (wantR i c) [c] () := by
  have ho := octR_codec h1
  refine ⟨fun B s h => ?_, fun B s rest hc ha hd => ?_, fun B s p q hc ha he hq hd => ?_⟩
  · unfold wantR
    have := ho.idle B s h
    simp only [this]
    split
    · rfl
    · exact failS_idle _ _ _ h
  · unfold wantR
    rw [ho.good B s rest hc ha hd]
    simp
  · obtain ⟨h1, h2⟩ := ho.short B s p q hc ha he hq hd
    unfold wantR
    simp only
    split
    · exact ⟨h1, h2⟩
    · rw [failS_idle _ _ _ (by rw [h1]; decide)]; exact ⟨h1, h2⟩
theorem wantR_idle (i : Nat) (c : Int) : Idle (wantR i c) := fun B s h => by
  unfold wantR
  have := octR_idle 255 B s h
  simp only [this]
  split
  · rfl
  · exact failS_idle _ _ _ h
def countR : Rdr Int := fun B s => ((numR B s).1, if (numR B s).1 = 0 ∨ 4096 < (numR B s).1 then failS 100 s.at_ (numR B s).2 else (numR B s).2)
theorem countR_idle : Idle countR := fun B s h => by
  unfold countR
  have := numR_idle B s h
  simp only [this]
  split
  · exact failS_idle _ _ _ h
  · rfl
theorem countR_codec {n : Nat} (h0 : 0 < n) (h1 : n ≤ 4096) : Codec countR (numB n) (n : Int) := by
  have hn := numR_codec (n := (n : Int)) (by omega) (by omega)
  refine ⟨countR_idle, fun B s rest hc ha hd => ?_, fun B s p q hc ha he hq hd => ?_⟩
  · unfold countR
    rw [hn.good B s rest hc ha hd]
    simp only
    rw [if_neg (by omega)]
  · obtain ⟨h1, h2⟩ := hn.short B s p q hc ha he hq hd
    unfold countR
    simp only
    split
    · rw [failS_idle _ _ _ (by rw [h1]; decide)]; exact ⟨h1, h2⟩
    · exact ⟨h1, h2⟩
theorem headR_eq : headR = rB (wantR 0 70) fun _ => rB (wantR 1 84) fun _ => rB (wantR 2 1) fun _ => countR := rfl
theorem headR_codec {n : Nat} (h0 : 0 < n) (h1 : n ≤ 4096) : Codec headR (headB n) (n : Int) := by
  rw [headR_eq]
  show Codec _ ([70] ++ ([84] ++ ([1] ++ numB n))) _
  refine codec_bind (wantR_codec 0 (by decide) (by decide)) ?_ (fun _ => idle_bind (wantR_idle _ _) fun _ => idle_bind (wantR_idle _ _) fun _ => countR_idle)
  refine codec_bind (wantR_codec 1 (by decide) (by decide)) ?_ (fun _ => idle_bind (wantR_idle _ _) fun _ => countR_idle)
  exact codec_bind (wantR_codec 2 (by decide) (by decide)) (countR_codec h0 h1) (fun _ => countR_idle)
theorem bodyR_codec {T : List Nd} (h0 : 0 < T.length) (h1 : T.length ≤ 4096) (hT : ∀ x ∈ T, NdFit x) : Codec bodyR (headB T.length ++ T.flatMap ndB) T := by
  refine codec_bind (headR_codec h0 h1) ?_ (fun _ => manyR_idle _ _)
  rw [Int.toNat_natCast]
  exact manyR_codec ndB T fun x hx => ndR_codec (hT x hx)
theorem encGo_some : ∀ (T : List Nd) (b r : List Int), b.length ≤ 1048576 → encGo T b = some r → r = b ++ T.flatMap ndB ∧ r.length ≤ 1048576
  | [], b, r, hb, h => by
    rw [encGo] at h
    injection h with h
    subst h
    exact ⟨by simp, hb⟩
  | x :: T, b, r, hb, h => by
    rw [encGo] at h
    split at h
    · cases h
    · rename_i hx
      obtain ⟨h1, h2⟩ := encGo_some T _ r (by omega) h
      exact ⟨by rw [h1, List.append_assoc, List.flatMap_cons], h2⟩
end Go.Proofs.Ytcihihncgpddfaa
