/- Trees: in a right tree each node but the root is a kid of exactly one node, and all are reached from the root; plain laws. -/
import Derived.Test.YtihjefncjkdnpaaDwp
import Derived.Test.YtihjefncjkdnpaaTrrF0
namespace Go.Proofs.Ytihjefncjkdnpaa
open Go.RowKit Go.Deep
set_option linter.unusedVariables false
set_option linter.unusedSimpArgs false

def kidsOf (T : List Nd) (m : Nat) : List Int := (T.getD m zNd).kids
theorem wrong_go {T : List Nd} {n : Nat} {x : Nd} {t : Nat → Bool} {d : Nat → Int} (h : wrongAt T n x t d = 0) : kidGo T.length n x.kids t d = some (after T.length n x t d) := by
  have h1 : ¬ (x.kind < 1 ∨ 11 < x.kind) := fun hb => by rw [wrong_kind hb] at h; cases h
  have h2 := wrong_names h
  have h3 : ¬ kidsBad T n x t d := fun hb => by rw [wrong_kids h1 h2 hb] at h; cases h
  unfold kidsBad at h3
  unfold after
  cases e : kidGo T.length n x.kids t d with
  | none => exact absurd (.inl (by rw [e]; rfl)) h3
  | some r => rfl
theorem res_all {T : List Nd} : ∀ (l : List Nd) (n : Nat), T.drop n = l → (resT T l n (stAt T n).1 (stAt T n).2).1 = 0 → (∀ m, n ≤ m → m < T.length → kidGo T.length m (kidsOf T m) (stAt T m).1 (stAt T m).2 = some (stAt T (m + 1))) ∧ (T.length ≤ n ∨ (endT T.length (stAt T T.length).1 (stAt T T.length).2).1 = 0)
  | [], n, hl, h => by
    have hn : T.length ≤ n := List.drop_eq_nil_iff.1 hl
    exact ⟨fun m h1 h2 => by omega, .inl hn⟩
  | x :: l, n, hl, h => by
    have hn : n < T.length := by
      rcases Nat.lt_or_ge n T.length with h' | h'
      · exact h'
      · rw [List.drop_eq_nil_iff.2 h'] at hl; cases hl
    rw [List.drop_eq_getElem_cons hn] at hl
    injection hl with hx hl
    have hxg : T.getD n zNd = x := by rw [List.getD_eq_getElem?_getD, List.getElem?_eq_getElem hn, ← hx]; rfl
    have hw : wrongAt T n x (stAt T n).1 (stAt T n).2 = 0 := by
      by_cases hw : wrongAt T n x (stAt T n).1 (stAt T n).2 = 0
      · exact hw
      · rw [resT_cons, if_neg hw] at h
        exact absurd h hw
    rw [resT_cons, if_pos hw] at h
    have hs : after T.length n x (stAt T n).1 (stAt T n).2 = stAt T (n + 1) := by rw [stAt, hxg]
    have hg := wrong_go hw
    rw [hs] at hg h
    obtain ⟨h1, h2⟩ := res_all l (n + 1) hl h
    refine ⟨fun m hm hm' => ?_, ?_⟩
    · by_cases e : m = n
      · subst e; unfold kidsOf; rw [hxg]; exact hg
      · exact h1 m (by omega) hm'
    · rcases h2 with h2 | h2
      · have e : n + 1 = T.length := by omega
        cases l with
        | nil => rw [resT, e] at h; exact .inr h
        | cons y l =>
          exfalso
          have := congrArg List.length hl
          rw [List.length_drop, List.length_cons] at this
          omega
      · exact .inr h2
theorem check_pos {T : List Nd} (h : (checkT T).1 = 0) : 0 < T.length := by
  unfold checkT at h
  by_cases hb : T.length = 0 ∨ 4096 < T.length
  · rw [if_pos hb] at h; cases h
  · omega
theorem check_all {T : List Nd} (h : (checkT T).1 = 0) : (∀ m, m < T.length → kidGo T.length m (kidsOf T m) (stAt T m).1 (stAt T m).2 = some (stAt T (m + 1))) ∧ (endT T.length (stAt T T.length).1 (stAt T T.length).2).1 = 0 := by
  have hp := check_pos h
  unfold checkT at h
  rw [if_neg (by intro hb; rw [if_pos hb] at h; cases h)] at h
  obtain ⟨h1, h2⟩ := res_all T 0 rfl h
  exact ⟨fun m hm => h1 m (Nat.zero_le _) hm, h2.resolve_left (by omega)⟩
theorem kidGo_taken {N n : Nat} : ∀ (ks : List Int) (t : Nat → Bool) (d : Nat → Int) (r : (Nat → Bool) × (Nat → Int)), kidGo N n ks t d = some r → ∀ k : Nat, (r.1 k = true ↔ t k = true ∨ (k : Int) ∈ ks) ∧ ((k : Int) ∈ ks → t k = false)
  | [], t, d, r, h, k => by
    rw [kidGo] at h
    injection h with h
    subst h
    exact ⟨⟨.inl, fun h => h.elim id (fun h => by cases h)⟩, fun h => by cases h⟩
  | a :: ks, t, d, r, h, k => by
    rw [kidGo] at h
    by_cases hb : a ≤ (n : Int) ∨ (N : Int) ≤ a ∨ t a.toNat = true
    · rw [if_pos hb] at h; cases h
    · rw [if_neg hb] at h
      obtain ⟨h1, h2⟩ := kidGo_taken ks _ _ r h k
      have ha : ¬ t a.toNat = true := fun e => hb (.inr (.inr e))
      by_cases e : k = a.toNat
      · have ek : (k : Int) = a := by omega
        subst e
        rw [upd_same] at h1 h2
        refine ⟨⟨fun _ => .inr (by rw [ek]; exact List.mem_cons_self ..), fun _ => h1.2 (.inl rfl)⟩, fun _ => by simpa using ha⟩
      · have ek : (k : Int) ≠ a := by omega
        rw [upd_other e] at h1 h2
        refine ⟨h1.trans ⟨fun h => h.imp id (List.mem_cons_of_mem _), fun h => h.imp id fun h => ?_⟩, fun h => h2 ?_⟩
        · exact (List.mem_cons.1 h).resolve_left ek
        · exact (List.mem_cons.1 h).resolve_left ek
theorem st_taken {T : List Nd} (h : (checkT T).1 = 0) (k : Nat) : ∀ n, n ≤ T.length → ((stAt T n).1 k = true ↔ ∃ m, m < n ∧ (k : Int) ∈ kidsOf T m)
  | 0, _ => by
    rw [stAt]
    exact ⟨fun h => (by cases h), fun ⟨m, h, _⟩ => (by omega)⟩
  | n + 1, hn => by
    rw [(kidGo_taken _ _ _ _ ((check_all h).1 n (by omega)) k).1, st_taken h k n (by omega)]
    constructor
    · rintro (⟨m, h1, h2⟩ | h1)
      · exact ⟨m, by omega, h2⟩
      · exact ⟨n, by omega, h1⟩
    · rintro ⟨m, h1, h2⟩
      by_cases e : m = n
      · subst e; exact .inr h2
      · exact .inl ⟨m, by omega, h2⟩
theorem kid_lt {T : List Nd} (h : (checkT T).1 = 0) {m k : Nat} (hm : m < T.length) (hk : (k : Int) ∈ kidsOf T m) : m < k ∧ k < T.length := by
  have := check_kids h m hm _ hk
  omega
/-- one parent at most -/
theorem kid_one {T : List Nd} (h : (checkT T).1 = 0) {m m' k : Nat} (hm : m < T.length) (hm' : m' < T.length) (hk : (k : Int) ∈ kidsOf T m) (hk' : (k : Int) ∈ kidsOf T m') : m = m' := by
  have go : ∀ a b, a < b → b < T.length → (k : Int) ∈ kidsOf T a → (k : Int) ∈ kidsOf T b → False := fun a b hab hb ha hb' => by
    have h1 := (st_taken h k b (by omega)).2 ⟨a, hab, ha⟩
    have h2 := (kidGo_taken _ _ _ _ ((check_all h).1 b hb) k).2 hb'
    rw [h1] at h2; cases h2
  rcases Nat.lt_trichotomy m m' with h' | h' | h'
  · exact (go m m' h' hm' hk hk').elim
  · exact h'
  · exact (go m' m h' hm hk' hk).elim
theorem lone_all {t : Nat → Bool} {fin : Int × Int} : ∀ f n, (loneFrom t fin f n).1 = 0 → ∀ k, n ≤ k → k < n + f → t k = true
  | 0, n, _, k, h1, h2 => by omega
  | f + 1, n, h, k, h1, h2 => by
    rw [loneFrom] at h
    by_cases e : t n = true
    · rw [if_pos e] at h
      by_cases ek : k = n
      · subst ek; exact e
      · exact lone_all f (n + 1) h k (by omega) (by omega)
    · rw [if_neg e] at h; cases h
/-- one parent at least -/
theorem kid_some {T : List Nd} (h : (checkT T).1 = 0) {k : Nat} (h1 : 1 ≤ k) (hk : k < T.length) : ∃ m, m < k ∧ (k : Int) ∈ kidsOf T m := by
  have h2 := (check_all h).2
  unfold endT at h2
  obtain ⟨m, hm, hmk⟩ := (st_taken h k T.length (Nat.le_refl _)).1 (lone_all _ _ h2 k h1 (by omega))
  exact ⟨m, (kid_lt h hm hmk).1, hmk⟩

/-- reached from n -/
inductive Rch (T : List Nd) : Nat → Nat → Prop
  | here (n : Nat) : Rch T n n
  | by {n m : Nat} (k : Nat) (h : (k : Int) ∈ kidsOf T n) (h' : Rch T k m) : Rch T n m
theorem Rch.on {T : List Nd} {n m : Nat} (h : Rch T n m) {k : Nat} (hk : (k : Int) ∈ kidsOf T m) : Rch T n k := by
  induction h with
  | here n => exact .by k hk (.here _)
  | «by» j hj _ ih => exact .by j hj (ih hk)
theorem rch_all {T : List Nd} (h : (checkT T).1 = 0) : ∀ (f k : Nat), k ≤ f → k < T.length → Rch T 0 k
  | 0, k, hf, _ => by rw [show k = 0 by omega]; exact .here _
  | f + 1, k, hf, hk => by
    by_cases e : k = 0
    · rw [e]; exact .here _
    · obtain ⟨m, hm, hmk⟩ := kid_some h (show 1 ≤ k by omega) hk
      exact (rch_all h f m (by omega) (by omega)).on hmk
/-- the kids of m have been told of m -/
def Told (T : List Nd) (f : Nat → Int) (m : Nat) : Prop := ∀ k : Nat, (k : Int) ∈ kidsOf T m → f k = m
theorem setK_at (n : Nat) : ∀ (ks : List Int) (f : Nat → Int), (∀ k ∈ ks, 0 ≤ k) → ∀ j : Nat, setK n ks f j = if (j : Int) ∈ ks then (n : Int) else f j
  | [], f, _, j => by rw [if_neg (by simp)]; rfl
  | a :: ks, f, h, j => by
    have ha := h a (List.mem_cons_self ..)
    have := setK_at n ks (upd f a.toNat (n : Int)) (fun k hk => h k (List.mem_cons_of_mem _ hk)) j
    unfold setK at this ⊢
    rw [List.foldl_cons, this]
    by_cases h1 : (j : Int) ∈ ks
    · rw [if_pos h1, if_pos (List.mem_cons_of_mem _ h1)]
    · rw [if_neg h1]
      by_cases e : j = a.toNat
      · subst e
        rw [upd_same, if_pos (by rw [show ((a.toNat : Nat) : Int) = a by omega]; exact List.mem_cons_self ..)]
      · rw [upd_other e, if_neg (fun h => (List.mem_cons.1 h).elim (fun h => e (by omega)) h1)]
/-- what a visit leaves -/
def Left (T : List Nd) (f0 f1 : Nat → Int) (S : Nat → Prop) : Prop := f1 0 = f0 0 ∧ (∀ m, m < T.length → Told T f0 m → Told T f1 m) ∧ ∀ m, S m → Told T f1 m
theorem down_left {T : List Nd} (h : (checkT T).1 = 0) : ∀ (fu n d : Nat) (g : Option (Nat → Int)), n < T.length → T.length - n ≤ fu → ∃ f1, downS (stepP T) T fu n d g = some f1 ∧ Left T (g.getD iniP) f1 (fun m => Rch T n m ∧ m < T.length)
  | 0, n, d, g, hn, hf => by omega
  | fu + 1, n, d, g, hn, hf => by
    have hks := check_kids h n hn
    rw [downS]
    show ∃ f1, (if (stepP T g n d).2 = true then _ else _) = some f1 ∧ _
    rw [if_pos (show (stepP T g n d).2 = true from rfl)]
    have fold : ∀ (ks : List Int), (∀ k ∈ ks, k ∈ kidsOf T n) → ∀ f0 : Nat → Int, ∃ f1, ks.foldl (fun g k => downS (stepP T) T fu k.toNat (d + 1) g) (some f0) = some f1 ∧ Left T f0 f1 (fun m => m < T.length ∧ ∃ k : Nat, (k : Int) ∈ ks ∧ Rch T k m) := by
      intro ks
      induction ks with
      | nil => exact fun _ f0 => ⟨f0, rfl, rfl, fun _ _ h => h, fun m ⟨_, k, hk, _⟩ => by cases hk⟩
      | cons a ks ih =>
        intro hs f0
        have ha := hks a (hs a (List.mem_cons_self ..))
        obtain ⟨f1, e1, l1, l2, l3⟩ := down_left h fu a.toNat (d + 1) (some f0) (by omega) (by omega)
        obtain ⟨f2, e2, r1, r2, r3⟩ := ih (fun k hk => hs k (List.mem_cons_of_mem _ hk)) f1
        refine ⟨f2, ?_, r1.trans l1, fun m hm hT => r2 m hm (l2 m hm hT), ?_⟩
        · rw [List.foldl_cons, e1, e2]
        · rintro m ⟨hm, k, hk, hr⟩
          rcases List.mem_cons.1 hk with e | hk
          · refine r2 m hm (l3 m ⟨?_, hm⟩)
            rw [show a.toNat = k by omega]; exact hr
          · exact r3 m ⟨hm, k, hk, hr⟩
    obtain ⟨f1, e1, l1, l2, l3⟩ := fold (kidsOf T n) (fun _ h => h) (setK n (kidsOf T n) (g.getD iniP))
    have hset := setK_at n (kidsOf T n) (g.getD iniP) (fun k hk => by have := hks k hk; omega)
    have htold : Told T (setK n (kidsOf T n) (g.getD iniP)) n := fun k hk => by rw [hset, if_pos hk]
    refine ⟨f1, e1, ?_, fun m hm hT => l2 m hm fun k hk => ?_, ?_⟩
    · rw [l1, hset, if_neg (fun h0 => by have := hks _ h0; omega)]
    · rw [hset]
      by_cases e : (k : Int) ∈ kidsOf T n
      · rw [if_pos e, kid_one h hn hm e hk]
      · rw [if_neg e]; exact hT k hk
    · rintro m ⟨hr, hm⟩
      cases hr with
      | here => exact l2 n hn htold
      | «by» k hk hr => exact l3 m ⟨hm, k, hk, hr⟩
/-- L names each node's parent -/
structure IsPar (T : List Nd) (L : List Int) : Prop where
  len : L.length = T.length
  root : L.getD 0 0 = -1
  told : ∀ m, m < T.length → ∀ k : Nat, (k : Int) ∈ kidsOf T m → L.getD k 0 = m
theorem IsPar.eq {T : List Nd} (h : (checkT T).1 = 0) {L L' : List Int} (p : IsPar T L) (p' : IsPar T L') : L = L' := by
  refine List.ext_getElem (p.len.trans p'.len.symm) fun i h1 h2 => ?_
  have e : L.getD i 0 = L'.getD i 0 := by
    by_cases e : i = 0
    · subst e; rw [p.root, p'.root]
    · have hi : i < T.length := by rw [← p.len]; exact h1
      obtain ⟨m, hm, hk⟩ := kid_some h (show 1 ≤ i by omega) hi
      rw [p.told m (by omega) i hk, p'.told m (by omega) i hk]
  rw [List.getD_eq_getElem?_getD, List.getD_eq_getElem?_getD, List.getElem?_eq_getElem h1, List.getElem?_eq_getElem h2] at e
  exact e
theorem range_getD (f : Nat → Int) (N k : Nat) (hk : k < N) : ((List.range N).map f).getD k 0 = f k := by
  rw [List.getD_eq_getElem?_getD, List.getElem?_eq_getElem (by simpa using hk)]
  simp
theorem parL_is {T : List Nd} (h : (checkT T).1 = 0) : IsPar T (parL T) := by
  have hp := check_pos h
  obtain ⟨f1, e1, l1, l2, l3⟩ := down_left h T.length 0 1 none hp (by omega)
  have e : parL T = (List.range T.length).map f1 := by
    unfold parL walkS
    rw [if_pos h, e1]
  rw [e]
  refine ⟨by simp, ?_, fun m hm k hk => ?_⟩
  · rw [range_getD _ _ _ hp, l1]; rfl
  · rw [range_getD _ _ _ (kid_lt h hm hk).2]
    exact l3 m ⟨rch_all h m m (Nat.le_refl _) hm, hm⟩ k hk
/-- a parent lies below -/
theorem IsPar.low {T : List Nd} (h : (checkT T).1 = 0) {L : List Int} (p : IsPar T L) {k : Nat} (hk : k < T.length) : -1 ≤ L.getD k 0 ∧ L.getD k 0 < k := by
  by_cases e : k = 0
  · subst e; rw [p.root]; omega
  · obtain ⟨m, hm, hmk⟩ := kid_some h (show 1 ≤ k by omega) hk
    rw [p.told m (by omega) k hmk]; omega
end Go.Proofs.Ytihjefncjkdnpaa
