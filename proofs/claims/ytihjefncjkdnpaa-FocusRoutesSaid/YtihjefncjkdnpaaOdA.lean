/- Trees: the paint order, in plain Lean: each node once, each behind its parent. -/
import Derived.Test.YtihjefncjkdnpaaDwq
namespace Go.Proofs.Ytihjefncjkdnpaa
open Go.RowKit Go.Deep
set_option linter.unusedVariables false
set_option linter.unusedSimpArgs false

/-- the nodes below n, n ahead of all -/
def pre (T : List Nd) : Nat → Nat → List Nat
  | 0, _ => []
  | f + 1, n => n :: (kidsOf T n).flatMap fun k => pre T f k.toNat
def ordN (T : List Nd) : List Nat := if (checkT T).1 = 0 then pre T T.length 0 else []
/-- what Order tells -/
def ordL (T : List Nd) : List Int := (ordN T).map Int.ofNat
def stepO (g : List Int) (n d : Nat) : List Int × Bool := (g ++ [(n : Int)], true)
theorem downO (T : List Nd) : ∀ (f n d : Nat) (g : List Int), downS stepO T f n d g = g ++ (pre T f n).map Int.ofNat
  | 0, n, d, g => by simp [downS, pre]
  | f + 1, n, d, g => by
    rw [downS, if_pos (show (stepO g n d).2 = true from rfl)]
    have fold : ∀ (ks : List Int) (g : List Int), ks.foldl (fun g k => downS stepO T f k.toNat (d + 1) g) g = g ++ (ks.flatMap fun k => pre T f k.toNat).map Int.ofNat := by
      intro ks
      induction ks with
      | nil => intro g; simp
      | cons a ks ih => intro g; rw [List.foldl_cons, ih, downO T f]; simp
    show (kidsOf T n).foldl _ (g ++ [(n : Int)]) = _
    rw [fold, pre]
    simp
theorem walkO (T : List Nd) : walkS stepO T [] = ordL T := by
  unfold walkS ordL ordN
  split
  · rw [downO]; rfl
  · rfl

theorem Rch.trans {T : List Nd} {a b c : Nat} (h : Rch T a b) (h' : Rch T b c) : Rch T a c := by
  induction h with
  | here n => exact h'
  | «by» k hk _ ih => exact .by k hk (ih h')
/-- what is reached lies behind -/
theorem Rch.le {T : List Nd} (hc : (checkT T).1 = 0) {n m : Nat} (h : Rch T n m) (hn : n < T.length) : n ≤ m ∧ m < T.length := by
  induction h with
  | here n => exact ⟨Nat.le_refl _, hn⟩
  | «by» k hk _ ih =>
    have := kid_lt hc hn hk
    have := ih this.2
    omega
/-- reached, and another one: by way of its parent -/
theorem Rch.last {T : List Nd} {n m : Nat} (h : Rch T n m) (hne : n ≠ m) : ∃ q, Rch T n q ∧ (m : Int) ∈ kidsOf T q := by
  induction h with
  | here n => exact absurd rfl hne
  | «by» k hk h' ih =>
    rename_i n m
    by_cases e : k = m
    · subst e; exact ⟨n, .here n, hk⟩
    · obtain ⟨q, hq, hm⟩ := ih e
      exact ⟨q, .by k hk hq, hm⟩
/-- two that reach one: one of them reaches the other -/
theorem rch_line {T : List Nd} (hc : (checkT T).1 = 0) {a b : Nat} (ha : a < T.length) (hb : b < T.length) : ∀ (f m : Nat), m ≤ f → Rch T a m → Rch T b m → Rch T a b ∨ Rch T b a
  | f, m, hf, h1, h2 => by
    by_cases ea : a = m
    · subst ea; exact .inr h2
    by_cases eb : b = m
    · subst eb; exact .inl h1
    obtain ⟨q, hq, hm⟩ := h1.last ea
    obtain ⟨q', hq', hm'⟩ := h2.last eb
    have l1 := hq.le hc ha
    have l2 := hq'.le hc hb
    obtain rfl := kid_one hc l1.2 l2.2 hm hm'
    have l3 := kid_lt hc l1.2 hm
    obtain ⟨g, rfl⟩ : ∃ g, f = g + 1 := ⟨f - 1, by omega⟩
    exact rch_line hc ha hb g q (by omega) hq hq'
theorem kidGo_nodup {N n : Nat} : ∀ (ks : List Int) (t : Nat → Bool) (d : Nat → Int), (kidGo N n ks t d).isSome = true → ks.Nodup
  | [], _, _, _ => List.nodup_nil
  | a :: ks, t, d, h => by
    rw [kidGo] at h
    by_cases hb : a ≤ (n : Int) ∨ (N : Int) ≤ a ∨ t a.toNat = true
    · rw [if_pos hb] at h; cases h
    · rw [if_neg hb] at h
      refine List.nodup_cons.2 ⟨fun ha => ?_, kidGo_nodup ks _ _ h⟩
      obtain ⟨r, hr⟩ := Option.isSome_iff_exists.1 h
      have := (kidGo_taken ks _ _ r hr a.toNat).2 (by rwa [show ((a.toNat : Nat) : Int) = a by omega])
      rw [upd_same] at this
      cases this
theorem kids_nodup {T : List Nd} (hc : (checkT T).1 = 0) {m : Nat} (hm : m < T.length) : (kidsOf T m).Nodup :=
  kidGo_nodup _ _ _ (by rw [(check_all hc).1 m hm]; rfl)
theorem kid_nat {T : List Nd} (hc : (checkT T).1 = 0) {m : Nat} (hm : m < T.length) {k : Int} (hk : k ∈ kidsOf T m) : ∃ q : Nat, k = (q : Int) ∧ m < q ∧ q < T.length := by
  have := check_kids hc m hm k hk
  exact ⟨k.toNat, by omega, by omega, by omega⟩
theorem pre_mem {T : List Nd} (hc : (checkT T).1 = 0) : ∀ (f n : Nat), n < T.length → T.length - n ≤ f → ∀ m, m ∈ pre T f n ↔ Rch T n m
  | 0, n, hn, hf, m => by omega
  | f + 1, n, hn, hf, m => by
    rw [pre, List.mem_cons, List.mem_flatMap]
    constructor
    · rintro (rfl | ⟨k, hk, hm⟩)
      · exact .here _
      · obtain ⟨q, rfl, h1, h2⟩ := kid_nat hc hn hk
        rw [Int.toNat_natCast] at hm
        exact .by q hk ((pre_mem hc f q h2 (by omega) m).1 hm)
    · intro h
      cases h with
      | here => exact .inl rfl
      | «by» k hk h' =>
        have h2 := kid_lt hc hn hk
        exact .inr ⟨k, hk, by rw [Int.toNat_natCast]; exact (pre_mem hc f k h2.2 (by omega) m).2 h'⟩
theorem pre_nodup {T : List Nd} (hc : (checkT T).1 = 0) : ∀ (f n : Nat), n < T.length → T.length - n ≤ f → (pre T f n).Nodup
  | 0, n, hn, hf => by omega
  | f + 1, n, hn, hf => by
    rw [pre]
    have fold : ∀ (ks : List Int), ks.Nodup → (∀ k ∈ ks, k ∈ kidsOf T n) → (ks.flatMap fun k => pre T f k.toNat).Nodup := by
      intro ks
      induction ks with
      | nil => exact fun _ _ => by simp
      | cons a ks ih =>
        intro hd hs
        obtain ⟨q, rfl, h1, h2⟩ := kid_nat hc hn (hs a (List.mem_cons_self ..))
        obtain ⟨hna, hd⟩ := List.nodup_cons.1 hd
        rw [List.flatMap_cons, Int.toNat_natCast]
        refine List.nodup_append.2 ⟨pre_nodup hc f q h2 (by omega), ih hd fun k hk => hs k (List.mem_cons_of_mem _ hk), fun x hx y hy e => ?_⟩
        subst e
        obtain ⟨k, hk, hx'⟩ := List.mem_flatMap.1 hy
        obtain ⟨q', rfl, h1', h2'⟩ := kid_nat hc hn (hs k (List.mem_cons_of_mem _ hk))
        rw [Int.toNat_natCast] at hx'
        have r1 := (pre_mem hc f q h2 (by omega) x).1 hx
        have r2 := (pre_mem hc f q' h2' (by omega) x).1 hx'
        have hne : q ≠ q' := fun e => hna (by rw [e]; exact hk)
        have no : ∀ a b : Nat, a ≠ b → a < T.length → n < a → (b : Int) ∈ kidsOf T n → Rch T a b → False := fun a b hab ha hna hb hr => by
          obtain ⟨p, hp, hbp⟩ := hr.last hab
          have hl := hp.le hc ha
          have := kid_one hc hl.2 hn hbp hb
          omega
        rcases rch_line hc h2 h2' x x (Nat.le_refl _) r1 r2 with h | h
        · exact no q q' hne h2 h1 (hs _ (List.mem_cons_of_mem _ hk)) h
        · exact no q' q (Ne.symm hne) h2' h1' (hs _ (List.mem_cons_self ..)) h
    refine List.nodup_cons.2 ⟨fun h => ?_, fold (kidsOf T n) (kids_nodup hc hn) (fun _ h => h)⟩
    obtain ⟨k, hk, hm⟩ := List.mem_flatMap.1 h
    obtain ⟨q, rfl, h1, h2⟩ := kid_nat hc hn hk
    rw [Int.toNat_natCast] at hm
    have := ((pre_mem hc f q h2 (by omega) n).1 hm).le hc h2
    omega
theorem ordN_wrong {T : List Nd} (h : (checkT T).1 ≠ 0) : ordN T = [] := by unfold ordN; rw [if_neg h]
theorem ordL_wrong {T : List Nd} (h : (checkT T).1 ≠ 0) : ordL T = [] := by unfold ordL; rw [ordN_wrong h]; rfl
theorem ordN_mem {T : List Nd} (h : (checkT T).1 = 0) (m : Nat) : m ∈ ordN T ↔ m < T.length := by
  unfold ordN
  rw [if_pos h, pre_mem h _ _ (check_pos h) (by omega)]
  exact ⟨fun hr => (hr.le h (check_pos h)).2, fun hm => rch_all h m m (Nat.le_refl _) hm⟩
theorem ordN_nodup (T : List Nd) : (ordN T).Nodup := by
  unfold ordN
  split
  · rename_i h; exact pre_nodup h _ _ (check_pos h) (by omega)
  · exact List.nodup_nil
theorem ordN_lt (T : List Nd) : ∀ m ∈ ordN T, m < T.length := fun m hm => by
  by_cases h : (checkT T).1 = 0
  · exact (ordN_mem h m).1 hm
  · rw [ordN_wrong h] at hm; cases hm
theorem nodup_le : ∀ (n : Nat) (l : List Nat), l.Nodup → (∀ x ∈ l, x < n) → l.length ≤ n
  | 0, l, _, h => by
    cases l with
    | nil => exact Nat.le_refl _
    | cons a l => have := h a (List.mem_cons_self ..); omega
  | n + 1, l, hd, h => by
    have h1 := nodup_le n (l.erase n) (hd.erase n) (fun x hx => by
      obtain ⟨hne, hm⟩ := (hd.mem_erase_iff).1 hx
      have := h x hm
      omega)
    have h2 := List.length_erase (a := n) (l := l)
    split at h2 <;> omega
theorem all_le : ∀ (n : Nat) (l : List Nat), (∀ x, x < n → x ∈ l) → n ≤ l.length
  | 0, l, _ => Nat.zero_le _
  | n + 1, l, h => by
    have h1 := all_le n (l.erase n) (fun x hx => (List.mem_erase_of_ne (by omega)).2 (h x (by omega)))
    have h2 := List.length_erase_of_mem (h n (by omega))
    have h3 := List.length_pos_of_mem (h n (by omega))
    omega
theorem ordN_len {T : List Nd} (h : (checkT T).1 = 0) : (ordN T).length = T.length := by
  have h1 := nodup_le T.length (ordN T) (ordN_nodup T) (fun x hx => (ordN_mem h x).1 hx)
  have h2 := all_le T.length (ordN T) (fun x hx => (ordN_mem h x).2 hx)
  omega
theorem ordN_le (T : List Nd) : (ordN T).length ≤ T.length ∧ (ordN T).length ≤ 4096 := by
  by_cases h : (checkT T).1 = 0
  · rw [ordN_len h]; exact ⟨Nat.le_refl _, (check_len h).2⟩
  · rw [ordN_wrong h]; simp
theorem ordL_len (T : List Nd) : (ordL T).length = (ordN T).length := by simp [ordL]
theorem ordL_get {T : List Nd} {i : Nat} (hi : i < (ordL T).length) : ∃ q : Nat, (ordL T).getD i 0 = (q : Int) ∧ q < T.length ∧ (ordN T)[i]? = some q := by
  have hi' : i < (ordN T).length := by rwa [ordL_len] at hi
  refine ⟨(ordN T)[i], ?_, ordN_lt T _ (List.getElem_mem hi'), List.getElem?_eq_getElem hi'⟩
  rw [List.getD_eq_getElem?_getD, List.getElem?_eq_getElem hi]
  simp [ordL]
section
variable {α : Type} {step : List α → Nat → Nat → List α × Bool} (one : ∀ g n d, (step g n d).1.length = g.length + 1) (T : List Nd)
include one
theorem len_up : ∀ (f n d : Nat) (g : List α), g.length ≤ (downS step T f n d g).length ∧ (downS step T f n d g).length ≤ g.length + (pre T f n).length
  | 0, n, d, g => by rw [downS, pre]; simp
  | f + 1, n, d, g => by
    rw [downS, pre]
    have fold : ∀ (ks : List Int) (g : List α), g.length ≤ (ks.foldl (fun g k => downS step T f k.toNat (d + 1) g) g).length ∧ (ks.foldl (fun g k => downS step T f k.toNat (d + 1) g) g).length ≤ g.length + (ks.flatMap fun k => pre T f k.toNat).length := by
      intro ks
      induction ks with
      | nil => intro g; simp
      | cons a ks ih =>
        intro g
        have h1 := len_up f a.toNat (d + 1) g
        have h2 := ih (downS step T f a.toNat (d + 1) g)
        rw [List.foldl_cons, List.flatMap_cons, List.length_append]
        omega
    have h0 := one g n d
    rw [List.length_cons]
    split
    · have := fold (kidsOf T n) (step g n d).1
      unfold kidsOf at *
      omega
    · omega
theorem len_walk (g0 : List α) (h0 : g0.length = 0) : (walkS step T g0).length ≤ T.length ∧ (walkS step T g0).length ≤ 4096 := by
  unfold walkS
  split
  · rename_i h
    have h1 := (len_up one T T.length 0 1 g0).2
    have h2 : pre T T.length 0 = ordN T := by unfold ordN; rw [if_pos h]
    have := ordN_le T
    rw [h2] at h1
    omega
  · omega
end
/-- the visits, none below the nodes of stop -/
def stepV (stop : List Int) (g : List (Int × Int)) (n d : Nat) : List (Int × Int) × Bool := (g ++ [((n : Int), (d : Int))], !(stop.any fun s => decide (s = (n : Int))))
def visL (T : List Nd) (stop : List Int) : List (Int × Int) := walkS (stepV stop) T []
theorem stepV_one (stop : List Int) (g : List (Int × Int)) (n d : Nat) : (stepV stop g n d).1.length = g.length + 1 := by simp [stepV]
theorem stepO_one (g : List Int) (n d : Nat) : (stepO g n d).1.length = g.length + 1 := by simp [stepO]
theorem downV (T : List Nd) : ∀ (f n d : Nat) (g : List (Int × Int)), (downS (stepV []) T f n d g).map Prod.fst = downS stepO T f n d (g.map Prod.fst)
  | 0, n, d, g => rfl
  | f + 1, n, d, g => by
    rw [downS, downS, if_pos (show (stepV [] g n d).2 = true from rfl), if_pos (show (stepO (g.map Prod.fst) n d).2 = true from rfl)]
    have fold : ∀ (ks : List Int) (g : List (Int × Int)), (ks.foldl (fun g k => downS (stepV []) T f k.toNat (d + 1) g) g).map Prod.fst = ks.foldl (fun g k => downS stepO T f k.toNat (d + 1) g) (g.map Prod.fst) := by
      intro ks
      induction ks with
      | nil => intro g; rfl
      | cons a ks ih => intro g; rw [List.foldl_cons, List.foldl_cons, ih, downV T f]
    rw [fold]
    simp [stepV, stepO]
theorem visL_ord (T : List Nd) : (visL T []).map Prod.fst = ordL T := by
  rw [← walkO]
  unfold visL walkS
  split
  · rw [downV]; rfl
  · rfl
/-- the node of an id -/
def idxF (T : List Nd) (id : ByteArray) : Int := match T.findIdx? (fun y => decide (y.id = id)) with
  | some i => (i : Int)
  | none => -1
def findR (T : List Nd) (id : ByteArray) : Int := if (checkT T).1 = 0 ∧ 0 < id.size then idxF T id else -1
def stepF (T : List Nd) (id : ByteArray) (g : Int) (n d : Nat) : Int × Bool := (if (T.getD n zNd).id = id then (n : Int) else g, decide ((if (T.getD n zNd).id = id then (n : Int) else g) < 0))
theorem idxF_hit {T : List Nd} {id : ByteArray} {i : Nat} (hi : i < T.length) (h : (T.getD i zNd).id = id) (hb : ∀ j, j < i → (T.getD j zNd).id ≠ id) : idxF T id = i := by
  have e : T.findIdx? (fun y => decide (y.id = id)) = some i := by
    rw [List.findIdx?_eq_some_iff_getElem]
    refine ⟨hi, ?_, fun j hj => ?_⟩
    · rw [List.getD_eq_getElem?_getD, List.getElem?_eq_getElem hi] at h
      simpa using h
    · have := hb j hj
      rw [List.getD_eq_getElem?_getD, List.getElem?_eq_getElem (by omega)] at this
      simpa using this
  unfold idxF
  rw [e]
theorem idxF_miss {T : List Nd} {id : ByteArray} (h : ∀ j, j < T.length → (T.getD j zNd).id ≠ id) : idxF T id = -1 := by
  have e : T.findIdx? (fun y => decide (y.id = id)) = none := by
    rw [List.findIdx?_eq_none_iff]
    intro y hy
    obtain ⟨j, hj, rfl⟩ := List.getElem_of_mem hy
    have := h j hj
    rw [List.getD_eq_getElem?_getD, List.getElem?_eq_getElem hj] at this
    simpa using this
  unfold idxF
  rw [e]
theorem findR_range (T : List Nd) (id : ByteArray) : -1 ≤ findR T id ∧ findR T id < (T.length : Int) ∧ (0 ≤ findR T id → (checkT T).1 = 0 ∧ 0 < id.size ∧ (T.getD (findR T id).toNat zNd).id = id) := by
  unfold findR
  split
  · rename_i h
    unfold idxF
    cases e : T.findIdx? (fun y => decide (y.id = id)) with
    | none => simp only; exact ⟨by omega, by omega, fun h => by omega⟩
    | some i =>
      rw [List.findIdx?_eq_some_iff_getElem] at e
      obtain ⟨hi, h1, _⟩ := e
      refine ⟨by simp only; omega, by simp only; omega, fun _ => ⟨h.1, h.2, ?_⟩⟩
      simp only [Int.toNat_natCast]
      rw [List.getD_eq_getElem?_getD, List.getElem?_eq_getElem hi]
      simpa using h1
  · exact ⟨by omega, by omega, fun h => by omega⟩
/-- one node at most has an id -/
theorem id_one {T : List Nd} (h : (checkT T).1 = 0) {id : ByteArray} (h0 : 0 < id.size) {i j : Nat} (hi : i < T.length) (hj : j < T.length) (h1 : (T.getD i zNd).id = id) (h2 : (T.getD j zNd).id = id) : i = j := by
  by_cases e : i = j
  · exact e
  · exact absurd (by rw [h1, h2]) (check_ids h i j hi hj e (by rw [h1]; exact h0))
theorem downF {T : List Nd} (h : (checkT T).1 = 0) {id : ByteArray} (h0 : 0 < id.size) : ∀ (f n d : Nat) (g : Int), n < T.length → T.length - n ≤ f → (0 ≤ g → ∃ q : Nat, g = q ∧ q < T.length ∧ (T.getD q zNd).id = id) → (0 ≤ g → downS (stepF T id) T f n d g = g) ∧ (g < 0 → (∀ q : Nat, Rch T n q → q < T.length → (T.getD q zNd).id = id → downS (stepF T id) T f n d g = q) ∧ ((∀ q : Nat, Rch T n q → (T.getD q zNd).id ≠ id) → downS (stepF T id) T f n d g = g))
  | 0, n, d, g, hn, hf, hq => by clear hq; omega
  | f + 1, n, d, g, hn, hf, hq => by
    have hks := check_kids h n hn
    -- the kids
    have fold : ∀ (ks : List Int), (∀ k ∈ ks, k ∈ kidsOf T n) → ∀ g : Int, (0 ≤ g → ∃ q : Nat, g = q ∧ q < T.length ∧ (T.getD q zNd).id = id) → (0 ≤ g → ks.foldl (fun g k => downS (stepF T id) T f k.toNat (d + 1) g) g = g) ∧ (g < 0 → (∀ q : Nat, (∃ k : Nat, (k : Int) ∈ ks ∧ Rch T k q) → q < T.length → (T.getD q zNd).id = id → ks.foldl (fun g k => downS (stepF T id) T f k.toNat (d + 1) g) g = q) ∧ ((∀ k q : Nat, (k : Int) ∈ ks → Rch T k q → (T.getD q zNd).id ≠ id) → ks.foldl (fun g k => downS (stepF T id) T f k.toNat (d + 1) g) g = g)) := by
      intro ks
      induction ks with
      | nil => exact fun _ g _ => ⟨fun _ => rfl, fun _ => ⟨fun q ⟨k, hk, _⟩ => (by cases hk), fun _ => rfl⟩⟩
      | cons a ks ih =>
        intro hs g hq
        obtain ⟨k, rfl, hk1, hk2⟩ := kid_nat h hn (hs a (List.mem_cons_self ..))
        have hs' := fun k hk => hs k (List.mem_cons_of_mem _ hk)
        have hd := downF h h0 f k (d + 1) g hk2 (by clear hq ih; omega) hq
        refine ⟨fun hg => ?_, fun hg => ⟨fun q hkq hqN hid => ?_, fun hno => ?_⟩⟩
        · rw [List.foldl_cons, Int.toNat_natCast, hd.1 hg]
          exact (ih hs' g hq).1 hg
        · rw [List.foldl_cons, Int.toNat_natCast]
          by_cases hr : Rch T k q
          · rw [(hd.2 hg).1 q hr hqN hid]
            exact (ih hs' (q : Int) (fun _ => ⟨q, rfl, hqN, hid⟩)).1 (by omega)
          · have hno : ∀ q' : Nat, Rch T k q' → (T.getD q' zNd).id ≠ id := fun q' hr' hid' => by
              have := id_one h h0 (hr'.le h hk2).2 hqN hid' hid
              subst this
              exact hr hr'
            rw [(hd.2 hg).2 hno]
            obtain ⟨k', hk', hr'⟩ := hkq
            refine ((ih hs' g hq).2 hg).1 q ⟨k', ?_, hr'⟩ hqN hid
            rcases List.mem_cons.1 hk' with e | e
            · exact absurd (by rw [← show k' = k by omega]; exact hr') hr
            · exact e
        · rw [List.foldl_cons, Int.toNat_natCast, (hd.2 hg).2 (fun q hr => hno k q (List.mem_cons_self ..) hr)]
          exact ((ih hs' g hq).2 hg).2 fun k' q hk' hr => hno k' q (List.mem_cons_of_mem _ hk') hr
    rw [downS]
    have hF := fold (kidsOf T n) (fun _ h => h)
    by_cases hid : (T.getD n zNd).id = id
    · have e : stepF T id g n d = ((n : Int), false) := by
        unfold stepF; rw [if_pos hid]; simp
      rw [e]
      simp only [Bool.false_eq_true, if_false]
      refine ⟨fun hg => ?_, fun hg => ⟨fun q hr hqN hid' => ?_, fun hno => absurd hid (hno n (.here n))⟩⟩
      · obtain ⟨q, rfl, hqN, hid'⟩ := hq hg
        rw [id_one h h0 hn hqN hid hid']
      · rw [id_one h h0 hn hqN hid hid']
    · have e : stepF T id g n d = (g, decide (g < 0)) := by
        unfold stepF; rw [if_neg hid]
      rw [e]
      refine ⟨fun hg => ?_, fun hg => ⟨fun q hr hqN hid' => ?_, fun hno => ?_⟩⟩
      · simp only [decide_eq_true_eq]
        rw [if_neg (by omega)]
      · simp only [decide_eq_true_eq]
        rw [if_pos hg]
        cases hr with
        | here => exact absurd hid' hid
        | «by» k hk hr' => exact ((hF g hq).2 hg).1 q ⟨k, hk, hr'⟩ hqN hid'
      · simp only [decide_eq_true_eq]
        rw [if_pos hg]
        exact ((hF g hq).2 hg).2 fun k q hk hr => hno q (.by k hk hr)
theorem walkF (T : List Nd) (id : ByteArray) (h0 : 0 < id.size) : walkS (stepF T id) T (-1) = findR T id := by
  unfold walkS findR
  by_cases h : (checkT T).1 = 0
  · rw [if_pos h, if_pos ⟨h, h0⟩]
    have hp := check_pos h
    have hd := (downF h h0 T.length 0 1 (-1) hp (by omega) (fun h => by omega)).2 (by omega)
    by_cases he : ∃ q : Nat, q < T.length ∧ (T.getD q zNd).id = id
    · obtain ⟨q, hq, hid⟩ := he
      rw [hd.1 q (rch_all h q q (Nat.le_refl _) hq) hq hid]
      exact (idxF_hit hq hid fun j hj hid' => by have := id_one h h0 hq (show j < T.length by omega) hid hid'; omega).symm
    · rw [hd.2 fun q hr hid => he ⟨q, (hr.le h hp).2, hid⟩]
      exact (idxF_miss fun j hj hid => he ⟨j, hj, hid⟩).symm
  · rw [if_neg h, if_neg (fun e => h e.1)]
end Go.Proofs.Ytihjefncjkdnpaa
