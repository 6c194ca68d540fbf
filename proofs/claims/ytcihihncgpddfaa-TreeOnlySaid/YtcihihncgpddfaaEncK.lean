/- Laws of a tree's bytes: a right tree is read again; what is read is the very bytes. Plain Lean. -/
import Derived.Test.YtcihihncgpddfaaEncL
import Derived.Test.YtcihihncgpddfaaOdA
namespace Go.Proofs.Ytcihihncgpddfaa
open Go.RowKit Go.Deep
set_option linter.unusedVariables false
set_option linter.unusedSimpArgs false

theorem itemB_fit {x : It} (h : itemB x = true) : ItFit x := by
  unfold itemB at h
  rw [decide_eq_true_eq] at h
  obtain ⟨h1, h2, h3, h4⟩ := h
  exact ⟨by omega, by unfold NumOk; omega, by unfold NumOk; omega, by unfold NumOk; omega, by unfold NumOk; omega⟩
theorem colB_fit {c : Int} (h : colB c = true) : NumOk c := by
  unfold colB at h
  rw [decide_eq_true_eq] at h
  unfold NumOk
  omega
theorem nd_of_mem {T : List Nd} {x : Nd} (hx : x ∈ T) : ∃ i, i < T.length ∧ T.getD i zNd = x := by
  obtain ⟨i, hi, rfl⟩ := List.getElem_of_mem hx
  exact ⟨i, hi, by rw [List.getD_eq_getElem?_getD, List.getElem?_eq_getElem hi]; rfl⟩
theorem ints_nodup_len {l : List Int} (h : l.Nodup) {n : Nat} (hr : ∀ k ∈ l, 0 ≤ k ∧ k < (n : Int)) : l.length ≤ n := by
  have h1 : (l.map Int.toNat).Nodup := by
    rw [List.nodup_iff_pairwise_ne, List.pairwise_map]
    refine List.Pairwise.imp_of_mem ?_ (List.nodup_iff_pairwise_ne.1 h)
    intro a b ha hb hne e
    have := hr a ha
    have := hr b hb
    omega
  have := nodup_le n _ h1 (fun x hx => by
    obtain ⟨k, hk, rfl⟩ := List.mem_map.1 hx
    have := hr k hk
    omega)
  simpa using this
theorem check_fit {T : List Nd} (h : (checkT T).1 = 0) (hok : ∀ x ∈ T, NdOk x) : ∀ x ∈ T, NdFit x := fun x hx => by
  obtain ⟨i, hi, hxi⟩ := nd_of_mem hx
  have ho := hok x hx
  have hkr := check_kids h i hi
  have hkn := kids_nodup h hi
  have hlen := check_len h
  obtain ⟨t, d, hw⟩ := check_each h i hi
  unfold kidsOf at hkn
  rw [hxi] at hw hkr hkn
  have hkl := ints_nodup_len hkn (n := T.length) (fun k hk => by have := hkr k hk; omega)
  have hk : ¬ (x.kind < 1 ∨ 11 < x.kind) := fun hb => by rw [wrong_kind hb] at hw; cases hw
  have hn := wrong_names hw
  have hq : ¬ kidsBad T i x t d := fun hb => by rw [wrong_kids hk hn hb] at hw; cases hw
  have hit : itemsB x = true := by
    cases e : itemsB x with
    | true => rfl
    | false => rw [wrong_items hk hn hq e] at hw; cases hw
  have hf : fieldsB x = true := by
    cases e : fieldsB x with
    | true => rfl
    | false => rw [wrong_fields hk hn hq hit e] at hw; cases hw
  have ht : x.text.size ≤ 65536 := by
    rcases Nat.lt_or_ge 65536 x.text.size with e | e
    · rw [wrong_text hk hn hq hit hf e] at hw; cases hw
    · exact e
  unfold namesBad at hn
  have hid : x.id.size ≤ 32 := by
    rcases Nat.eq_zero_or_pos x.id.size with e | e
    · omega
    · cases en : nameB x.id with
      | false => exact absurd (.inl ⟨e, .inr en⟩) hn
      | true => exact ((nameB_eq _).1 en).2.1
  have hcl : x.cls.size ≤ 32 := by
    rcases Nat.eq_zero_or_pos x.cls.size with e | e
    · omega
    · cases en : nameB x.cls with
      | false => exact absurd (.inr ⟨e, en⟩) hn
      | true => exact ((nameB_eq _).1 en).2.1
  unfold itemsB at hit
  simp only [Bool.and_eq_true] at hit
  obtain ⟨⟨⟨i1, i2⟩, i3⟩, i4⟩ := hit
  have hcols : x.cols.length ≤ 64 := by
    split at i4
    · rw [decide_eq_true_eq] at i4; omega
    · split at i4 <;> rw [decide_eq_true_eq] at i4 <;> omega
  unfold fieldsB at hf
  simp only [Bool.and_eq_true] at hf
  obtain ⟨⟨⟨f1, f2⟩, f3⟩, f4⟩ := hf
  unfold padsB at f1
  unfold restB at f2
  rw [decide_eq_true_eq] at f1 f2
  have hall : ∀ k ∈ x.cols, ItFit k := fun k hk => itemB_fit ((List.all_eq_true.1 i3) k hk)
  have hkids : ∀ k ∈ x.kids, NumOk k := fun k hk => by have := hkr k hk; unfold NumOk; omega
  have hfl := ho.flags
  have had := ho.add
  have hdr := ho.drop
  clear hw hq hn hkn hkr i3 i4 hok ho
  exact ⟨by omega, by omega, by omega, by omega, by omega, hkids, itemB_fit i1, itemB_fit i2, by unfold NumOk; omega, by unfold NumOk; omega, by unfold NumOk; omega, by unfold NumOk; omega, by unfold NumOk; omega, by omega, colB_fit f3, colB_fit f4, by omega, by omega, hall, by omega⟩
theorem numF_pos : ∀ (f n : Nat), 0 < (numF f n).length
  | 0, n => by simp [numF]
  | f + 1, n => by rw [numF]; split <;> simp
theorem numB_short {n : Nat} (h : n ≤ 4096) : (numB n).length ≤ 2 := by
  unfold numB
  rw [Int.toNat_natCast, numF]
  split
  · simp
  · rw [numF, if_pos (by omega)]
    simp
theorem headB_len {n : Nat} (h : n ≤ 4096) : (headB n).length ≤ 5 := by
  have := numB_short h
  unfold headB
  rw [List.length_append]
  simp
  omega
theorem encT_ok {T : List Nd} {b : List Int} (h : encT T = (b, 0)) : (checkT T).1 = 0 ∧ b = headB T.length ++ T.flatMap ndB ∧ b.length ≤ 1048576 := by
  unfold encT at h
  split at h
  · rename_i hc
    injection h with _ h
    exact absurd h hc
  · rename_i hc
    have hc : (checkT T).1 = 0 := by omega
    refine ⟨hc, ?_⟩
    have hl := check_len hc
    have hh := headB_len hl.2
    cases e : encGo T (headB T.length) with
    | none => rw [e] at h; injection h with _ h; cases h
    | some r =>
      rw [e] at h
      injection h with h _
      subst h
      exact encGo_some T _ _ (by omega) e
theorem encT_no {T : List Nd} (h : (encT T).2 ≠ 0) : (encT T).1 = [] := by
  unfold encT at h ⊢
  split
  · rfl
  · rename_i hc
    rw [if_neg hc] at h
    cases e : encGo T (headB T.length) with
    | none => rfl
    | some r => rw [e] at h; exact absurd rfl h
theorem endS_idle (B : List Int) {s : Rs} (h : s.code ≠ 0) : endS B s = s := by
  unfold endS
  split
  · exact failS_idle _ _ _ h
  · rfl
/-- a right tree's bytes are read again -/
theorem enc_back {T : List Nd} {b : List Int} (h : encT T = (b, 0)) (hok : ∀ x ∈ T, NdOk x) :
    decT b = (T, 0, 0) ∧ (∀ cut, cut < b.length → decT (b.take cut) = ([], 6, (cut : Int))) ∧ ∀ more, more ≠ [] → b.length + more.length ≤ 1048576 → decT (b ++ more) = ([], 100, (b.length : Int)) := by
  obtain ⟨hc, hb, hl⟩ := encT_ok h
  have hlen := check_len hc
  have hC := bodyR_codec hlen.1 hlen.2 (check_fit hc hok)
  rw [← hb] at hC
  refine ⟨?_, fun cut hcut => ?_, fun more hm hml => ?_⟩
  · have hg := hC.good b ⟨0, 0, 0⟩ [] rfl (Nat.zero_le _) (by simp)
    unfold decT
    rw [if_neg (by omega), hg]
    have he : endS b ⟨0 + b.length, 0, 0⟩ = ⟨0 + b.length, 0, 0⟩ := by
      unfold endS
      rw [if_neg (by simp)]
    simp only [he]
    rw [if_neg (by simp), if_neg (by simpa using hc)]
  · have hsz : (b.take cut).length = cut := by rw [List.length_take]; omega
    have hs := hC.short (b.take cut) ⟨0, 0, 0⟩ (b.take cut) (b.drop cut) rfl (Nat.zero_le _) (List.take_append_drop cut b).symm (fun e => by
      have := congrArg List.length e
      simp at this
      omega) (by simp)
    unfold decT
    rw [if_neg (by omega), endS_idle _ (by rw [hs.1]; decide), if_pos (by rw [hs.1]; decide), hs.1, hs.2, hsz]
  · have hg := hC.good (b ++ more) ⟨0, 0, 0⟩ more rfl (Nat.zero_le _) (by simp)
    have hpos : 0 < more.length := List.length_pos_iff.2 hm
    unfold decT
    rw [if_neg (by rw [List.length_append]; omega), hg]
    have he : endS (b ++ more) ⟨0 + b.length, 0, 0⟩ = ⟨0 + b.length, 100, (b.length : Int)⟩ := by
      unfold endS failS
      rw [if_pos (by simp; exact hpos), if_pos rfl]
      simp
    simp only [he]
    rw [if_pos (by decide)]

/-! What is read is the very bytes. -/
def Byte (B : List Int) : Prop := ∀ c ∈ B, 0 ≤ c ∧ c ≤ 255
def Back {α : Type} (f : Rdr α) (R : α → List Int → Prop) : Prop := ∀ B s, Byte B → s.code = 0 → s.at_ ≤ B.length → (f B s).2.code = 0 → ∃ l, R (f B s).1 l ∧ (f B s).2.at_ = s.at_ + l.length ∧ (f B s).2.at_ ≤ B.length ∧ B.drop s.at_ = l ++ B.drop (f B s).2.at_
theorem back_pure {α : Type} (a : α) : Back (rP a) (fun b l => b = a ∧ l = []) := fun B s hB h0 ha h => ⟨[], ⟨rfl, rfl⟩, rfl, ha, rfl⟩
theorem back_bind {α β : Type} {f : Rdr α} {g : α → Rdr β} {R : α → List Int → Prop} {S : α → β → List Int → Prop} (hf : Back f R) (hg : ∀ a, Back (g a) (S a)) (hi : ∀ a, Idle (g a)) : Back (rB f g) (fun b l => ∃ a l1 l2, R a l1 ∧ S a b l2 ∧ l = l1 ++ l2) := fun B s hB h0 ha h => by
  have h1 : (f B s).2.code = 0 := by
    rcases Decidable.em ((f B s).2.code = 0) with e | e
    · exact e
    · have h2 : (g (f B s).1 B (f B s).2).2.code = 0 := h
      rw [hi _ B _ e] at h2
      exact absurd h2 e
  obtain ⟨l1, r1, a1, b1, d1⟩ := hf B s hB h0 ha h1
  obtain ⟨l2, r2, a2, b2, d2⟩ := hg (f B s).1 B (f B s).2 hB h1 b1 h
  refine ⟨l1 ++ l2, ⟨_, l1, l2, r1, r2, rfl⟩, ?_, b2, ?_⟩
  · show (g (f B s).1 B (f B s).2).2.at_ = _
    rw [a2, a1, List.length_append, Nat.add_assoc]
  · show _ = _ ++ B.drop (g (f B s).1 B (f B s).2).2.at_
    rw [d1, d2, List.append_assoc]
theorem Back.imp {α : Type} {f : Rdr α} {R R' : α → List Int → Prop} (h : Back f R) (hr : ∀ a l, R a l → R' a l) : Back f R' := fun B s hB h0 ha h1 => by
  obtain ⟨l, r, x⟩ := h B s hB h0 ha h1
  exact ⟨l, hr _ _ r, x⟩
theorem octR_back (m : Int) : Back (octR m) (fun c l => 0 ≤ c ∧ c ≤ 255 ∧ c ≤ m ∧ l = [c]) := fun B s hB h0 ha h => by
  unfold octR at h ⊢
  rw [if_neg (by rw [h0]; simp)] at h ⊢
  by_cases h1 : B.length ≤ s.at_
  · rw [if_pos h1] at h; cases h
  · rw [if_neg h1] at h ⊢
    by_cases h2 : m < B.getD s.at_ 0
    · rw [if_pos h2] at h; cases h
    · rw [if_neg h2]
      have hlt : s.at_ < B.length := by omega
      have e : B.getD s.at_ 0 = B[s.at_] := by rw [List.getD_eq_getElem?_getD, List.getElem?_eq_getElem hlt]; rfl
      have hb := hB _ (List.getElem_mem hlt)
      refine ⟨[B.getD s.at_ 0], ⟨by rw [e]; exact hb.1, by rw [e]; exact hb.2, by omega, rfl⟩, rfl, by show s.at_ + 1 ≤ _; omega, ?_⟩
      rw [List.drop_eq_getElem_cons hlt, e]
      rfl
theorem numGo_back (start : Nat) (B : List Int) (hB : Byte B) : ∀ (f g i : Nat) (acc : Int) (s : Rs), f ≤ g → s.code = 0 → s.at_ ≤ B.length → (numGo start f i acc B s).2.code = 0 →
    ∃ n : Nat, n < 128 ^ f ∧ (0 < n ∨ i = 0) ∧ (numGo start f i acc B s).1 = acc + (n : Int) * 128 ^ i ∧ acc + (n : Int) * 128 ^ i < 2147483648 ∧ (numGo start f i acc B s).2.at_ = s.at_ + (numF g n).length ∧ (numGo start f i acc B s).2.at_ ≤ B.length ∧ B.drop s.at_ = numF g n ++ B.drop (numGo start f i acc B s).2.at_
  | 0, g, i, acc, s, hg, h0, ha, h => by
    unfold numGo at h
    unfold failS at h
    rw [if_pos h0] at h
    cases h
  | f + 1, 0, i, acc, s, hg, h0, ha, h => by omega
  | f + 1, g + 1, i, acc, s, hg, h0, ha, h => by
    rw [numGo_succ] at h ⊢
    by_cases hc : (octR 255 B s).2.code = 0
    · obtain ⟨l, ⟨c0, c1, _, rfl⟩, a1, b1, d1⟩ := octR_back 255 B s hB h0 ha hc
      generalize octR 255 B s = r at *
      obtain ⟨c, s1⟩ := r
      simp only at *
      rw [if_neg (by rw [hc]; simp)] at h ⊢
      obtain ⟨k, rfl⟩ := Int.eq_ofNat_of_zero_le c0
      by_cases hs : (k : Int) < 128
      · rw [if_pos hs] at h ⊢
        have e : (k : Int) % 128 = (k : Int) := by omega
        rw [e] at h ⊢
        by_cases hx : (0 < i ∧ (k : Int) = 0) ∨ 2147483648 ≤ acc + (k : Int) * 128 ^ i
        · rw [if_pos hx] at h
          unfold failS at h
          rw [if_pos hc] at h
          cases h
        · rw [if_neg hx] at h ⊢
          have hnf : numF (g + 1) k = [(k : Int)] := by rw [numF, if_pos (by omega)]
          have hp : 1 ≤ 128 ^ f := Nat.one_le_pow _ _ (by decide)
          refine ⟨k, by rw [Nat.pow_succ]; omega, by omega, rfl, by omega, by rw [hnf]; exact a1, b1, by rw [hnf]; exact d1⟩
      · rw [if_neg hs] at h ⊢
        obtain ⟨n, n1, n2, n3, n4, n5, n6, n7⟩ := numGo_back start B hB f g (i + 1) _ s1 (by omega) hc b1 h
        have hdiv : (k % 128 + 128 * n) / 128 = n := by omega
        have hmod : (k % 128 + 128 * n) % 128 = k % 128 := by omega
        have hst := pow_step (k % 128 + 128 * n) i acc
        rw [hdiv, hmod] at hst
        have e : (k : Int) % 128 = ((k % 128 : Nat) : Int) := by omega
        rw [e] at n3 n4 n5 n6 n7 ⊢
        have hn0 : 0 < n := by omega
        have hnf : numF (g + 1) (k % 128 + 128 * n) = (k : Int) :: numF g n := by
          rw [numF, if_neg (by omega), hdiv, hmod]
          congr 1
          omega
        refine ⟨k % 128 + 128 * n, by rw [Nat.pow_succ]; omega, .inl (by omega), by rw [n3, hst], by rw [← hst]; exact n4, ?_, n6, ?_⟩
        · rw [n5, a1, hnf]
          simp only [List.length_cons, List.length_nil]
          omega
        · rw [d1, n7, hnf]
          rfl
    · rw [if_pos hc] at h
      exact absurd h hc
theorem numR_back : Back numR (fun n l => NumOk n ∧ l = numB n) := fun B s hB h0 ha h => by
  obtain ⟨n, n1, n2, n3, n4, n5, n6, n7⟩ := numGo_back s.at_ B hB 5 10 0 0 s (by omega) h0 ha h
  simp only [Int.pow_zero, Int.mul_one, Int.zero_add] at n3 n4
  have e : numB n = numF 10 n := by unfold numB; rw [Int.toNat_natCast]
  refine ⟨numF 10 n, ⟨?_, ?_⟩, n5, n6, n7⟩
  · show NumOk (numGo s.at_ 5 0 0 B s).1
    rw [n3]
    exact ⟨by omega, n4⟩
  · show _ = numB (numGo s.at_ 5 0 0 B s).1
    rw [n3, e]
theorem sgnN_unS {n : Int} (h : 0 ≤ n) : sgnN (unS n) = n := by
  unfold sgnN unS
  split <;> split <;> omega
theorem sgnR_back : Back sgnR (fun n l => l = sgnB n) := (back_bind numR_back (fun a => back_pure (unS a)) fun _ => idle_pure _).imp fun a l => by
  rintro ⟨n, l1, l2, ⟨h1, rfl⟩, ⟨rfl, rfl⟩, rfl⟩
  unfold sgnB
  rw [sgnN_unS h1.1, List.append_nil]
theorem byte_drop {B : List Int} (h : Byte B) (n : Nat) : Byte (B.drop n) := fun c hc => h c (List.mem_of_mem_drop hc)
theorem byte_take {B : List Int} (h : Byte B) (n : Nat) : Byte (B.take n) := fun c hc => h c (List.mem_of_mem_take hc)
theorem strB_strOf {l : List Int} (h : Byte l) : strB (strOf l) = l := by
  unfold strB strOf
  rw [List.map_map]
  conv => rhs; rw [← List.map_id l]
  refine List.map_congr_left fun c hc => ?_
  have := h c hc
  show ((UInt8.ofNat c.toNat).toNat : Int) = c
  rw [UInt8.toNat_ofNat']
  omega
theorem strOf_size (l : List Int) : (strOf l).size = l.length := by
  show ((l.map fun c => UInt8.ofNat c.toNat).toArray).size = _
  simp
theorem txtR_back : Back txtR (fun s l => s.size < 2147483648 ∧ l = txtB s) := fun B s hB h0 ha h => by
  unfold txtR at h ⊢
  by_cases hc : (numR B s).2.code = 0
  · obtain ⟨l, ⟨⟨c0, c1⟩, hl⟩, a1, b1, d1⟩ := numR_back B s hB h0 ha hc
    generalize numR B s = r at *
    obtain ⟨c, s1⟩ := r
    simp only at *
    rw [if_neg (by rw [hc]; simp)] at h ⊢
    by_cases hx : (B.length : Int) - s1.at_ < c
    · rw [if_pos hx] at h; cases h
    · rw [if_neg hx]
      obtain ⟨k, rfl⟩ := Int.eq_ofNat_of_zero_le c0
      rw [Int.toNat_natCast]
      have hlen : ((B.drop s1.at_).take k).length = k := by rw [List.length_take, List.length_drop]; omega
      have hbt := byte_take (byte_drop hB s1.at_) k
      refine ⟨txtB (strOf ((B.drop s1.at_).take k)), ⟨by rw [strOf_size, hlen]; omega, rfl⟩, ?_, by show s1.at_ + k ≤ _; omega, ?_⟩
      · unfold txtB
        rw [List.length_append, strB_strOf hbt, strOf_size, hlen, ← hl, a1, Nat.add_assoc]
      · unfold txtB
        rw [strB_strOf hbt, strOf_size, hlen, ← hl, d1, List.append_assoc, ← List.drop_drop, List.take_append_drop]
  · rw [if_pos hc] at h
    exact absurd h hc
theorem itR_back : Back itR (fun x l => ItFit x ∧ 0 ≤ x.k ∧ l = itB x) := by
  refine (back_bind (octR_back 127) (fun k => back_bind numR_back (fun n => back_bind numR_back (fun d => back_bind numR_back (fun lo => back_bind numR_back (fun hi => back_pure (⟨k, n, d, lo, hi⟩ : It)) fun _ => idle_pure _) fun _ => idle_bind numR_idle fun _ => idle_pure _) fun _ => idle_bind numR_idle fun _ => idle_bind numR_idle fun _ => idle_pure _) fun _ => idle_bind numR_idle fun _ => idle_bind numR_idle fun _ => idle_bind numR_idle fun _ => idle_pure _) fun _ => idle_bind numR_idle fun _ => idle_bind numR_idle fun _ => idle_bind numR_idle fun _ => idle_bind numR_idle fun _ => idle_pure _).imp fun x l => ?_
  rintro ⟨k, l1, l2, ⟨k0, k1, k2, rfl⟩, ⟨n, l3, l4, ⟨hn, rfl⟩, ⟨d, l5, l6, ⟨hd, rfl⟩, ⟨lo, l7, l8, ⟨hlo, rfl⟩, ⟨hi, l9, l10, ⟨hhi, rfl⟩, ⟨rfl, rfl⟩, rfl⟩, rfl⟩, rfl⟩, rfl⟩, rfl⟩
  exact ⟨⟨k2, hn, hd, hlo, hhi⟩, k0, by unfold itB; simp⟩
theorem manyR_back {α : Type} {f : Rdr α} {enc : α → List Int} {Ok : α → Prop} (hf : Back f (fun a l => Ok a ∧ l = enc a)) (hi : Idle f) : ∀ n, Back (manyR f n) (fun L l => L.length = n ∧ (∀ x ∈ L, Ok x) ∧ l = L.flatMap enc)
  | 0 => (back_pure []).imp fun a l => by
    rintro ⟨rfl, rfl⟩
    exact ⟨rfl, (fun x hx => by cases hx), rfl⟩
  | n + 1 => fun B s hB h0 ha h => by
    rw [manyR_succ, if_neg (by rw [h0]; simp)] at h ⊢
    have h1 : (f B s).2.code = 0 := by
      rcases Decidable.em ((f B s).2.code = 0) with e | e
      · exact e
      · have h2 : (manyR f n B (f B s).2).2.code = 0 := h
        rw [manyR_idle f n B _ e] at h2
        exact absurd h2 e
    obtain ⟨l1, ⟨r1, rfl⟩, a1, b1, d1⟩ := hf B s hB h0 ha h1
    obtain ⟨l2, ⟨r2, r3, rfl⟩, a2, b2, d2⟩ := manyR_back hf hi n B (f B s).2 hB h1 b1 h
    refine ⟨_, ⟨by simp [r2], fun x hx => ?_, rfl⟩, ?_, b2, ?_⟩
    · rcases List.mem_cons.1 hx with rfl | hx
      · exact r1
      · exact r3 x hx
    · rw [a2, a1, List.flatMap_cons, List.length_append, Nat.add_assoc]
    · rw [d1, d2, List.flatMap_cons, List.append_assoc]
theorem mixTo_mixP (a y : Nd) : ∀ k, k < 13 → mixTo (mixP a y k) k = mixTo a k ∧ partsTo (mixP a y k) k = partsTo a k := by
  intro k hk
  have : k = 0 ∨ k = 1 ∨ k = 2 ∨ k = 3 ∨ k = 4 ∨ k = 5 ∨ k = 6 ∨ k = 7 ∨ k = 8 ∨ k = 9 ∨ k = 10 ∨ k = 11 ∨ k = 12 := by omega
  cases a
  cases y
  rcases this with rfl | rfl | rfl | rfl | rfl | rfl | rfl | rfl | rfl | rfl | rfl | rfl | rfl <;> exact ⟨by kernel_rfl, by kernel_rfl⟩
theorem partR_back (x : Nd) : ∀ k, Back (partR x k) (fun y l => y = mixP x y k ∧ l = partB y k)
  | 0 => by
    show Back (rB (octR 127) fun k => rP { x with kind := k }) (fun y l => y = { x with kind := y.kind } ∧ l = [y.kind])
    refine (back_bind (octR_back 127) (fun k => back_pure _) fun _ => idle_pure _).imp fun y l => ?_
    rintro ⟨a, l1, l2, ⟨_, _, _, rfl⟩, ⟨rfl, rfl⟩, rfl⟩
    exact ⟨rfl, by simp⟩
  | 1 => by
    show Back (rB txtR fun k => rP { x with id := k }) (fun y l => y = { x with id := y.id } ∧ l = txtB y.id)
    refine (back_bind txtR_back (fun k => back_pure _) fun _ => idle_pure _).imp fun y l => ?_
    rintro ⟨a, l1, l2, ⟨_, rfl⟩, ⟨rfl, rfl⟩, rfl⟩
    exact ⟨rfl, by simp⟩
  | 2 => by
    show Back (rB txtR fun k => rP { x with cls := k }) (fun y l => y = { x with cls := y.cls } ∧ l = txtB y.cls)
    refine (back_bind txtR_back (fun k => back_pure _) fun _ => idle_pure _).imp fun y l => ?_
    rintro ⟨a, l1, l2, ⟨_, rfl⟩, ⟨rfl, rfl⟩, rfl⟩
    exact ⟨rfl, by simp⟩
  | 3 => by
    show Back (rB txtR fun k => rP { x with text := k }) (fun y l => y = { x with text := y.text } ∧ l = txtB y.text)
    refine (back_bind txtR_back (fun k => back_pure _) fun _ => idle_pure _).imp fun y l => ?_
    rintro ⟨a, l1, l2, ⟨_, rfl⟩, ⟨rfl, rfl⟩, rfl⟩
    exact ⟨rfl, by simp⟩
  | 4 => by
    show Back (rB numR fun n => rB (manyR numR n.toNat) fun l => rP { x with kids := l }) (fun y l => y = { x with kids := y.kids } ∧ l = numB y.kids.length ++ kidsB y.kids)
    refine (back_bind numR_back (fun n => back_bind (manyR_back numR_back numR_idle n.toNat) (fun l => back_pure _) fun _ => idle_pure _) fun _ => idle_bind (manyR_idle _ _) fun _ => idle_pure _).imp fun y l => ?_
    rintro ⟨a, l1, l2, ⟨h, rfl⟩, ⟨L, l3, l4, ⟨h1, h2, rfl⟩, ⟨rfl, rfl⟩, rfl⟩, rfl⟩
    refine ⟨rfl, ?_⟩
    have : (L.length : Int) = a := by have := h.1; omega
    simp only [this, kidsB, List.append_nil]
  | 5 => by
    show Back (rB itR fun k => rP { x with iw := k }) (fun y l => y = { x with iw := y.iw } ∧ l = itB y.iw)
    refine (back_bind itR_back (fun k => back_pure _) fun _ => idle_pure _).imp fun y l => ?_
    rintro ⟨a, l1, l2, ⟨_, _, rfl⟩, ⟨rfl, rfl⟩, rfl⟩
    exact ⟨rfl, by simp⟩
  | 6 => by
    show Back (rB itR fun k => rP { x with ih := k }) (fun y l => y = { x with ih := y.ih } ∧ l = itB y.ih)
    refine (back_bind itR_back (fun k => back_pure _) fun _ => idle_pure _).imp fun y l => ?_
    rintro ⟨a, l1, l2, ⟨_, _, rfl⟩, ⟨rfl, rfl⟩, rfl⟩
    exact ⟨rfl, by simp⟩
  | 7 => by
    show Back (rB numR fun k => rP { x with gap := k }) (fun y l => y = { x with gap := y.gap } ∧ l = numB y.gap)
    refine (back_bind numR_back (fun k => back_pure _) fun _ => idle_pure _).imp fun y l => ?_
    rintro ⟨a, l1, l2, ⟨_, rfl⟩, ⟨rfl, rfl⟩, rfl⟩
    exact ⟨rfl, by simp⟩
  | 8 => by
    show Back (rB numR fun a => rB numR fun b => rB numR fun c => rB numR fun d => rP { x with p0 := a, p1 := b, p2 := c, p3 := d }) (fun y l => y = { x with p0 := y.p0, p1 := y.p1, p2 := y.p2, p3 := y.p3 } ∧ l = numB y.p0 ++ (numB y.p1 ++ (numB y.p2 ++ numB y.p3)))
    refine (back_bind numR_back (fun a => back_bind numR_back (fun b => back_bind numR_back (fun c => back_bind numR_back (fun d => back_pure _) fun _ => idle_pure _) fun _ => idle_bind numR_idle fun _ => idle_pure _) fun _ => idle_bind numR_idle fun _ => idle_bind numR_idle fun _ => idle_pure _) fun _ => idle_bind numR_idle fun _ => idle_bind numR_idle fun _ => idle_bind numR_idle fun _ => idle_pure _).imp fun y l => ?_
    rintro ⟨a, l1, l2, ⟨_, rfl⟩, ⟨b, l3, l4, ⟨_, rfl⟩, ⟨c, l5, l6, ⟨_, rfl⟩, ⟨d, l7, l8, ⟨_, rfl⟩, ⟨rfl, rfl⟩, rfl⟩, rfl⟩, rfl⟩, rfl⟩
    exact ⟨rfl, by simp⟩
  | 9 => by
    show Back (rB (octR 127) fun a => rB (octR 127) fun b => rB (octR 127) fun c => rB (octR 127) fun d => rB (octR 255) fun e => rP { x with border := a, align := b, cross := c, wrap := d, flags := e }) (fun y l => y = { x with border := y.border, align := y.align, cross := y.cross, wrap := y.wrap, flags := y.flags } ∧ l = [y.border, y.align, y.cross, y.wrap, y.flags])
    refine (back_bind (octR_back 127) (fun a => back_bind (octR_back 127) (fun b => back_bind (octR_back 127) (fun c => back_bind (octR_back 127) (fun d => back_bind (octR_back 255) (fun e => back_pure _) fun _ => idle_pure _) fun _ => idle_bind (octR_idle _) fun _ => idle_pure _) fun _ => idle_bind (octR_idle _) fun _ => idle_bind (octR_idle _) fun _ => idle_pure _) fun _ => idle_bind (octR_idle _) fun _ => idle_bind (octR_idle _) fun _ => idle_bind (octR_idle _) fun _ => idle_pure _) fun _ => idle_bind (octR_idle _) fun _ => idle_bind (octR_idle _) fun _ => idle_bind (octR_idle _) fun _ => idle_bind (octR_idle _) fun _ => idle_pure _).imp fun y l => ?_
    rintro ⟨a, l1, l2, ⟨_, _, _, rfl⟩, ⟨b, l3, l4, ⟨_, _, _, rfl⟩, ⟨c, l5, l6, ⟨_, _, _, rfl⟩, ⟨d, l7, l8, ⟨_, _, _, rfl⟩, ⟨e, l9, l10, ⟨_, _, _, rfl⟩, ⟨rfl, rfl⟩, rfl⟩, rfl⟩, rfl⟩, rfl⟩, rfl⟩
    exact ⟨rfl, by simp⟩
  | 10 => by
    show Back (rB numR fun a => rB numR fun b => rB (octR 255) fun c => rB (octR 255) fun d => rP { x with fg := a, bg := b, add := c, drop := d }) (fun y l => y = { x with fg := y.fg, bg := y.bg, add := y.add, drop := y.drop } ∧ l = numB y.fg ++ (numB y.bg ++ [y.add, y.drop]))
    refine (back_bind numR_back (fun a => back_bind numR_back (fun b => back_bind (octR_back 255) (fun c => back_bind (octR_back 255) (fun d => back_pure _) fun _ => idle_pure _) fun _ => idle_bind (octR_idle _) fun _ => idle_pure _) fun _ => idle_bind (octR_idle _) fun _ => idle_bind (octR_idle _) fun _ => idle_pure _) fun _ => idle_bind numR_idle fun _ => idle_bind (octR_idle _) fun _ => idle_bind (octR_idle _) fun _ => idle_pure _).imp fun y l => ?_
    rintro ⟨a, l1, l2, ⟨_, rfl⟩, ⟨b, l3, l4, ⟨_, rfl⟩, ⟨c, l5, l6, ⟨_, _, _, rfl⟩, ⟨d, l7, l8, ⟨_, _, _, rfl⟩, ⟨rfl, rfl⟩, rfl⟩, rfl⟩, rfl⟩, rfl⟩
    exact ⟨rfl, by simp⟩
  | 11 => by
    show Back (rB numR fun n => rB (manyR itR n.toNat) fun l => rP { x with cols := l }) (fun y l => y = { x with cols := y.cols } ∧ l = numB y.cols.length ++ itsB y.cols)
    refine (back_bind numR_back (fun n => back_bind (manyR_back (enc := itB) (Ok := fun x => ItFit x ∧ 0 ≤ x.k) (itR_back.imp fun a l h => ⟨⟨h.1, h.2.1⟩, h.2.2⟩) itR_idle n.toNat) (fun l => back_pure _) fun _ => idle_pure _) fun _ => idle_bind (manyR_idle _ _) fun _ => idle_pure _).imp fun y l => ?_
    rintro ⟨a, l1, l2, ⟨h, rfl⟩, ⟨L, l3, l4, ⟨h1, h2, rfl⟩, ⟨rfl, rfl⟩, rfl⟩, rfl⟩
    refine ⟨rfl, ?_⟩
    have : (L.length : Int) = a := by have := h.1; omega
    simp only [this, itsB, List.append_nil]
  | k + 12 => by
    show Back (rB sgnR fun a => rB sgnR fun b => rB sgnR fun c => rB sgnR fun d => rP { x with x0 := a, x1 := b, x2 := c, x3 := d }) (fun y l => y = { x with x0 := y.x0, x1 := y.x1, x2 := y.x2, x3 := y.x3 } ∧ l = sgnB y.x0 ++ (sgnB y.x1 ++ (sgnB y.x2 ++ sgnB y.x3)))
    refine (back_bind sgnR_back (fun a => back_bind sgnR_back (fun b => back_bind sgnR_back (fun c => back_bind sgnR_back (fun d => back_pure _) fun _ => idle_pure _) fun _ => idle_bind sgnR_idle fun _ => idle_pure _) fun _ => idle_bind sgnR_idle fun _ => idle_bind sgnR_idle fun _ => idle_pure _) fun _ => idle_bind sgnR_idle fun _ => idle_bind sgnR_idle fun _ => idle_bind sgnR_idle fun _ => idle_pure _).imp fun y l => ?_
    rintro ⟨a, l1, l2, rfl, ⟨b, l3, l4, rfl, ⟨c, l5, l6, rfl, ⟨d, l7, l8, rfl, ⟨rfl, rfl⟩, rfl⟩, rfl⟩, rfl⟩, rfl⟩
    exact ⟨rfl, by simp⟩
theorem partsR_back : ∀ k, k ≤ 13 → Back (partsR k) (fun y l => y = mixTo y k ∧ l = partsTo y k)
  | 0, _ => (back_pure zNd).imp fun y l => by
    rintro ⟨rfl, rfl⟩
    exact ⟨rfl, rfl⟩
  | k + 1, hk => (back_bind (partsR_back k (by omega)) (fun x => partR_back x k) fun x => partR_idle x k).imp fun y l => by
    rintro ⟨a, l1, l2, ⟨h1, rfl⟩, ⟨h2, rfl⟩, rfl⟩
    obtain ⟨m1, m2⟩ := mixTo_mixP a y k (by omega)
    rw [← h2] at m1 m2
    refine ⟨?_, ?_⟩
    · show y = mixP (mixTo y k) y k
      rw [m1, ← h1]
      exact h2
    · show _ = partsTo y k ++ partB y k
      rw [m2]
theorem ndR_back : Back ndR (fun y l => True ∧ l = ndB y) := (partsR_back 13 (by omega)).imp fun y l h => ⟨trivial, h.2⟩
theorem ndR_idle : Idle ndR := partsR_idle 13
theorem wantR_back (i : Nat) (c : Int) : Back (wantR i c) (fun _ l => l = [c]) := fun B s hB h0 ha h => by
  unfold wantR at h ⊢
  have hc : (octR 255 B s).2.code = 0 := by
    simp only at h
    split at h
    · exact h
    · rcases Decidable.em ((octR 255 B s).2.code = 0) with e | e
      · exact e
      · rw [failS_idle _ _ _ e] at h; exact absurd h e
  obtain ⟨l, ⟨_, _, _, rfl⟩, a1, b1, d1⟩ := octR_back 255 B s hB h0 ha hc
  by_cases e : (octR 255 B s).1 = c
  · simp only [e, if_true]
    exact ⟨_, rfl, a1, b1, by rw [d1, e]⟩
  · simp only [e, if_false] at h
    unfold failS at h
    rw [if_pos hc] at h
    cases h
theorem countR_back : Back countR (fun n l => (1 ≤ n ∧ n ≤ 4096) ∧ l = numB n) := fun B s hB h0 ha h => by
  unfold countR at h ⊢
  have hc : (numR B s).2.code = 0 := by
    simp only at h
    split at h
    · rcases Decidable.em ((numR B s).2.code = 0) with e | e
      · exact e
      · rw [failS_idle _ _ _ e] at h; exact absurd h e
    · exact h
  obtain ⟨l, ⟨h1, hl⟩, a1, b1, d1⟩ := numR_back B s hB h0 ha hc
  by_cases e : (numR B s).1 = 0 ∨ 4096 < (numR B s).1
  · simp only [e, if_true] at h
    unfold failS at h
    rw [if_pos hc] at h
    cases h
  · simp only [e, if_false]
    exact ⟨_, ⟨by have := h1.1; omega, hl⟩, a1, b1, d1⟩
theorem headR_back : Back headR (fun n l => (1 ≤ n ∧ n ≤ 4096) ∧ l = headB n.toNat) := by
  rw [headR_eq]
  refine (back_bind (wantR_back 0 70) (fun _ => back_bind (wantR_back 1 84) (fun _ => back_bind (wantR_back 2 1) (fun _ => countR_back) fun _ => countR_idle) fun _ => idle_bind (wantR_idle _ _) fun _ => countR_idle) fun _ => idle_bind (wantR_idle _ _) fun _ => idle_bind (wantR_idle _ _) fun _ => countR_idle).imp fun y l => ?_
  rintro ⟨a, l1, l2, rfl, ⟨b, l3, l4, rfl, ⟨c, l5, l6, rfl, ⟨h, rfl⟩, rfl⟩, rfl⟩, rfl⟩
  refine ⟨h, ?_⟩
  unfold headB
  rw [show ((y.toNat : Nat) : Int) = y by omega]
  rfl
theorem headR_idle : Idle headR := by
  rw [headR_eq]
  exact idle_bind (wantR_idle _ _) fun _ => idle_bind (wantR_idle _ _) fun _ => idle_bind (wantR_idle _ _) fun _ => countR_idle
theorem bodyR_idle : Idle bodyR := idle_bind headR_idle fun _ => manyR_idle _ _
theorem bodyR_back : Back bodyR (fun T l => (1 ≤ T.length ∧ T.length ≤ 4096) ∧ l = headB T.length ++ T.flatMap ndB) := (back_bind headR_back (fun n => manyR_back ndR_back ndR_idle n.toNat) fun _ => manyR_idle _ _).imp fun T l => by
  rintro ⟨n, l1, l2, ⟨h1, rfl⟩, ⟨h2, _, rfl⟩, rfl⟩
  exact ⟨by omega, by rw [h2]⟩
theorem encGo_all : ∀ (T : List Nd) (b : List Int), (b ++ T.flatMap ndB).length ≤ 1048576 → encGo T b = some (b ++ T.flatMap ndB)
  | [], b, h => by simp [encGo]
  | x :: T, b, h => by
    rw [List.flatMap_cons, ← List.append_assoc] at h ⊢
    rw [encGo, if_neg (by rw [List.length_append] at h; omega)]
    exact encGo_all T _ h
/-- bytes of which a tree is read are the very bytes of that tree -/
theorem dec_only {B : List Int} (hB : Byte B) (h : (decT B).2.1 = 0) : (checkT (decT B).1).1 = 0 ∧ encT (decT B).1 = (B, 0) ∧ (decT B).2.2 = 0 := by
  unfold decT at h ⊢
  by_cases h1 : 1048576 < B.length
  · rw [if_pos h1] at h; cases h
  · rw [if_neg h1] at h ⊢
    by_cases h2 : (endS B (bodyR B ⟨0, 0, 0⟩).2).code = 0
    · rw [if_neg (by rw [h2]; simp)] at h ⊢
      by_cases h3 : (checkT (bodyR B ⟨0, 0, 0⟩).1).1 = 0
      · rw [if_neg (by rw [h3]; simp)]
        refine ⟨h3, ?_, rfl⟩
        have hc : (bodyR B ⟨0, 0, 0⟩).2.code = 0 := by
          rcases Decidable.em ((bodyR B ⟨0, 0, 0⟩).2.code = 0) with e | e
          · exact e
          · rw [endS_idle _ e] at h2; exact absurd h2 e
        obtain ⟨l, ⟨hT, hl⟩, a1, b1, d1⟩ := bodyR_back B ⟨0, 0, 0⟩ hB rfl (Nat.zero_le _) hc
        have hend : ¬ (bodyR B ⟨0, 0, 0⟩).2.at_ < B.length := fun e => by
          unfold endS failS at h2
          rw [if_pos e, if_pos hc] at h2
          cases h2
        rw [List.drop_of_length_le (by omega : B.length ≤ (bodyR B ⟨0, 0, 0⟩).2.at_), List.append_nil, hl] at d1
        have d2 : B = headB (bodyR B ⟨0, 0, 0⟩).1.length ++ (bodyR B ⟨0, 0, 0⟩).1.flatMap ndB := d1
        have hg := encGo_all (bodyR B ⟨0, 0, 0⟩).1 (headB (bodyR B ⟨0, 0, 0⟩).1.length) (by rw [← d2]; omega)
        rw [← d2] at hg
        unfold encT
        rw [if_neg (by rw [h3]; simp), hg]
      · rw [if_pos h3] at h
        exact absurd h h3
    · rw [if_pos h2] at h
      exact absurd h h2
theorem dec_wrong {B : List Int} (h : (decT B).2.1 ≠ 0) : (decT B).1 = [] := by
  unfold decT at h ⊢
  split
  · rfl
  · split
    · rfl
    · split
      · rfl
      · rename_i h1 h2 h3
        rw [if_neg h1, if_neg h2, if_neg h3] at h
        exact absurd rfl h
end Go.Proofs.Ytcihihncgpddfaa
