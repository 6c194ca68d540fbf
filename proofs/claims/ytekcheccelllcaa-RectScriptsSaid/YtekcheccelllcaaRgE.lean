/- Layer 07: lists of ints in memory; what the three calls do with a cell; mixed. -/
import Derived.Test.YtekcheccelllcaaRgZ
import Derived.Test.YtekcheccelllcaaBase
import Derived.Test.YtekcheccelllcaaLntO
import Derived.Test.YtekcheccelllcaaAppK
import Derived.Lib.MinMax
namespace Go.Proofs.Ytekcheccelllcaa
open Go.RowKit
set_option linter.unusedVariables false
set_option linter.unusedSimpArgs false

/-- a list of ints that can be read -/
def RdI (w : World) (p : Option Addr) (L : List Int) : Prop := L.length ≠ 0 → ∃ b off, p = some ⟨b, off, none⟩ ∧ b < w.heap.size ∧ ∀ i, i < L.length → w.cell? ⟨b, off + i, none⟩ = some (.int .i64 (L.getD i 0))
theorem RdI.later {w w' : World} {p : Option Addr} {L : List Int} (h : RdI w p L) {B : Nat} (hb : Below B w w') (hB : w.heap.size ≤ B) : RdI w' p L := fun h0 => by
  obtain ⟨b, off, e, hl, hc⟩ := h h0
  refine ⟨b, off, e, by have := hb.size; omega, fun i hi => ?_⟩
  rw [(bcell hb).1 _ _ (by omega)]
  exact hc i hi
def vI (L : List Int) : List Value := L.map (Value.int .i64)
theorem vI_len (L : List Int) : (vI L).length = L.length := by simp [vI]
theorem vI_get {L : List Int} {i : Nat} (h : i < L.length) : (vI L)[i]? = some (.int .i64 (L.getD i 0)) := by
  simp [vI, List.getD_eq_getElem?_getD, List.getElem?_eq_getElem h]
theorem vI_app (L M : List Int) : vI (L ++ M) = vI L ++ vI M := by simp [vI]
theorem vI_one (L : List Int) : ∀ u ∈ vI L, u.oneCell' = true := fun u hu => by
  obtain ⟨x, _, rfl⟩ := List.mem_map.1 hu; rfl
/-- a row of the call's own can be read -/
theorem rdI_own {w : World} {base n : Nat} {v : Value} {L : List Int} (h : w.ownsRow base 3 1 v n (vI L)) (hn : n = L.length) : ∃ p c, v = .slice p n c ∧ n ≤ c ∧ RdI w p L := by
  rcases row_form h with ⟨rfl, h0, h1⟩ | ⟨g, c, rfl, hc, _⟩
  · exact ⟨none, 0, by rw [h0], by omega, fun h => by omega⟩
  · refine ⟨_, _, rfl, hc, fun h0 => ⟨g, 0, rfl, (row_lt h g rfl).1, fun i hi => ?_⟩⟩
    have := row_cells h i _ (vI_get hi)
    exact this
def odd (n : Nat) : Bool := n % 2 == 1
theorem odd_succ (n : Nat) : odd (n + 1) = !odd n := by
  unfold odd
  rcases Nat.mod_two_eq_zero_or_one n with h | h <;> simp [h, Nat.add_mod]
theorem odd_dec (n : Nat) : (((n : Nat) : Int) % 2 == 1) = odd n := by
  unfold odd
  have : ((n : Nat) : Int) % 2 = ((n % 2 : Nat) : Int) := by omega
  rw [this]
  rcases Nat.mod_two_eq_zero_or_one n with h | h <;> simp [h]
/-- mixed, at i of a and k of b -/
def mixA (op : Bool → Bool → Bool) (A B : List Int) (i k : Nat) (on : Bool) : List Int := mixR op (A.drop i) (B.drop k) (odd i) (odd k) on
theorem drop_getD {L : List Int} {i : Nat} (h : i < L.length) : L.drop i = L.getD i 0 :: L.drop (i + 1) := by
  rw [List.drop_eq_getElem_cons h, List.getD_eq_getElem?_getD, List.getElem?_eq_getElem h]; rfl
section
variable (op : Bool → Bool → Bool) {A B : List Int} {i k : Nat} (on : Bool)
def stepL (x : Int) (i k : Nat) (A B : List Int) : List Int := if op (odd i) (odd k) != on then x :: mixA op A B i k (op (odd i) (odd k)) else mixA op A B i k on
theorem mixA_end (hi : A.length ≤ i) (hk : B.length ≤ k) : mixA op A B i k on = [] := by
  rw [mixA, List.drop_eq_nil_of_le hi, List.drop_eq_nil_of_le hk, mixR]
theorem mixA_a (hi : i < A.length) (hk : B.length ≤ k) : mixA op A B i k on = stepL op on (A.getD i 0) (i + 1) k A B := by
  rw [mixA, stepL, mixA, mixA, drop_getD hi, List.drop_eq_nil_of_le hk, mixR, odd_succ]
theorem mixA_b (hi : A.length ≤ i) (hk : k < B.length) : mixA op A B i k on = stepL op on (B.getD k 0) i (k + 1) A B := by
  rw [mixA, stepL, mixA, mixA, drop_getD hk, List.drop_eq_nil_of_le hi, mixR, odd_succ]
theorem mixA_lt (hi : i < A.length) (hk : k < B.length) (h : A.getD i 0 < B.getD k 0) : mixA op A B i k on = stepL op on (A.getD i 0) (i + 1) k A B := by
  rw [mixA, stepL, mixA, mixA, drop_getD hi, drop_getD hk, mixR, if_pos h, odd_succ]
theorem mixA_gt (hi : i < A.length) (hk : k < B.length) (h : B.getD k 0 < A.getD i 0) : mixA op A B i k on = stepL op on (B.getD k 0) i (k + 1) A B := by
  rw [mixA, stepL, mixA, mixA, drop_getD hi, drop_getD hk, mixR, if_neg (by omega), if_pos h, odd_succ]
theorem mixA_eq (hi : i < A.length) (hk : k < B.length) (h : A.getD i 0 = B.getD k 0) : mixA op A B i k on = stepL op on (A.getD i 0) (i + 1) (k + 1) A B := by
  rw [mixA, stepL, mixA, mixA, drop_getD hi, drop_getD hk, mixR, if_neg (by omega), if_neg (by omega), odd_succ, odd_succ]
end
theorem add_stays (a b : Bool) (w : World) : Calls Try.prog 55 #[.bool a, .bool b] w fun e w' => e = .returned (.bool (opAdd a b)) ∧ w = w' := by
  go_enter Try.func55, Try.ntmps55
  cases a <;> (go_wp2; go_ret; exact ⟨by simp [opAdd], rfl⟩)
theorem cut_stays (a b : Bool) (w : World) : Calls Try.prog 56 #[.bool a, .bool b] w fun e w' => e = .returned (.bool (opCut a b)) ∧ w = w' := by
  go_enter Try.func56, Try.ntmps56
  cases a <;> (go_wp2; go_ret; exact ⟨by simp [opCut], rfl⟩)
theorem clip_stays (a b : Bool) (w : World) : Calls Try.prog 57 #[.bool a, .bool b] w fun e w' => e = .returned (.bool (opClip a b)) ∧ w = w' := by
  go_enter Try.func57, Try.ntmps57
  cases a <;> (go_wp2; go_ret; exact ⟨by simp [opClip], rfl⟩)
/-- what is asked of the function that says which cells stay -/
structure Stays (op : Bool → Bool → Bool) (K : FuncId) : Prop where
  ent : ∀ (args : Array Value) (w : World), (callFunc K args).run Try.prog w = .ok (.enter K args) w
  run : ∀ (a b : Bool) (w : World), Calls Try.prog K #[.bool a, .bool b] w fun e w' => e = .returned (.bool (op a b)) ∧ w = w'
theorem infoInt_ : (Try.prog.info? 3).map (fun i => (i.zero, i.size, i.bytes)) = some (some (.int .i64 0), 1, 8) := by kernel_rfl
structure MixI (base : Nat) (w : World) (op : Bool → Bool → Bool) (A B : List Int) (i k : Nat) (on : Bool) (v : Value) (out : List Int) (wr : World) : Prop where
  own : wr.ownsRow base 3 1 v out.length (vI out)
  be : Below base w wr
  eq : out ++ mixA op A B i k on = mix op A B
theorem MixI.later {base : Nat} {w wr w' : World} {op : Bool → Bool → Bool} {A B : List Int} {i k : Nat} {on : Bool} {v : Value} {out : List Int} (h : MixI base w op A B i k on v out wr) (hb : Below wr.heap.size wr w') (hz : base ≤ wr.heap.size) : MixI base w op A B i k on v out w' := ⟨row_later h.own hb, h.be.trans (hb.mono hz), h.eq⟩
theorem mixA_len (op : Bool → Bool → Bool) (A B : List Int) (i k : Nat) (on : Bool) : (mixA op A B i k on).length ≤ (A.length - i) + (B.length - k) := by
  have key : ∀ a b pa pb on, (mixR op a b pa pb on).length ≤ a.length + b.length := fun a b pa pb on => by
    fun_induction mixR op a b pa pb on <;> simp only [List.length_cons, List.length_nil] at * <;> omega
  have := key (A.drop i) (B.drop k) (odd i) (odd k) on
  simpa [mixA] using this
set_option maxRecDepth 100000 in
set_option maxHeartbeats 16000000 in
theorem mixed_any (op : Bool → Bool → Bool) (K : FuncId) (hK : Stays op K) (pa pb : Option Addr) (ca cb : Nat) (A B : List Int) (w : World) (hA : RdI w pa A) (hB : RdI w pb B) (fA : ∀ x ∈ A, x ≤ 8388608) (fB : ∀ x ∈ B, x ≤ 8388608) (lA : A.length ≤ 1073741824) (lB : B.length ≤ 1073741824) : Calls Try.prog 67 #[.slice pa A.length ca, .slice pb B.length cb, .func (.func K) #[] #[]] w fun e w' => ∃ v, e = .returned v ∧ w'.ownsRow w.heap.size 3 1 v (mix op A B).length (vI (mix op A B)) ∧ Below w.heap.size w w' := by
  obtain ⟨i0, hi0, hz0, hz1, hz2⟩ := info_parts infoInt_
  have HI := Lib.hid (And.intro hi0 (And.intro hz0 (And.intro hz1 hz2)))
  clear hi0 hz0 hz1 hz2
  have HA := Lib.hid hA
  have HB := Lib.hid hB
  have HFA := Lib.hid fA
  have HFB := Lib.hid fB
  have HK := Lib.hid hK
  have hent := hK.ent
  clear hA hB fA fB hK
  go_enter Try.func67, Try.ntmps67
  go_wp2
  go_loopw [7, 8, 9, 10] (fun ov iv kv nv wr => ∃ (i k : Nat) (on : Bool) (out : List Int), iv = .int .i64 i ∧ kv = .int .i64 k ∧ nv = .bool on ∧ i ≤ A.length ∧ k ≤ B.length ∧ RowKit.Hid (MixI w.heap.size w op A B i k on ov out wr)) (fun _ iv kv _ _ => (A.length - (intOf iv).toNat) + (B.length - (intOf kv).toNat))
  case atStart => exact ⟨0, 0, false, [], rfl, rfl, rfl, by omega, by omega, Lib.hid ⟨⟨by simp [vI], .inl ⟨rfl, rfl⟩⟩, Below.refl _ _, rfl⟩⟩
  case round =>
    obtain ⟨i, k, on, out, rfl, rfl, rfl, hi, hk, HM⟩ := hrel
    have HRA := Lib.hid (HA.out.later HM.out.be (Nat.le_refl _))
    have HRB := Lib.hid (HB.out.later HM.out.be (Nat.le_refl _))
    rcases (show (A.length ≤ i ∧ B.length ≤ k) ∨ (i < A.length ∧ B.length ≤ k) ∨ (A.length ≤ i ∧ k < B.length) ∨ (i < A.length ∧ k < B.length ∧ A.getD i 0 < B.getD k 0) ∨ (i < A.length ∧ k < B.length ∧ B.getD k 0 < A.getD i 0) ∨ (i < A.length ∧ k < B.length ∧ A.getD i 0 = B.getD k 0) by omega) with ⟨h1, h2⟩ | ⟨h1, h2⟩ | ⟨h1, h2⟩ | ⟨h1, h2, h3⟩ | ⟨h1, h2, h3⟩ | ⟨h1, h2, h3⟩
    · have h1i : ¬ (i : Int) < (A.length : Int) := by omega
      have h2i : ¬ (k : Int) < (B.length : Int) := by omega
      have he := HM.out.eq
      rw [mixA_end _ _ h1 h2, List.append_nil] at he
      have HE := Lib.hid he
      clear he HRA HRB
      go_wp2
      go_ret
      exact ⟨_, rfl, by rw [← HE.out]; exact HM.out.own, HM.out.be⟩
    · skip
      have heq := HM.out.eq
      rw [mixA_a op on h1 h2] at heq
      obtain ⟨ga, oa, rfl, za, hca⟩ := HRA.out (by omega)
      have ca0 := hca i (by omega)
      have ba := HFA.out (A.getD i 0) (by rw [List.getD_eq_getElem?_getD, List.getElem?_eq_getElem h1]; exact List.getElem_mem h1)
      clear hca
      have h1i : (i : Int) < (A.length : Int) := by omega
      have h2i : ¬ (k : Int) < (B.length : Int) := by omega
      generalize A.getD i 0 = xa at *
      have mA : min (8388608 : Int) xa = xa := by omega
      have tA := odd_dec (i + 1)
      have tB := odd_dec (k)
      have HEQ := Lib.hid heq
      have bOut : out.length ≤ 2147483648 := by
        have h := congrArg List.length HM.out.eq
        have h1 := mixA_len op A B 0 0 false
        rw [List.length_append] at h
        have h2 : (mix op A B).length = (mixA op A B 0 0 false).length := rfl
        omega
      clear heq
      push_cast at tA tB
      go_wp2_with fail
      (try rw [tA, tB])
      refine (HK.out.run _ _ _).mono ?_
      rintro e w5 ⟨rfl, rfl⟩
      clear tA tB
      have HO := Lib.hid HM.out.own
      have HBE := Lib.hid HM.out.be
      have HEQ2 := Lib.hid (show out ++ stepL op on xa (i + 1) (k) A B = mix op A B from HEQ.out)
      clear HM HEQ
      by_cases hne : op (odd (i + 1)) (odd (k)) = on
      · have HM2 := Lib.hid (show MixI w.heap.size w op A B (i + 1) (k) on u7 out wr from ⟨HO.out, HBE.out, by have := HEQ2.out; rw [stepL, if_neg (by simp [hne])] at this; exact this⟩)
        clear HEQ2 HO
        rw [hne]
        go_wp2
        go_roundw
        case rel => exact ⟨i + 1, k, on, out, by go_num, by go_num, rfl, by omega, by omega, HM2⟩
        case measure => simp [intOf] <;> omega
      · have heq2 := HEQ2.out
        rw [stepL, if_pos (by simp [hne])] at heq2
        generalize op (odd (i + 1)) (odd (k)) = nw at hne heq2 ⊢
        have HEQ3 := Lib.hid heq2
        have hq : (!(nw == on)) = true := by cases nw <;> cases on <;> simp_all
        clear heq2 HEQ2
        have hz := HBE.out.size
        have HOA := Lib.hid (row_later HO.out (below_al (Below.refl wr.heap.size wr) (.cells #[.int .i64 xa] 3)))
        go_wp2_with (at_builtin; go_must (refine append_keep rfl (.tmp 83) (.tmp 85) 46 rfl w.heap.size 3 i0 (.int .i64 0) 1 8 Try.underlying46 HI.out.1 HI.out.2.1 HI.out.2.2.1 HI.out.2.2.2 rfl (by decide) _ out.length _ rfl HOA.out ⟨wr.heap.size, 0, none⟩ 1 1 [.int .i64 xa] rfl rfl ?e0 ?e1 ?e2 ?e3 ?e4 ?_))
        (try case e0 => exact World.news_of_block (cs := #[.int .i64 xa]) (t := 3) (fr := (0, 0)) (heap_alloc_new _ _))
        case e1 => (intro u hu; simp at hu; subst hu; rfl)
        case e2 => unfold maxLen; omega
        case e3 => omega
        case e4 => first | omega | (simp; omega)
        intro v6 w6 own6 gr6 loc6
        have BE6 : Below w.heap.size w w6 := Below.grown (HBE.out.trans ((below_al (Below.refl wr.heap.size wr) _).mono hz)) gr6 (by simp; omega) (fun q hq => (row_lt HOA.out q hq).2)
        have HM2 := Lib.hid (show MixI w.heap.size w op A B (i + 1) (k) nw v6 (out ++ [xa]) w6 from ⟨by rw [vI_app, List.length_append]; exact own6, BE6, by rw [List.append_assoc]; exact HEQ3.out⟩)
        clear own6 gr6 loc6 BE6 HOA HO HEQ3 HBE
        go_wp2
        go_roundw
        case rel => exact ⟨i + 1, k, nw, _, by go_num, by go_num, rfl, by omega, by omega, HM2⟩
        case measure => simp [intOf] <;> omega
    · skip
      have heq := HM.out.eq
      rw [mixA_b op on h1 h2] at heq
      have h1i : ¬ (i : Int) < (A.length : Int) := by omega
      obtain ⟨gb, ob, rfl, zb, hcb⟩ := HRB.out (by omega)
      have cb0 := hcb k (by omega)
      have bb := HFB.out (B.getD k 0) (by rw [List.getD_eq_getElem?_getD, List.getElem?_eq_getElem h2]; exact List.getElem_mem h2)
      clear hcb
      have h2i : (k : Int) < (B.length : Int) := by omega
      generalize B.getD k 0 = xb at *
      have mB : min (8388608 : Int) xb = xb := by omega
      have tA := odd_dec (i)
      have tB := odd_dec (k + 1)
      have HEQ := Lib.hid heq
      have bOut : out.length ≤ 2147483648 := by
        have h := congrArg List.length HM.out.eq
        have h1 := mixA_len op A B 0 0 false
        rw [List.length_append] at h
        have h2 : (mix op A B).length = (mixA op A B 0 0 false).length := rfl
        omega
      clear heq
      push_cast at tA tB
      go_wp2_with fail
      (try rw [tA, tB])
      refine (HK.out.run _ _ _).mono ?_
      rintro e w5 ⟨rfl, rfl⟩
      clear tA tB
      have HO := Lib.hid HM.out.own
      have HBE := Lib.hid HM.out.be
      have HEQ2 := Lib.hid (show out ++ stepL op on xb (i) (k + 1) A B = mix op A B from HEQ.out)
      clear HM HEQ
      by_cases hne : op (odd (i)) (odd (k + 1)) = on
      · have HM2 := Lib.hid (show MixI w.heap.size w op A B (i) (k + 1) on u7 out wr from ⟨HO.out, HBE.out, by have := HEQ2.out; rw [stepL, if_neg (by simp [hne])] at this; exact this⟩)
        clear HEQ2 HO
        rw [hne]
        go_wp2
        go_roundw
        case rel => exact ⟨i, k + 1, on, out, by go_num, by go_num, rfl, by omega, by omega, HM2⟩
        case measure => simp [intOf] <;> omega
      · have heq2 := HEQ2.out
        rw [stepL, if_pos (by simp [hne])] at heq2
        generalize op (odd (i)) (odd (k + 1)) = nw at hne heq2 ⊢
        have HEQ3 := Lib.hid heq2
        have hq : (!(nw == on)) = true := by cases nw <;> cases on <;> simp_all
        clear heq2 HEQ2
        have hz := HBE.out.size
        have HOA := Lib.hid (row_later HO.out (below_al (Below.refl wr.heap.size wr) (.cells #[.int .i64 xb] 3)))
        go_wp2_with (at_builtin; go_must (refine append_keep rfl (.tmp 83) (.tmp 85) 46 rfl w.heap.size 3 i0 (.int .i64 0) 1 8 Try.underlying46 HI.out.1 HI.out.2.1 HI.out.2.2.1 HI.out.2.2.2 rfl (by decide) _ out.length _ rfl HOA.out ⟨wr.heap.size, 0, none⟩ 1 1 [.int .i64 xb] rfl rfl ?e0 ?e1 ?e2 ?e3 ?e4 ?_))
        (try case e0 => exact World.news_of_block (cs := #[.int .i64 xb]) (t := 3) (fr := (0, 0)) (heap_alloc_new _ _))
        case e1 => (intro u hu; simp at hu; subst hu; rfl)
        case e2 => unfold maxLen; omega
        case e3 => omega
        case e4 => first | omega | (simp; omega)
        intro v6 w6 own6 gr6 loc6
        have BE6 : Below w.heap.size w w6 := Below.grown (HBE.out.trans ((below_al (Below.refl wr.heap.size wr) _).mono hz)) gr6 (by simp; omega) (fun q hq => (row_lt HOA.out q hq).2)
        have HM2 := Lib.hid (show MixI w.heap.size w op A B (i) (k + 1) nw v6 (out ++ [xb]) w6 from ⟨by rw [vI_app, List.length_append]; exact own6, BE6, by rw [List.append_assoc]; exact HEQ3.out⟩)
        clear own6 gr6 loc6 BE6 HOA HO HEQ3 HBE
        go_wp2
        go_roundw
        case rel => exact ⟨i, k + 1, nw, _, by go_num, by go_num, rfl, by omega, by omega, HM2⟩
        case measure => simp [intOf] <;> omega
    · skip
      have heq := HM.out.eq
      rw [mixA_lt op on h1 h2 h3] at heq
      obtain ⟨ga, oa, rfl, za, hca⟩ := HRA.out (by omega)
      have ca0 := hca i (by omega)
      have ba := HFA.out (A.getD i 0) (by rw [List.getD_eq_getElem?_getD, List.getElem?_eq_getElem h1]; exact List.getElem_mem h1)
      clear hca
      have h1i : (i : Int) < (A.length : Int) := by omega
      obtain ⟨gb, ob, rfl, zb, hcb⟩ := HRB.out (by omega)
      have cb0 := hcb k (by omega)
      have bb := HFB.out (B.getD k 0) (by rw [List.getD_eq_getElem?_getD, List.getElem?_eq_getElem h2]; exact List.getElem_mem h2)
      clear hcb
      have h2i : (k : Int) < (B.length : Int) := by omega
      generalize A.getD i 0 = xa at *
      generalize B.getD k 0 = xb at *
      have mA : min (8388608 : Int) xa = xa := by omega
      have mB : min xa xb = xa := by omega
      have q1 : ¬ xb = xa := by omega
      have tA := odd_dec (i + 1)
      have tB := odd_dec (k)
      have HEQ := Lib.hid heq
      have bOut : out.length ≤ 2147483648 := by
        have h := congrArg List.length HM.out.eq
        have h1 := mixA_len op A B 0 0 false
        rw [List.length_append] at h
        have h2 : (mix op A B).length = (mixA op A B 0 0 false).length := rfl
        omega
      clear heq
      push_cast at tA tB
      go_wp2_with fail
      (try rw [tA, tB])
      refine (HK.out.run _ _ _).mono ?_
      rintro e w5 ⟨rfl, rfl⟩
      clear tA tB
      have HO := Lib.hid HM.out.own
      have HBE := Lib.hid HM.out.be
      have HEQ2 := Lib.hid (show out ++ stepL op on xa (i + 1) (k) A B = mix op A B from HEQ.out)
      clear HM HEQ
      by_cases hne : op (odd (i + 1)) (odd (k)) = on
      · have HM2 := Lib.hid (show MixI w.heap.size w op A B (i + 1) (k) on u7 out wr from ⟨HO.out, HBE.out, by have := HEQ2.out; rw [stepL, if_neg (by simp [hne])] at this; exact this⟩)
        clear HEQ2 HO
        rw [hne]
        go_wp2
        go_roundw
        case rel => exact ⟨i + 1, k, on, out, by go_num, by go_num, rfl, by omega, by omega, HM2⟩
        case measure => simp [intOf] <;> omega
      · have heq2 := HEQ2.out
        rw [stepL, if_pos (by simp [hne])] at heq2
        generalize op (odd (i + 1)) (odd (k)) = nw at hne heq2 ⊢
        have HEQ3 := Lib.hid heq2
        have hq : (!(nw == on)) = true := by cases nw <;> cases on <;> simp_all
        clear heq2 HEQ2
        have hz := HBE.out.size
        have HOA := Lib.hid (row_later HO.out (below_al (Below.refl wr.heap.size wr) (.cells #[.int .i64 xa] 3)))
        go_wp2_with (at_builtin; go_must (refine append_keep rfl (.tmp 83) (.tmp 85) 46 rfl w.heap.size 3 i0 (.int .i64 0) 1 8 Try.underlying46 HI.out.1 HI.out.2.1 HI.out.2.2.1 HI.out.2.2.2 rfl (by decide) _ out.length _ rfl HOA.out ⟨wr.heap.size, 0, none⟩ 1 1 [.int .i64 xa] rfl rfl ?e0 ?e1 ?e2 ?e3 ?e4 ?_))
        (try case e0 => exact World.news_of_block (cs := #[.int .i64 xa]) (t := 3) (fr := (0, 0)) (heap_alloc_new _ _))
        case e1 => (intro u hu; simp at hu; subst hu; rfl)
        case e2 => unfold maxLen; omega
        case e3 => omega
        case e4 => first | omega | (simp; omega)
        intro v6 w6 own6 gr6 loc6
        have BE6 : Below w.heap.size w w6 := Below.grown (HBE.out.trans ((below_al (Below.refl wr.heap.size wr) _).mono hz)) gr6 (by simp; omega) (fun q hq => (row_lt HOA.out q hq).2)
        have HM2 := Lib.hid (show MixI w.heap.size w op A B (i + 1) (k) nw v6 (out ++ [xa]) w6 from ⟨by rw [vI_app, List.length_append]; exact own6, BE6, by rw [List.append_assoc]; exact HEQ3.out⟩)
        clear own6 gr6 loc6 BE6 HOA HO HEQ3 HBE
        go_wp2
        go_roundw
        case rel => exact ⟨i + 1, k, nw, _, by go_num, by go_num, rfl, by omega, by omega, HM2⟩
        case measure => simp [intOf] <;> omega
    · skip
      have heq := HM.out.eq
      rw [mixA_gt op on h1 h2 h3] at heq
      obtain ⟨ga, oa, rfl, za, hca⟩ := HRA.out (by omega)
      have ca0 := hca i (by omega)
      have ba := HFA.out (A.getD i 0) (by rw [List.getD_eq_getElem?_getD, List.getElem?_eq_getElem h1]; exact List.getElem_mem h1)
      clear hca
      have h1i : (i : Int) < (A.length : Int) := by omega
      obtain ⟨gb, ob, rfl, zb, hcb⟩ := HRB.out (by omega)
      have cb0 := hcb k (by omega)
      have bb := HFB.out (B.getD k 0) (by rw [List.getD_eq_getElem?_getD, List.getElem?_eq_getElem h2]; exact List.getElem_mem h2)
      clear hcb
      have h2i : (k : Int) < (B.length : Int) := by omega
      generalize A.getD i 0 = xa at *
      generalize B.getD k 0 = xb at *
      have mA : min (8388608 : Int) xa = xa := by omega
      have mB : min xa xb = xb := by omega
      have q1 : ¬ xa = xb := by omega
      have tA := odd_dec (i)
      have tB := odd_dec (k + 1)
      have HEQ := Lib.hid heq
      have bOut : out.length ≤ 2147483648 := by
        have h := congrArg List.length HM.out.eq
        have h1 := mixA_len op A B 0 0 false
        rw [List.length_append] at h
        have h2 : (mix op A B).length = (mixA op A B 0 0 false).length := rfl
        omega
      clear heq
      push_cast at tA tB
      go_wp2_with fail
      (try rw [tA, tB])
      refine (HK.out.run _ _ _).mono ?_
      rintro e w5 ⟨rfl, rfl⟩
      clear tA tB
      have HO := Lib.hid HM.out.own
      have HBE := Lib.hid HM.out.be
      have HEQ2 := Lib.hid (show out ++ stepL op on xb (i) (k + 1) A B = mix op A B from HEQ.out)
      clear HM HEQ
      by_cases hne : op (odd (i)) (odd (k + 1)) = on
      · have HM2 := Lib.hid (show MixI w.heap.size w op A B (i) (k + 1) on u7 out wr from ⟨HO.out, HBE.out, by have := HEQ2.out; rw [stepL, if_neg (by simp [hne])] at this; exact this⟩)
        clear HEQ2 HO
        rw [hne]
        go_wp2
        go_roundw
        case rel => exact ⟨i, k + 1, on, out, by go_num, by go_num, rfl, by omega, by omega, HM2⟩
        case measure => simp [intOf] <;> omega
      · have heq2 := HEQ2.out
        rw [stepL, if_pos (by simp [hne])] at heq2
        generalize op (odd (i)) (odd (k + 1)) = nw at hne heq2 ⊢
        have HEQ3 := Lib.hid heq2
        have hq : (!(nw == on)) = true := by cases nw <;> cases on <;> simp_all
        clear heq2 HEQ2
        have hz := HBE.out.size
        have HOA := Lib.hid (row_later HO.out (below_al (Below.refl wr.heap.size wr) (.cells #[.int .i64 xb] 3)))
        go_wp2_with (at_builtin; go_must (refine append_keep rfl (.tmp 83) (.tmp 85) 46 rfl w.heap.size 3 i0 (.int .i64 0) 1 8 Try.underlying46 HI.out.1 HI.out.2.1 HI.out.2.2.1 HI.out.2.2.2 rfl (by decide) _ out.length _ rfl HOA.out ⟨wr.heap.size, 0, none⟩ 1 1 [.int .i64 xb] rfl rfl ?e0 ?e1 ?e2 ?e3 ?e4 ?_))
        (try case e0 => exact World.news_of_block (cs := #[.int .i64 xb]) (t := 3) (fr := (0, 0)) (heap_alloc_new _ _))
        case e1 => (intro u hu; simp at hu; subst hu; rfl)
        case e2 => unfold maxLen; omega
        case e3 => omega
        case e4 => first | omega | (simp; omega)
        intro v6 w6 own6 gr6 loc6
        have BE6 : Below w.heap.size w w6 := Below.grown (HBE.out.trans ((below_al (Below.refl wr.heap.size wr) _).mono hz)) gr6 (by simp; omega) (fun q hq => (row_lt HOA.out q hq).2)
        have HM2 := Lib.hid (show MixI w.heap.size w op A B (i) (k + 1) nw v6 (out ++ [xb]) w6 from ⟨by rw [vI_app, List.length_append]; exact own6, BE6, by rw [List.append_assoc]; exact HEQ3.out⟩)
        clear own6 gr6 loc6 BE6 HOA HO HEQ3 HBE
        go_wp2
        go_roundw
        case rel => exact ⟨i, k + 1, nw, _, by go_num, by go_num, rfl, by omega, by omega, HM2⟩
        case measure => simp [intOf] <;> omega
    · skip
      have heq := HM.out.eq
      rw [mixA_eq op on h1 h2 h3] at heq
      obtain ⟨ga, oa, rfl, za, hca⟩ := HRA.out (by omega)
      have ca0 := hca i (by omega)
      have ba := HFA.out (A.getD i 0) (by rw [List.getD_eq_getElem?_getD, List.getElem?_eq_getElem h1]; exact List.getElem_mem h1)
      clear hca
      have h1i : (i : Int) < (A.length : Int) := by omega
      obtain ⟨gb, ob, rfl, zb, hcb⟩ := HRB.out (by omega)
      have cb0 := hcb k (by omega)
      have bb := HFB.out (B.getD k 0) (by rw [List.getD_eq_getElem?_getD, List.getElem?_eq_getElem h2]; exact List.getElem_mem h2)
      clear hcb
      have h2i : (k : Int) < (B.length : Int) := by omega
      generalize A.getD i 0 = xa at *
      generalize B.getD k 0 = xb at *
      have mA : min (8388608 : Int) xa = xa := by omega
      have mB : min xa xb = xa := by omega
      subst h3
      have tA := odd_dec (i + 1)
      have tB := odd_dec (k + 1)
      have HEQ := Lib.hid heq
      have bOut : out.length ≤ 2147483648 := by
        have h := congrArg List.length HM.out.eq
        have h1 := mixA_len op A B 0 0 false
        rw [List.length_append] at h
        have h2 : (mix op A B).length = (mixA op A B 0 0 false).length := rfl
        omega
      clear heq
      push_cast at tA tB
      go_wp2_with fail
      (try rw [tA, tB])
      refine (HK.out.run _ _ _).mono ?_
      rintro e w5 ⟨rfl, rfl⟩
      clear tA tB
      have HO := Lib.hid HM.out.own
      have HBE := Lib.hid HM.out.be
      have HEQ2 := Lib.hid (show out ++ stepL op on xa (i + 1) (k + 1) A B = mix op A B from HEQ.out)
      clear HM HEQ
      by_cases hne : op (odd (i + 1)) (odd (k + 1)) = on
      · have HM2 := Lib.hid (show MixI w.heap.size w op A B (i + 1) (k + 1) on u7 out wr from ⟨HO.out, HBE.out, by have := HEQ2.out; rw [stepL, if_neg (by simp [hne])] at this; exact this⟩)
        clear HEQ2 HO
        rw [hne]
        go_wp2
        go_roundw
        case rel => exact ⟨i + 1, k + 1, on, out, by go_num, by go_num, rfl, by omega, by omega, HM2⟩
        case measure => simp [intOf] <;> omega
      · have heq2 := HEQ2.out
        rw [stepL, if_pos (by simp [hne])] at heq2
        generalize op (odd (i + 1)) (odd (k + 1)) = nw at hne heq2 ⊢
        have HEQ3 := Lib.hid heq2
        have hq : (!(nw == on)) = true := by cases nw <;> cases on <;> simp_all
        clear heq2 HEQ2
        have hz := HBE.out.size
        have HOA := Lib.hid (row_later HO.out (below_al (Below.refl wr.heap.size wr) (.cells #[.int .i64 xa] 3)))
        go_wp2_with (at_builtin; go_must (refine append_keep rfl (.tmp 83) (.tmp 85) 46 rfl w.heap.size 3 i0 (.int .i64 0) 1 8 Try.underlying46 HI.out.1 HI.out.2.1 HI.out.2.2.1 HI.out.2.2.2 rfl (by decide) _ out.length _ rfl HOA.out ⟨wr.heap.size, 0, none⟩ 1 1 [.int .i64 xa] rfl rfl ?e0 ?e1 ?e2 ?e3 ?e4 ?_))
        (try case e0 => exact World.news_of_block (cs := #[.int .i64 xa]) (t := 3) (fr := (0, 0)) (heap_alloc_new _ _))
        case e1 => (intro u hu; simp at hu; subst hu; rfl)
        case e2 => unfold maxLen; omega
        case e3 => omega
        case e4 => first | omega | (simp; omega)
        intro v6 w6 own6 gr6 loc6
        have BE6 : Below w.heap.size w w6 := Below.grown (HBE.out.trans ((below_al (Below.refl wr.heap.size wr) _).mono hz)) gr6 (by simp; omega) (fun q hq => (row_lt HOA.out q hq).2)
        have HM2 := Lib.hid (show MixI w.heap.size w op A B (i + 1) (k + 1) nw v6 (out ++ [xa]) w6 from ⟨by rw [vI_app, List.length_append]; exact own6, BE6, by rw [List.append_assoc]; exact HEQ3.out⟩)
        clear own6 gr6 loc6 BE6 HOA HO HEQ3 HBE
        go_wp2
        go_roundw
        case rel => exact ⟨i + 1, k + 1, nw, _, by go_num, by go_num, rfl, by omega, by omega, HM2⟩
        case measure => simp [intOf] <;> omega
end Go.Proofs.Ytekcheccelllcaa
