/- Layer 07: RectOrder. -/
import Derived.Test.YtekcheccelllcaaRgR
namespace Go.Proofs.Ytekcheccelllcaa
open Go.RowKit
set_option linter.unusedVariables false
set_option linter.unusedSimpArgs false

/-- the cells of those rectangles that P tells -/
def covB (L : List R4) (P : Nat → Bool) (x y : Int) : Bool := (List.range L.length).any fun k => P k && inX (bxR (L.getD k zR)) x y
theorem covB_iff (L : List R4) (P : Nat → Bool) (x y : Int) : covB L P x y = true ↔ ∃ k, k < L.length ∧ P k = true ∧ inX (bxR (L.getD k zR)) x y = true := by
  unfold covB
  rw [List.any_eq_true]
  constructor
  · rintro ⟨k, h1, h2⟩
    have := Bool.and_eq_true_iff.1 h2
    exact ⟨k, List.mem_range.1 h1, this.1, this.2⟩
  · rintro ⟨k, h1, h2, h3⟩
    exact ⟨k, List.mem_range.2 h1, by rw [h2, h3]; rfl⟩
theorem covB_none (L : List R4) (P : Nat → Bool) (h : ∀ k, k < L.length → P k = false) (x y : Int) : covB L P x y = false := by
  cases hq : covB L P x y
  · rfl
  · obtain ⟨k, h1, h2, _⟩ := (covB_iff L P x y).1 hq
    rw [h k h1] at h2; cases h2
theorem covB_congr (L : List R4) (P Q : Nat → Bool) (h : ∀ k, k < L.length → P k = Q k) (x y : Int) : covB L P x y = covB L Q x y := by
  rw [Bool.eq_iff_iff, covB_iff, covB_iff]
  constructor
  · rintro ⟨k, h1, h2, h3⟩; exact ⟨k, h1, by rw [← h k h1]; exact h2, h3⟩
  · rintro ⟨k, h1, h2, h3⟩; exact ⟨k, h1, by rw [h k h1]; exact h2, h3⟩
/-- one more -/
theorem covB_add (L : List R4) (P Q : Nat → Bool) (k : Nat) (hk : k < L.length) (h : ∀ j, j < L.length → Q j = (P j || decide (j = k))) (x y : Int) : covB L Q x y = (covB L P x y || inX (bxR (L.getD k zR)) x y) := by
  rw [Bool.eq_iff_iff, Bool.or_eq_true, covB_iff, covB_iff]
  constructor
  · rintro ⟨j, h1, h2, h3⟩
    rw [h j h1, Bool.or_eq_true] at h2
    rcases h2 with h2 | h2
    · exact .inl ⟨j, h1, h2, h3⟩
    · rw [of_decide_eq_true h2] at h3; exact .inr h3
  · rintro (⟨j, h1, h2, h3⟩ | h3)
    · exact ⟨j, h1, by rw [h j h1, h2]; rfl, h3⟩
    · exact ⟨k, hk, by rw [h k hk]; simp, h3⟩
theorem covB_all (L : List R4) (P : Nat → Bool) (h : ∀ k, k < L.length → P k = true) (x y : Int) : covB L P x y = L.any fun r => inX (bxR r) x y := by
  rw [Bool.eq_iff_iff, covB_iff, List.any_eq_true]
  constructor
  · rintro ⟨k, h1, _, h3⟩
    exact ⟨L.getD k zR, by rw [List.getD_eq_getElem?_getD, List.getElem?_eq_getElem h1]; exact List.getElem_mem h1, h3⟩
  · rintro ⟨r, h1, h3⟩
    obtain ⟨k, hk, rfl⟩ := List.getElem_of_mem h1
    exact ⟨k, hk, h k hk, by rw [List.getD_eq_getElem?_getD, List.getElem?_eq_getElem hk]; exact h3⟩
theorem infoBool7_ : (Try.prog.info? 4).map (fun i => (i.zero, i.size, i.bytes)) = some (some (.bool false), 1, 1) := by kernel_rfl
/-- enough calls -/
theorem enough_yes (k : Nat) (hk : k ≤ 140737488351232) (h : enoughB k = true) (w : World) : Calls Try.prog 34 #[.int .i64 k] w fun e w' => e = .returned (.bool true) ∧ w = w' := by
  by_cases h1 : 1000 < k
  · have h1i : (1000 : Int) < (k : Int) := by omega
    clear h
    go_enter Try.func34, Try.ntmps34
    go_wp2
    go_ret
    exact ⟨rfl, rfl⟩
  · have h1i : ¬ (1000 : Int) < (k : Int) := by omega
    have h2 : 1024 < (2 * k - 1) * k := by
      unfold enoughB at h
      simp [h1] at h
      exact h
    have hk1 : 1 ≤ k := by
      rcases Nat.eq_zero_or_pos k with e | e
      · subst e; simp at h2
      · exact e
    have h3 : (2 * k - 1) * k ≤ 2000 * 1000 := Nat.mul_le_mul (by omega) (by omega)
    have e1 : (((2 * k - 1) * k : Nat) : Int) = (2 * (k : Int) - 1) * (k : Int) := by
      rw [Int.natCast_mul]
      congr 1
      omega
    obtain ⟨t, ht⟩ : ∃ t, t = (2 * (k : Int) - 1) * (k : Int) := ⟨_, rfl⟩
    have b1 : (1024 : Int) < t := by omega
    have b2 : t ≤ 2000000 := by omega
    have b3 : (k : Int) ≤ 1000 := by omega
    have ht2 := ht.symm
    clear h h1 h2 h3 e1 ht
    go_enter Try.func34, Try.ntmps34
    go_wp2
    go_ret
    exact ⟨rfl, rfl⟩

def bV (l : List Bool) : List Value := l.map Value.bool
structure OrdI (L : List R4) (w1 w2 wr : World) (h : Nat) (f : Int) (P : Nat → Bool) (dv : Value) (dn : List Bool) : Prop where
  be : Below w1.heap.size w1 wr
  dl : dn.length = L.length
  dw : wr.ownsRow w2.heap.size 4 1 dv L.length (bV dn)
  hr : f = 0 → ∃ v l, RegAt w1.heap.size wr h v l ∧ RegOk (bdsOf l) ∧ ∀ x y, inB (bdsOf l) x y = covB L P x y
  f01 : f = 0 ∨ f = 4
section
variable {L : List R4} {w1 w2 wr w' : World} {h : Nat} {f : Int} {P Q : Nat → Bool} {dv : Value} {dn : List Bool}
theorem OrdI.later (S : OrdI L w1 w2 wr h f P dv dn) (hb : Below wr.heap.size wr w') : OrdI L w1 w2 w' h f P dv dn :=
  ⟨below_via hb S.be, S.dl, row_later S.dw hb, fun e => by obtain ⟨v, l, a, b, c⟩ := S.hr e; exact ⟨v, l, a.later hb, b, c⟩, S.f01⟩
theorem OrdI.congr (S : OrdI L w1 w2 wr h f P dv dn) (hq : ∀ k, k < L.length → P k = Q k) : OrdI L w1 w2 wr h f Q dv dn :=
  ⟨S.be, S.dl, S.dw, fun e => by obtain ⟨v, l, a, b, c⟩ := S.hr e; exact ⟨v, l, a, b, fun x y => by rw [c, covB_congr L P Q hq]⟩, S.f01⟩
theorem OrdI.added (S : OrdI L w1 w2 wr h f P dv dn) (hh : w1.heap.size ≤ h) (hlt : h < w2.heap.size) {v : Value} {l : List BV} (ha : RegAt w1.heap.size wr h v l) (hok : RegOk (bdsOf l)) (hin : ∀ x y, inB (bdsOf l) x y = covB L P x y) {k : Nat} (hk : k < L.length) (hQ : ∀ j, j < L.length → Q j = (P j || decide (j = k))) {e : Ending} (hc : ChgR w1.heap.size wr opAdd h v l (bxR (L.getD k zR)) e w') : ∃ cd, e = .returned (.int .i64 cd) ∧ OrdI L w1 w2 w' h cd Q dv dn := by
  obtain ⟨he, v', l', q1, q2, q3, q4⟩ := hc
  refine ⟨_, he, S.be.trans (q3.under (fun k hk => by rw [hk]; exact hh) S.be.size), S.dl, row_keepB S.dw fun q hq => q3.block q (row_lt S.dw q hq).1 (fun e => by have := (row_lt S.dw q hq).2; have e : q = h := e; omega), fun e0 => ?_, ?_⟩
  · by_cases hf : 1024 < cntB (chgB opAdd (bdsOf l) (bxR (L.getD k zR)))
    · rw [if_pos hf] at e0; cases e0
    · rw [if_neg hf] at q2
      refine ⟨v', l', q1, ?_, fun x y => ?_⟩
      · rw [q2]; exact ⟨chgB_can rfl hok.can (bxR_ok _), chgB_in_plane _ hok.pl (bxR_in _), by omega⟩
      · rw [q2, chgB_in rfl hok.can (bxR_ok _), hin, covB_add L P Q k hk hQ]; rfl
  · split
    · exact .inr rfl
    · exact .inl rfl
theorem OrdI.mark {q c : Nat} (S : OrdI L w1 w2 wr h f P (.slice (some ⟨q, 0, none⟩) L.length c) dn) (hz : w1.heap.size ≤ w2.heap.size) (k : Nat) : OrdI L w1 w2 (wr.setCell ⟨q, k, none⟩ (.bool true)) h f P (.slice (some ⟨q, 0, none⟩) L.length c) (dn.set k true) := by
  have hq := (row_lt S.dw q rfl).2
  have kp : ∀ b, b ≠ q → (wr.setCell ⟨q, k, none⟩ (.bool true)).heap[b]? = wr.heap[b]? := fun b hb => heap_setCell_other _ _ _ _ hb
  refine ⟨S.be.setCell (p := ⟨q, k, none⟩) (Nat.le_trans hz hq) _, by rw [List.length_set]; exact S.dl, ?_, fun e => ?_, S.f01⟩
  · have := (S.dw.stored k (.bool true)).1
    have e : bV (dn.set k true) = (bV dn).set k (.bool true) := by unfold bV; rw [List.map_set]
    rw [e]; exact this
  · obtain ⟨v, l, a, b, c'⟩ := S.hr e
    refine ⟨v, l, a.keep fun t ht => kp t fun e2 => ?_, b, c'⟩
    subst e2
    rcases ht with rfl | ht | ⟨d, hd, ht⟩
    · exact row_ne_blk S.dw a.pr (by decide) rfl
    · rcases row_ne a.bn.row S.dw (by decide) with h3 | h3
      · rw [h3] at ht; cases ht
      · exact h3 ht
    · rcases row_ne (a.bn.en d hd) S.dw (by decide) with h3 | h3
      · rw [h3] at ht; cases ht
      · exact h3 ht
end
set_option maxRecDepth 100000 in
set_option maxHeartbeats 16000000 in
theorem RectOrder_walk (p : Option Addr) (n c : Nat) (L : List R4) (po : Option Addr) (co : Nat) (O : List Int) (w : World) (hL : L.length = n) (hlen : n ≤ 4398046511104) (hp : SlAt w p L) (hr : ∀ r ∈ L, isR r) (hO : RdI w po O) (hOl : O.length ≤ 140737488351232) : Calls Try.prog 10 #[.slice p n c, .slice po O.length co] w fun e w' => e = .returned (.bool true) ∧ Below w.heap.size w w' := by
  have HL := Lib.hid hL
  have HP := Lib.hid hp
  have HRR := Lib.hid hr
  have HO := Lib.hid hO
  clear hp hr hO
  obtain ⟨i0, hi0, hz0, hz1, hz2⟩ := info_parts infoBool7_
  have HI0 := Lib.hid (And.intro hi0 (And.intro hz0 (And.intro hz1 hz2)))
  clear hi0 hz0 hz1 hz2
  go_enter Try.func10, Try.ntmps10
  go_wp2_with fail
  refine (new_any p n c L w hL (by omega) HP.out HRR.out).mono ?_
  intro e wa hn
  obtain ⟨pgv, e0, rfl, hg⟩ : ∃ pgv e0, e = .returned (.tuple #[pgv, .int .i64 e0]) ∧ ((e0 = 4 ∧ enoughB n = true) ∨ (e0 = 0 ∧ ∃ g v l, pgv = .pointer (some ⟨g, 0, none⟩) ∧ RegAt w.heap.size wa g v l ∧ newB L = some (bdsOf l))) := by
    have h2 := hn.2
    cases hq : newB L with
    | none => rw [hq] at h2; exact ⟨_, _, h2, .inl ⟨rfl, by rw [← hL]; exact newB_none hq⟩⟩
    | some bs => rw [hq] at h2; obtain ⟨g, v, l, h3, h4, h5⟩ := h2; exact ⟨_, _, h3, .inr ⟨rfl, g, v, l, rfl, h4, by rw [h5]⟩⟩
  have HG := Lib.hid hg
  have HBA := Lib.hid hn.1
  clear hn hg
  go_upto_region 2 with (fail)
  go_cut [26] (fun s wx => s = .bool false ∧ RowKit.Hid (Below wa.heap.size wa wx))
  case first =>
    rcases HG.out with ⟨he, hen⟩ | ⟨he, _⟩
    · subst he
      have HEN := Lib.hid hen
      clear hen
      go_wp2_with fail
      refine (enough_yes n (by omega) HEN.out _).mono ?_
      rintro e w9 ⟨rfl, rfl⟩
      go_wp2
      all_goals go_meet
      all_goals exact ⟨rfl, Lib.hid (by first | exact Below.refl _ _ | exact below_drewN (Below.refl _ _) _)⟩
    · subst he
      go_wp2
      all_goals go_meet
      all_goals exact ⟨rfl, Lib.hid (by first | exact Below.refl _ _ | exact below_drewN (Below.refl _ _) _)⟩
  case rest =>
    obtain ⟨rfl, HB1⟩ := hcut
    obtain ⟨w1, hw1⟩ : ∃ q : World, q = wc := ⟨_, rfl⟩
    rw [← hw1] at HB1 ⊢
    clear hw1
    go_wp2_with fail
    refine (new_any none 0 0 [] w1 rfl (by omega) (fun h => absurd rfl h) (fun r hr => (by cases hr))).mono ?_
    intro e w2 hn
    obtain ⟨hb2, gh, vh, lh, rfl, hreg, hnil⟩ : Below w1.heap.size w1 w2 ∧ ∃ g v l, e = .returned (.tuple #[.pointer (some ⟨g, 0, none⟩), .int .i64 0]) ∧ RegAt w1.heap.size w2 g v l ∧ bdsOf l = [] := hn
    have HB2 := Lib.hid hb2
    have HRG := Lib.hid hreg
    have hzz : gh < w2.heap.size := lt_of_block hreg.pr
    have HHB := Lib.hid hreg.bg
    have HNL := Lib.hid hnil
    clear hb2 hreg hnil
    go_wp2
    go_loopw [9, 10] (fun dv iv wr => ∃ i : Nat, iv = .int .i64 i ∧ i ≤ n ∧ RowKit.Hid (Below w2.heap.size w2 wr ∧ wr.ownsRow w2.heap.size 4 1 dv i (bV (List.replicate i false)))) (fun _ iv _ => n - (intOf iv).toNat)
    case atStart => exact ⟨0, rfl, Nat.zero_le _, Lib.hid ⟨Below.refl _ _, ⟨rfl, .inl ⟨rfl, rfl⟩⟩⟩⟩
    case round =>
      obtain ⟨i, rfl, hi, HI⟩ := hrel
      have hzr := HI.out.1.size
      by_cases hlt : i < n
      · have hii : (i : Int) < (n : Int) := by omega
        have HOA := Lib.hid (row_later HI.out.2 (below_al (Below.refl wr.heap.size wr) (.cells #[.bool false] 4)))
        go_wp2_with (at_builtin; go_must (refine append_keep rfl (.tmp 43) (.tmp 44) 52 rfl w2.heap.size 4 i0 (.bool false) 1 1 Try.underlying52 HI0.out.1 HI0.out.2.1 HI0.out.2.2.1 HI0.out.2.2.2 rfl (by decide) _ i _ rfl HOA.out ⟨wr.heap.size, 0, none⟩ 1 1 [.bool false] rfl rfl ?e0 ?e1 ?e2 ?e3 ?e4 ?_))
        (try case e0 => exact World.news_of_block (cs := #[.bool false]) (t := 4) (fr := (0, 0)) (heap_alloc_new _ _))
        case e1 => (intro u hu; simp at hu; subst hu; rfl)
        case e2 => unfold maxLen; omega
        case e3 => omega
        case e4 => first | omega | (simp; omega)
        intro v6 w6 own6 gr6 loc6
        have hbv : bV (List.replicate (i + 1) false) = bV (List.replicate i false) ++ [.bool false] := by unfold bV; rw [List.replicate_succ', List.map_append]; rfl
        have HI2 := Lib.hid (show Below w2.heap.size w2 w6 ∧ w6.ownsRow w2.heap.size 4 1 v6 (i + 1) (bV (List.replicate (i + 1) false)) from ⟨Below.grown (HI.out.1.trans ((below_al (Below.refl wr.heap.size wr) _).mono hzr)) gr6 (by simp; omega) (fun q hq => (row_lt HOA.out q hq).2), by rw [hbv]; exact own6⟩)
        clear own6 gr6 loc6 HOA HI hbv
        go_wp2
        go_roundw
        case rel => exact ⟨i + 1, by go_num, by omega, HI2⟩
        case measure => simp [intOf] <;> omega
      · have hii : ¬ (i : Int) < (n : Int) := by omega
        obtain rfl : n = i := by omega
        obtain ⟨pd, cd, rfl⟩ := row_slice HI.out.2
        have HS := Lib.hid (show OrdI L w1 w2 wr gh 0 (fun k => (List.replicate n false).getD k false) (.slice pd n cd) (List.replicate n false) from
          ⟨HB2.out.trans (HI.out.1.mono HB2.out.size), by simp [hL], by rw [hL]; exact HI.out.2, fun _ => ⟨_, lh, HRG.out.later HI.out.1, by rw [HNL.out]; exact regOk_nil, fun x y => by rw [HNL.out, covB_none L _ (fun k hk => by simp [List.getD_eq_getElem?_getD, List.getElem?_replicate]; split <;> rfl)]; rfl⟩, .inl rfl⟩)
        have hzr2 := HI.out.1.size
        clear HI
        go_wp2
        go_loopw [8, 11] (fun fv iv wr => ∃ (i : Nat) (f : Int) (dn : List Bool), iv = .int .i64 i ∧ fv = .int .i64 f ∧ i ≤ O.length ∧ RowKit.Hid (OrdI L w1 w2 wr gh f (fun k => dn.getD k false) (.slice pd n cd) dn)) (fun _ iv _ => O.length - (intOf iv).toNat)
        case atStart => exact ⟨0, 0, _, rfl, rfl, Nat.zero_le _, HS⟩
        case round =>
          clear HS
          obtain ⟨i, f, dn, rfl, rfl, hi, HS⟩ := hrel
          have hzs := HS.out.be.size
          by_cases hlt : i < O.length
          · have hii : (i : Int) < (O.length : Int) := by omega
            have hob := HO.out.later (HBA.out.trans ((HB1.out.trans (HS.out.be.mono HB1.out.size)).mono HBA.out.size)) (Nat.le_refl _)
            obtain ⟨go, oo, rfl, zo, hoc⟩ := hob (by omega)
            have oc := hoc i hlt
            obtain ⟨k0, hk0⟩ : ∃ t, t = O.getD i 0 := ⟨_, rfl⟩
            rw [← hk0] at oc
            have HOC := Lib.hid oc
            clear hoc hob hk0
            go_upto_region 16 with (fail)
            clear oc
            go_cut [67] (fun s wx => s = .bool (decide (0 ≤ k0 ∧ k0 < (n : Int) ∧ f = 0)) ∧ RowKit.Hid (Below wr.heap.size wr wx))
            case first =>
              by_cases h1 : 0 ≤ k0
              · by_cases h2 : k0 < (n : Int)
                · rcases HS.out.f01 with rfl | rfl
                  · go_wp2
                    all_goals go_meet
                    all_goals exact ⟨by simp [h1, h2], Lib.hid (by first | exact Below.refl _ _ | exact below_drewN (Below.refl _ _) _)⟩
                  · go_wp2
                    all_goals go_meet
                    all_goals exact ⟨by simp, Lib.hid (by first | exact Below.refl _ _ | exact below_drewN (Below.refl _ _) _)⟩
                · go_wp2
                  all_goals go_meet
                  all_goals exact ⟨by (simp [h1, h2]; try (intros; omega)), Lib.hid (by first | exact Below.refl _ _ | exact below_drewN (Below.refl _ _) _)⟩
              · go_wp2
                all_goals go_meet
                all_goals exact ⟨by (simp [h1]; try (intros; omega)), Lib.hid (by first | exact Below.refl _ _ | exact below_drewN (Below.refl _ _) _)⟩
            case rest =>
              obtain ⟨rfl, HW⟩ := hcut
              obtain ⟨wj, hwj⟩ : ∃ q : World, q = wc := ⟨_, rfl⟩
              rw [← hwj] at HW ⊢
              clear hwj
              have HSJ := Lib.hid (HS.out.later HW.out)
              clear HS HW
              by_cases hc : 0 ≤ k0 ∧ k0 < (n : Int) ∧ f = 0
              · rw [decide_eq_true hc]
                obtain ⟨k, rfl⟩ : ∃ k : Nat, k0 = (k : Int) := ⟨k0.toNat, by omega⟩
                have hk : k < n := by omega
                have hki : (k : Int) < (n : Int) := by omega
                obtain rfl : f = 0 := hc.2.2
                clear hc
                have hpb := HP.out.later (HBA.out.trans ((HB1.out.trans (HSJ.out.be.mono HB1.out.size)).mono HBA.out.size))
                obtain ⟨rb, ro, rfl, zr, hrc⟩ := hpb (by rw [hL]; omega)
                have hc := hrc k (by rw [hL]; exact hk)
                obtain ⟨r, hr⟩ : ∃ r, r = L.getD k zR := ⟨_, rfl⟩
                rw [← hr] at hc
                obtain ⟨c0, c1, c2, c3⟩ := hc
                have HRI := Lib.hid (HRR.out r (by rw [hr, List.getD_eq_getElem?_getD, List.getElem?_eq_getElem (by rw [hL]; exact hk)]; exact List.getElem_mem _))
                have HRE := Lib.hid hr
                clear hrc hr hpb
                obtain ⟨v, l, hreg, hok, hin⟩ := HSJ.out.hr rfl
                have HRG2 := Lib.hid hreg
                have HOK2 := Lib.hid hok
                have HIN := Lib.hid hin
                clear hreg hok hin
                go_wp2_with fail
                refine (add_any w1.heap.size wj gh v l HRG2.out HOK2.out r HRI.out).mono ?_
                intro e w5 hcr
                rw [HRE.out] at hcr
                obtain ⟨cd5, rfl, hs5⟩ := HSJ.out.added (Q := fun t => (dn.set k true).getD t false) HHB.out hzz HRG2.out HOK2.out HIN.out (k := k) (by rw [hL]; exact hk) (fun t ht => by
                  have hdl : t < dn.length := by rw [HSJ.out.dl]; exact ht
                  simp only [List.getD_eq_getElem?_getD, List.getElem?_set]
                  by_cases e : k = t
                  · subst e; simp [hdl]
                  · rw [if_neg e]; simp [Ne.symm e]) hcr
                clear hcr c0 c1 c2 c3
                obtain ⟨qd, rfl⟩ : ∃ g, pd = some ⟨g, 0, none⟩ := by
                  rcases row_form hs5.dw with ⟨_, h, _⟩ | ⟨g, c, h, _⟩
                  · rw [hL] at h; omega
                  · injection h with e1 e2 e3; exact ⟨g, e1⟩
                have hdw := hs5.dw
                rw [hL] at hdw
                have k9 := row_cells hdw k (.bool (dn.getD k false)) (by unfold bV; rw [List.getElem?_map, List.getD_eq_getElem?_getD]; rw [List.getElem?_eq_getElem (by rw [HSJ.out.dl, hL]; exact hk)]; rfl)
                rw [Nat.zero_add] at k9
                have f9 := hdw.frozenAt k
                have z9 := (row_lt hdw qd rfl).1
                have HMK := Lib.hid (show OrdI L w1 w2 (w5.setCell ⟨qd, k, none⟩ (.bool true)) gh cd5 (fun t => (dn.set k true).getD t false) (.slice (some ⟨qd, 0, none⟩) n cd) (dn.set k true) from by have := OrdI.mark (hL.symm ▸ hs5) HB2.out.size k; rw [hL] at this; exact this)
                clear hs5 hdw HRG2 HOK2 HIN HRE HRI
                go_wp2
                go_roundw
                case rel => exact ⟨i + 1, cd5, _, by go_num, rfl, by omega, HMK⟩
                case measure => simp [intOf] <;> omega
              · rw [decide_eq_false hc]
                clear hc
                go_wp2
                go_roundw
                case rel => exact ⟨i + 1, f, dn, by go_num, rfl, by omega, HSJ⟩
                case measure => simp [intOf] <;> omega
          · have hii : ¬ (i : Int) < (O.length : Int) := by omega
            have HS3 := Lib.hid (show OrdI L w1 w2 wr gh f (fun k => dn.getD k false || decide (n ≤ k)) (.slice pd n cd) dn from HS.out.congr (fun k hk => by rw [hL] at hk; simp [show ¬ n ≤ k by omega]))
            clear HS
            go_wp2
            go_loopw [8, 13] (fun fv iv wr => ∃ (i : Nat) (f j : Int), iv = .int .i64 j ∧ j = (i : Int) - 1 ∧ fv = .int .i64 f ∧ i ≤ n ∧ RowKit.Hid (OrdI L w1 w2 wr gh f (fun k => dn.getD k false || decide (i ≤ k)) (.slice pd n cd) dn)) (fun _ iv _ => (intOf iv + 1).toNat)
            case atStart => exact ⟨n, f, _, rfl, by omega, rfl, Nat.le_refl _, HS3⟩
            case round =>
              clear HS3 hii hi hlt hzs
              obtain ⟨i, f, j, rfl, hj, rfl, hi, HS⟩ := hrel
              have hzs := HS.out.be.size
              by_cases hlt : 0 < i
              · obtain ⟨t, ht⟩ : ∃ t : Nat, i = t + 1 := ⟨i - 1, by omega⟩
                subst ht
                obtain rfl : j = (t : Int) := by omega
                clear hj hlt
                have htn : t < n := by omega
                have hti : (t : Int) < (n : Int) := by omega
                have ht0 : (0 : Int) ≤ (t : Int) := by omega
                obtain ⟨qd, rfl⟩ : ∃ g, pd = some ⟨g, 0, none⟩ := by
                  rcases row_form HS.out.dw with ⟨_, h, _⟩ | ⟨g, c, h, _⟩
                  · rw [hL] at h; omega
                  · injection h with e1 e2 e3; exact ⟨g, e1⟩
                have hdw := HS.out.dw
                rw [hL] at hdw
                have k9 := row_cells hdw t (.bool (dn.getD t false)) (by unfold bV; rw [List.getElem?_map, List.getD_eq_getElem?_getD]; rw [List.getElem?_eq_getElem (by rw [HS.out.dl, hL]; exact htn)]; rfl)
                rw [Nat.zero_add] at k9
                have z9 := (row_lt hdw qd rfl).1
                clear hdw
                obtain ⟨dt, hdt⟩ : ∃ q, q = dn.getD t false := ⟨_, rfl⟩
                rw [← hdt] at k9
                have HDT := Lib.hid hdt
                have HK9 := Lib.hid k9
                clear hdt
                go_upto_region 22 with (fail)
                go_cut [92] (fun s wx => s = .bool (!dt && decide (f = 0)) ∧ RowKit.Hid (Below wr.heap.size wr wx))
                case first =>
                  cases dt
                  · rcases HS.out.f01 with rfl | rfl
                    · go_wp2
                      all_goals go_meet
                      all_goals exact ⟨by simp, Lib.hid (by first | exact Below.refl _ _ | exact below_drewN (Below.refl _ _) _)⟩
                    · go_wp2
                      all_goals go_meet
                      all_goals exact ⟨by simp, Lib.hid (by first | exact Below.refl _ _ | exact below_drewN (Below.refl _ _) _)⟩
                  · go_wp2
                    all_goals go_meet
                    all_goals exact ⟨by simp, Lib.hid (by first | exact Below.refl _ _ | exact below_drewN (Below.refl _ _) _)⟩
                case rest =>
                  obtain ⟨rfl, HW⟩ := hcut
                  obtain ⟨wj, hwj⟩ : ∃ q : World, q = wc := ⟨_, rfl⟩
                  rw [← hwj] at HW ⊢
                  clear hwj k9 z9 HK9
                  have HSJ := Lib.hid (HS.out.later HW.out)
                  clear HS HW
                  by_cases hc : dt = false ∧ f = 0
                  · obtain ⟨rfl, rfl⟩ := hc
                    have hpb := HP.out.later (HBA.out.trans ((HB1.out.trans (HSJ.out.be.mono HB1.out.size)).mono HBA.out.size))
                    obtain ⟨rb, ro, rfl, zr, hrc⟩ := hpb (by rw [hL]; omega)
                    have hc := hrc t (by rw [hL]; exact htn)
                    obtain ⟨r, hr⟩ : ∃ r, r = L.getD t zR := ⟨_, rfl⟩
                    rw [← hr] at hc
                    obtain ⟨c0, c1, c2, c3⟩ := hc
                    have HRI := Lib.hid (HRR.out r (by rw [hr, List.getD_eq_getElem?_getD, List.getElem?_eq_getElem (by rw [hL]; exact htn)]; exact List.getElem_mem _))
                    have HRE := Lib.hid hr
                    clear hrc hr hpb
                    obtain ⟨v, l, hreg, hok, hin⟩ := HSJ.out.hr rfl
                    have HRG2 := Lib.hid hreg
                    have HOK2 := Lib.hid hok
                    have HIN := Lib.hid hin
                    clear hreg hok hin
                    go_wp2_with fail
                    refine (add_any w1.heap.size wj gh v l HRG2.out HOK2.out r HRI.out).mono ?_
                    intro e w5 hcr
                    rw [HRE.out] at hcr
                    obtain ⟨cd5, rfl, hs5⟩ := HSJ.out.added (Q := fun k => dn.getD k false || decide (t ≤ k)) HHB.out hzz HRG2.out HOK2.out HIN.out (k := t) (by rw [hL]; exact htn) (fun u hu => by
                      show (dn.getD u false || decide (t ≤ u)) = (dn.getD u false || decide (t + 1 ≤ u) || decide (u = t))
                      cases dn.getD u false
                      · by_cases e : u = t
                        · subst e; simp
                        · by_cases e2 : t ≤ u
                          · simp [e2, e, show t + 1 ≤ u by omega]
                          · simp [e2, e, show ¬ t + 1 ≤ u by omega]
                      · simp) hcr
                    have HMK := Lib.hid hs5
                    clear hcr c0 c1 c2 c3 hs5 HRG2 HOK2 HIN HRE HRI
                    go_wp2
                    go_roundw
                    case rel => exact ⟨t, cd5, _, by go_num, rfl, rfl, by omega, HMK⟩
                    case measure => simp [intOf] <;> omega
                  · have hcb : (!dt && decide (f = 0)) = false := by
                      cases dt
                      · simp; intro e; exact hc ⟨rfl, e⟩
                      · rfl
                    have HMK := Lib.hid (show OrdI L w1 w2 wj gh f (fun k => dn.getD k false || decide (t ≤ k)) (.slice (some ⟨qd, 0, none⟩) n cd) dn from by
                      cases hd : dt
                      · have hf : f ≠ 0 := fun e => hc ⟨hd, e⟩
                        exact ⟨HSJ.out.be, HSJ.out.dl, HSJ.out.dw, fun e => absurd e hf, HSJ.out.f01⟩
                      · refine HSJ.out.congr fun u hu => ?_
                        show (dn.getD u false || decide (t + 1 ≤ u)) = (dn.getD u false || decide (t ≤ u))
                        by_cases e : u = t
                        · subst e; rw [← HDT.out, hd]; rfl
                        · by_cases e2 : t ≤ u
                          · simp [e2, show t + 1 ≤ u by omega]
                          · simp [e2, show ¬ t + 1 ≤ u by omega])
                    rw [hcb]
                    clear hc hcb HSJ
                    go_wp2
                    go_roundw
                    case rel => exact ⟨t, f, _, by go_num, rfl, rfl, by omega, HMK⟩
                    case measure => simp [intOf] <;> omega
              · have hji : ¬ (0 : Int) ≤ j := by omega
                obtain rfl : i = 0 := by omega
                have HALL := Lib.hid (HS.out.congr (Q := fun _ => true) (fun k hk => by simp))
                have HF1 := HS.out.f01
                clear HS hj
                have HBW := Lib.hid (show Below w.heap.size w wr from HBA.out.trans ((HB1.out.trans (HALL.out.be.mono HB1.out.size)).mono HBA.out.size))
                have HBX := Lib.hid (show Below wa.heap.size wa wr from HB1.out.trans (HALL.out.be.mono HB1.out.size))
                have hwa := HBA.out.size
                rcases HG.out with ⟨he, _⟩ | ⟨he, g, vg, lg, hpg, hrg, hnb⟩
                · subst he
                  go_wp2_with fail
                  refine (wakes_any _).mono ?_
                  rintro e w9 ⟨rfl, hb9⟩
                  have HB9 := Lib.hid (below_via hb9 HBW.out)
                  clear hb9
                  go_wp2
                  go_ret
                  exact ⟨rfl, HB9.out⟩
                · subst he
                  subst hpg
                  rcases HF1 with rfl | rfl
                  · obtain ⟨vh2, lh2, hreg, hok, hin⟩ := HALL.out.hr rfl
                    have HGR := Lib.hid (hrg.later HBX.out)
                    have HGN := Lib.hid (newB_some hnb)
                    have HHR := Lib.hid hreg
                    have HHO := Lib.hid hok
                    have HEQ := Lib.hid (show bdsOf lg = bdsOf lh2 from HGN.out.ok.can.same hok.can (fun x y => by rw [HGN.out.cell, hin, covB_all L _ (fun k hk => rfl)]))
                    clear hreg hok hin hrg hnb
                    go_wp2_with fail
                    refine (rects_any w.heap.size wr g vg lg HGR.out HGN.out.ok).mono ?_
                    rintro e w5 ⟨v5, rfl, own5, hb5⟩
                    obtain ⟨p5, c5, rfl, hc5, sl5, _, _⟩ := own_sl own5 rfl
                    have HSL5 := Lib.hid sl5
                    have HB5 := Lib.hid hb5
                    clear own5 sl5 hb5
                    go_wp2_with fail
                    refine (rects_any w1.heap.size w5 gh vh2 lh2 (HHR.out.later HB5.out) HHO.out).mono ?_
                    rintro e w6 ⟨v6, rfl, own6, hb6⟩
                    obtain ⟨p6, c6, rfl, hc6, sl6, _, _⟩ := own_sl own6 rfl
                    have HSL6 := Lib.hid sl6
                    have HB6 := Lib.hid hb6
                    clear own6 sl6 hb6
                    have hl5 : (rctsB (bdsOf lg)).length ≤ 1024 := by rw [rctsB_len]; exact HGN.out.ok.few
                    go_wp2_with fail
                    refine (law_same_any p5 p6 _ _ c5 c6 (rctsB (bdsOf lg)) (rctsB (bdsOf lh2)) w6 rfl rfl (by omega) (HSL5.out.later HB6.out) HSL6.out).mono ?_
                    rintro e w7 ⟨bb, rfl, hbb, hb7⟩
                    obtain rfl : bb = true := hbb.2 (by rw [HEQ.out])
                    have HB7 := Lib.hid (below_via hb7 HB6.out)
                    clear hbb hb7
                    go_wp2_with fail
                    refine (area_any w.heap.size w7 g vg lg ((HGR.out.later HB5.out).later HB7.out) HGN.out.ok).mono ?_
                    rintro e w8 ⟨rfl, hb8⟩
                    have HB8 := Lib.hid (below_via hb8 HB7.out)
                    clear hb8
                    rw [HEQ.out]
                    go_wp2_with fail
                    refine (area_any w1.heap.size w8 gh vh2 lh2 ((HHR.out.later HB5.out).later HB8.out) HHO.out).mono ?_
                    rintro e w9 ⟨rfl, hb9⟩
                    have HB9 := Lib.hid (below_via hb9 HB8.out)
                    clear hb9
                    go_wp2_with fail
                    refine (wakes_any _).mono ?_
                    rintro e w10 ⟨rfl, hb10⟩
                    have HB10 := Lib.hid (below_via hb10 (below_via HB9.out (below_via HB5.out HBW.out)))
                    clear hb10
                    go_wp2
                    go_ret
                    exact ⟨rfl, HB10.out⟩
                  · go_wp2_with fail
                    refine (wakes_any _).mono ?_
                    rintro e w9 ⟨rfl, hb9⟩
                    have HB9 := Lib.hid (below_via hb9 HBW.out)
                    clear hb9
                    go_wp2
                    go_ret
                    exact ⟨rfl, HB9.out⟩
end Go.Proofs.Ytekcheccelllcaa
