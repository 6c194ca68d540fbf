/- Layer 07, the reference: Has, Area, Rects, New of a region. -/
import Derived.Test.YtekcheccelllcaaRfI
import Derived.Test.YtekcheccelllcaaRgU
import Derived.Test.YtekcheccelllcaaLntO
import Derived.BigQuiet
namespace Go.Proofs.Ytekcheccelllcaa
open Go.RowKit
set_option linter.unusedVariables false
set_option linter.unusedSimpArgs false

theorem row_srcQ {w : World} {base : Nat} {t : TypeId} {k n c : Nat} {A : Option Addr} {xs : List Value} (h : w.ownsRow base t k (.slice A n c) n xs) : Src w A n k xs := by
  refine ⟨h.1, fun h0 => ?_⟩
  rcases row_form h with ⟨_, e, _⟩ | ⟨g, c', e, _, _, hg, _⟩
  · omega
  · injection e with e1 e2 e3
    subst e1
    exact ⟨g, 0, rfl, hg, row_cells h⟩
theorem has_within {r : R4} (h : PlaneR r) (x y : Int) : hasR r x y = withinR r x y := (inX_has r x y).symm.trans (h.in x y)
set_option maxRecDepth 100000 in
set_option maxHeartbeats 16000000 in
theorem ref_has_any (base : Nat) (w : World) (h : Nat) (v : Value) (bs : List Bd) (x y : Int) (H : RfAt base w h v (rctsB bs)) (hok : RegOk bs) : Calls Try.prog 60 #[.pointer (some ⟨h, 0, none⟩), .int .i64 x, .int .i64 y] w fun e w' => e = .returned (.bool (inB bs x y)) ∧ Below w.heap.size w w' := by
  have hnl : (rctsB bs).length ≤ 1024 := by rw [rctsB_len]; exact hok.few
  obtain ⟨L, hL⟩ : ∃ L, L = rctsB bs := ⟨_, rfl⟩
  have HPL := Lib.hid (show ∀ q ∈ L, PlaneR q from by rw [hL]; exact rctsB_own hok.can hok.pl)
  rw [← hL] at H hnl
  have HLL := Lib.hid hL
  have HOK := Lib.hid hok
  obtain ⟨p, c, rfl⟩ := row_slice H.own
  have HH := Lib.hid H
  obtain ⟨n, hn⟩ : ∃ n, n = L.length := ⟨_, rfl⟩
  rw [← hn] at hnl HH
  have HN := Lib.hid hn
  have HIN := Lib.hid (show (L.any fun r => withinR r x y) = inB bs x y from by rw [hL, rctsB_in hok.can])
  clear H hok hL hn
  go_enter Try.func60, Try.ntmps60
  obtain ⟨kz, k0⟩ := HH.out.cells w rfl
  go_wp2
  go_loopw [7] (fun iv wr => ∃ i : Nat, iv = .int .i64 i ∧ i ≤ n ∧ RowKit.Hid ((L.take i).any (fun r => withinR r x y) = false) ∧ RowKit.Hid (Below w.heap.size w wr)) (fun iv _ => n - (intOf iv).toNat)
  case atStart => exact ⟨0, rfl, Nat.zero_le _, Lib.hid rfl, Lib.hid (Below.refl _ _)⟩
  case round =>
    clear kz k0
    obtain ⟨i, rfl, hi, HA, HW⟩ := hrel
    have HHL := Lib.hid (HH.out.later HW.out)
    obtain ⟨kz, k0⟩ := HHL.out.cells wr rfl
    by_cases hlt : i < n
    · have hii : (i : Int) < (n : Int) := by omega
      have hlt2 : i < L.length := by rw [← HN.out]; exact hlt
      obtain ⟨gl, rfl, zl, nl, _, hrc⟩ := HHL.out.rects i hlt2
      obtain ⟨c0, c1, c2, c3⟩ := hrc wr rfl
      have hm : L.getD i zR ∈ L := by rw [List.getD_eq_getElem?_getD, List.getElem?_eq_getElem hlt2]; exact List.getElem_mem _
      have hpl : PlaneR (L.getD i zR) := HPL.out _ hm
      have HT := Lib.hid (any_take hlt2 fun r => withinR r x y)
      have HMM := Lib.hid hm
      have CM : RowKit.Hid (∀ W, Calls Try.prog 15 #[.agg #[.int .i64 (L.getD i zR).x, .int .i64 (L.getD i zR).y, .int .i64 (L.getD i zR).w, .int .i64 (L.getD i zR).h], .int .i64 x, .int .i64 y] W fun e w' => e = .returned (.bool (withinR (L.getD i zR) x y)) ∧ Below W.heap.size W w') := Lib.hid fun W => by
        have h1 := hpl.x; have h2 := hpl.y; have h3 := hpl.w; have h4 := hpl.h; have h5 := hpl.xw; have h6 := hpl.yh
        have := ref_Has_any (L.getD i zR).x (L.getD i zR).y (L.getD i zR).w (L.getD i zR).h x y W (by omega) (by omega) (by omega) (by omega)
        rw [show hasR ⟨(L.getD i zR).x, (L.getD i zR).y, (L.getD i zR).w, (L.getD i zR).h⟩ x y = withinR (L.getD i zR) x y from has_within hpl x y] at this
        exact this
      generalize L.getD i zR = r at c0 c1 c2 c3 HT HMM CM
      clear hrc hpl hm
      go_wp2_with fail
      refine (CM.out _).mono ?_
      rintro e w5 ⟨rfl, hb5⟩
      have HB5 := Lib.hid (below_via hb5 HW.out)
      clear hb5 CM c0 c1 c2 c3 kz k0
      obtain ⟨bb, hbb⟩ : ∃ q, q = withinR r x y := ⟨_, rfl⟩
      rw [← hbb] at HT ⊢
      have HBB := Lib.hid hbb
      clear hbb
      cases bb
      · have HA2 := Lib.hid (show (L.take (i + 1)).any (fun r => withinR r x y) = false from by rw [HT.out, HA.out]; rfl)
        clear HT HA
        go_wp2
        go_roundw
        case rel => exact ⟨i + 1, by go_num, by omega, HA2, HB5⟩
        case measure => simp [intOf] <;> omega
      · have HRES := Lib.hid (show inB bs x y = true from by rw [← HIN.out]; exact List.any_eq_true.2 ⟨r, HMM.out, HBB.out.symm⟩)
        go_wp2
        go_ret
        exact ⟨by rw [HRES.out]; rfl, HB5.out⟩
    · have hii : ¬ (i : Int) < (n : Int) := by omega
      obtain rfl : n = i := by omega
      have HRES := Lib.hid (show inB bs x y = false from by rw [← HIN.out]; have := HA.out; rwa [List.take_of_length_le (by rw [← HN.out]; exact Nat.le_refl _)] at this)
      go_wp2
      go_ret
      exact ⟨by rw [HRES.out]; rfl, HW.out⟩
set_option maxRecDepth 100000 in
set_option maxHeartbeats 16000000 in
theorem ref_area_any (base : Nat) (w : World) (h : Nat) (v : Value) (bs : List Bd) (H : RfAt base w h v (rctsB bs)) (hok : RegOk bs) : Calls Try.prog 61 #[.pointer (some ⟨h, 0, none⟩)] w fun e w' => e = .returned (.int .i64 (areaI (rctsB bs))) ∧ Below w.heap.size w w' := by
  have hnl : (rctsB bs).length ≤ 1024 := by rw [rctsB_len]; exact hok.few
  obtain ⟨L, hL⟩ : ∃ L, L = rctsB bs := ⟨_, rfl⟩
  have HPL := Lib.hid (show ∀ q ∈ L, PlaneR q from by rw [hL]; exact rctsB_own hok.can hok.pl)
  rw [← hL] at H hnl
  have HLL := Lib.hid hL
  have HOK := Lib.hid hok
  obtain ⟨p, c, rfl⟩ := row_slice H.own
  have HH := Lib.hid H
  obtain ⟨n, hn⟩ : ∃ n, n = L.length := ⟨_, rfl⟩
  rw [← hn] at hnl HH
  have HN := Lib.hid hn
  rw [← hL]
  clear H hok hL hn
  go_enter Try.func61, Try.ntmps61
  obtain ⟨kz, k0⟩ := HH.out.cells w rfl
  go_wp2
  go_loopw [3, 4] (fun av iv wr => ∃ i : Nat, iv = .int .i64 i ∧ i ≤ n ∧ av = .int .i64 (areaI (L.take i)) ∧ RowKit.Hid (Below w.heap.size w wr)) (fun _ iv _ => n - (intOf iv).toNat)
  case atStart => exact ⟨0, rfl, Nat.zero_le _, rfl, Lib.hid (Below.refl _ _)⟩
  case round =>
    clear kz k0
    obtain ⟨i, rfl, hi, rfl, HW⟩ := hrel
    have HHL := Lib.hid (HH.out.later HW.out)
    obtain ⟨kz, k0⟩ := HHL.out.cells wr rfl
    by_cases hlt : i < n
    · have hii : (i : Int) < (n : Int) := by omega
      have hlt2 : i < L.length := by rw [← HN.out]; exact hlt
      obtain ⟨gl, rfl, zl, nl, _, hrc⟩ := HHL.out.rects i hlt2
      obtain ⟨c0, c1, c2, c3⟩ := hrc wr rfl
      have HA := Lib.hid (areaI_take L i hlt2)
      generalize L.getD i zR = r at c0 c1 c2 c3 HA
      generalize areaI (L.take i) = a at HA ⊢
      clear hrc c0 c1
      go_upto_region 7 with (fail)
      go_quiet (fail)
      go_wp2
      go_roundw
      case rel => exact ⟨i + 1, by go_num, by omega, by rw [HA.out]; rfl, Lib.hid (by first | exact HW.out | exact below_drewN HW.out _)⟩
      case measure => simp [intOf] <;> omega
    · have hii : ¬ (i : Int) < (n : Int) := by omega
      obtain rfl : n = i := by omega
      have HT := Lib.hid (show areaI (L.take n) = areaI L from by rw [List.take_of_length_le (by rw [← HN.out]; exact Nat.le_refl _)])
      rw [HT.out]
      go_wp2
      go_ret
      exact ⟨rfl, HW.out⟩
set_option maxRecDepth 100000 in
set_option maxHeartbeats 16000000 in
theorem ref_rects_any (base : Nat) (w : World) (h : Nat) (v : Value) (bs : List Bd) (H : RfAt base w h v (rctsB bs)) (hok : RegOk bs) : Calls Try.prog 62 #[.pointer (some ⟨h, 0, none⟩)] w fun e w' => ∃ v', e = .returned v' ∧ w'.ownsRow w.heap.size 23 4 v' (rctsB bs).length (cellsR (rctsB bs)) ∧ Below w.heap.size w w' := by
  have hnl : (rctsB bs).length ≤ 1024 := by rw [rctsB_len]; exact hok.few
  obtain ⟨L, hL⟩ : ∃ L, L = rctsB bs := ⟨_, rfl⟩
  have HPL := Lib.hid (show ∀ q ∈ L, PlaneR q from by rw [hL]; exact rctsB_own hok.can hok.pl)
  rw [← hL] at H hnl
  have HLL := Lib.hid hL
  have HOK := Lib.hid hok
  obtain ⟨p, c, rfl⟩ := row_slice H.own
  have HH := Lib.hid H
  obtain ⟨n, hn⟩ : ∃ n, n = L.length := ⟨_, rfl⟩
  rw [← hn] at hnl HH
  have HN := Lib.hid hn
  rw [← hL]
  clear hok hL
  obtain ⟨j0, hi0, hz0, hz1, hz2⟩ := info_parts infoRect8
  have HJ0 := Lib.hid (And.intro hi0 (And.intro hz0 (And.intro hz1 hz2)))
  clear hi0 hz0 hz1 hz2
  have HO := Lib.hid (show w.ownsRow base 23 4 (.slice p n c) n (cellsR L) from by have := H.own; rw [← hn] at this; exact this)
  clear H hn
  have HSR := Lib.hid (row_srcQ HO.out)
  obtain ⟨kz, k0⟩ := HH.out.cells w rfl
  go_enter Try.func62, Try.ntmps62
  go_wp2_with (at_builtin; go_must (refine wpList_append_src _ rfl (.tmp 6) (.tmp 10) 26 rfl w.heap.size 23 j0 _ 4 32 Try.underlying26 HJ0.out.1 HJ0.out.2.1 HJ0.out.2.2.1 HJ0.out.2.2.2 rfl (by decide) _ 0 [] rfl (World.ownsRow_nil w w.heap.size 23 4) p n c _ rfl HSR.out ?r1 ?r2 ?r3 ?r4 ?_))
  (try case r1 => (intro u hu; obtain ⟨q, _, hq⟩ := List.mem_flatMap.1 hu; simp at hq; rcases hq with rfl | rfl | rfl | rfl <;> rfl))
  (try case r2 => unfold maxLen; omega)
  (try case r3 => omega)
  (try case r4 => exact Nat.le_refl _)
  intro v6 w6 own6 gr6 loc6
  have HB := Lib.hid (show Below w.heap.size w w6 from ⟨gr6.os, gr6.tape, gr6.output, gr6.size, fun k hk => gr6.block k hk (by simp [Value.ownBlock])⟩)
  have HO6 := Lib.hid (show w6.ownsRow w.heap.size 23 4 v6 L.length (cellsR L) from by have := own6; (try simp only [Nat.zero_add, List.nil_append] at this); rw [← HN.out]; exact this)
  clear own6 gr6 loc6
  go_wp2
  go_ret
  exact ⟨_, rfl, HO6.out, HB.out⟩
end Go.Proofs.Ytekcheccelllcaa
