/- Layer 07, the reference: New of a region. -/
import Derived.Test.YtekcheccelllcaaRfJ
import Derived.Test.YtekcheccelllcaaRgQ
namespace Go.Proofs.Ytekcheccelllcaa
open Go.RowKit
set_option linter.unusedVariables false
set_option linter.unusedSimpArgs false

/-- what the reference's New leaves -/
def RNewR (w : World) (L : List R4) (e : Ending) (w' : World) : Prop :=
  Below w.heap.size w w' ∧ match newB L with
  | some bs => ∃ h v, e = .returned (.tuple #[.pointer (some ⟨h, 0, none⟩), .int .i64 0]) ∧ RfAt w.heap.size w' h v (rctsB bs)
  | none => e = .returned (.tuple #[.pointer none, .int .i64 4])
theorem opD_one : opD 1 = opAdd := rfl
set_option maxRecDepth 100000 in
set_option maxHeartbeats 8000000 in
theorem ref_new_any (p : Option Addr) (n c : Nat) (L : List R4) (w : World) (hL : L.length = n) (hlen : n ≤ 140737488351232) (hp : SlAt w p L) (hr : ∀ r ∈ L, isR r) : Calls Try.prog 58 #[.slice p n c] w fun e w' => RNewR w L e w' := by
  have HL := Lib.hid hL
  have HP := Lib.hid hp
  have HRR := Lib.hid hr
  clear hL hp hr
  go_enter Try.func58, Try.ntmps58
  go_upto_region 2 with (fail)
  obtain ⟨w1, hw1⟩ : ∃ q, q = w.alloc (.cells #[.slice none 0 0] 100) := ⟨_, rfl⟩
  rw [← hw1]
  have HB1 := Lib.hid (show Below w.heap.size w w1 from by rw [hw1]; exact below_al (Below.refl _ _) _)
  have HR1 := Lib.hid (show RfAt w.heap.size w1 w.heap.size (.slice none 0 0) (rctsB []) from by rw [hw1]; exact ⟨heap_alloc_new _ _, ⟨rfl, .inl ⟨rfl, rfl⟩⟩, Nat.le_refl _⟩)
  clear hw1
  go_wp2
  go_loopw [5] (fun iv wr => ∃ (i : Nat) (v : Value) (bs : List Bd), iv = .int .i64 i ∧ i ≤ n ∧ RowKit.Hid (RfAt w.heap.size wr w.heap.size v (rctsB bs) ∧ Below w.heap.size w wr ∧ newB (L.take i) = some bs)) (fun iv _ => n - (intOf iv).toNat)
  case atStart => exact ⟨0, _, [], rfl, Nat.zero_le _, Lib.hid ⟨HR1.out, HB1.out, rfl⟩⟩
  case round =>
    (try clear HR1 HB1)
    obtain ⟨i, v, bs, rfl, hi, HI⟩ := hrel
    by_cases hlt : i < n
    · have hii : (i : Int) < (n : Int) := by omega
      obtain ⟨rb, ro, rfl, zr, hrc⟩ := (HP.out.later (HI.out.2.1)) (by have := HL.out; omega)
      have hc := hrc i (by rw [HL.out]; exact hlt)
      obtain ⟨r, hr⟩ : ∃ r, r = L.getD i zR := ⟨_, rfl⟩
      rw [← hr] at hc
      obtain ⟨c0, c1, c2, c3⟩ := hc
      have hmem : r ∈ L := by rw [hr, List.getD_eq_getElem?_getD, List.getElem?_eq_getElem (by rw [HL.out]; exact hlt)]; exact List.getElem_mem _
      have HRI := Lib.hid (HRR.out r hmem)
      have HNX := Lib.hid (show newB (L.take (i + 1)) = addB bs r from by
        have e : L.take (i + 1) = L.take i ++ [r] := by
          rw [List.take_succ_eq_append_getElem (by rw [HL.out]; exact hlt), hr, List.getD_eq_getElem?_getD, List.getElem?_eq_getElem (by rw [HL.out]; exact hlt)]; rfl
        rw [e, newB_snoc, HI.out.2.2]
        rfl)
      have HOK := Lib.hid (newB_some HI.out.2.2).ok
      have HBW := Lib.hid HI.out.2.1
      clear hrc hr hmem
      have CD := Lib.hid (do_any w.heap.size wr w.heap.size v bs 1 r HI.out.1 HOK.out (.inl rfl) HRI.out)
      go_wp2_with fail
      refine CD.out.mono ?_
      rintro e w5 ⟨he, hc⟩
      rw [opD_one] at he hc
      by_cases hf : 1024 < cntB (chgB opAdd bs (bxR r))
      · rw [if_pos hf] at he hc
        subst he
        obtain ⟨v', q1, q3, q4⟩ := hc
        have HB5 := Lib.hid (show Below w.heap.size w w5 from HBW.out.trans (q3.under (fun k hk => by rw [hk]; exact Nat.le_refl _) HBW.out.size))
        have HNN := Lib.hid (show newB L = none from by
          have h1 : newB (L.take (i + 1)) = none := by rw [HNX.out]; unfold addB; rw [if_pos hf]
          have h2 := newB_none_left (M := L.drop (i + 1)) h1
          rwa [List.take_append_drop] at h2)
        have HFIN := Lib.hid (show RNewR w L (.returned (.tuple #[.pointer none, .int .i64 4])) w5 from ⟨HB5.out, by rw [HNN.out]⟩)
        clear q1 q3 q4 hf c0 c1 c2 c3 CD
        go_wp2
        go_ret2
        exact HFIN.out
      · rw [if_neg hf] at he hc
        subst he
        obtain ⟨v', q1, q3, q4⟩ := hc
        have HB5 := Lib.hid (show Below w.heap.size w w5 from HBW.out.trans (q3.under (fun k hk => by rw [hk]; exact Nat.le_refl _) HBW.out.size))
        have HN2 := Lib.hid (show RfAt w.heap.size w5 w.heap.size v' (rctsB (chgB opAdd bs (bxR r))) ∧ Below w.heap.size w w5 ∧ newB (L.take (i + 1)) = some (chgB opAdd bs (bxR r)) from ⟨q1, HB5.out, by rw [HNX.out]; unfold addB; rw [if_neg hf]⟩)
        clear q1 q3 q4 hf c0 c1 c2 c3 HI CD
        go_wp2
        go_roundw
        case rel => exact ⟨i + 1, v', _, by go_num, by omega, HN2⟩
        case measure => simp [intOf] <;> omega
    · have hii : ¬ (i : Int) < (n : Int) := by omega
      obtain rfl : n = i := by omega
      have HFIN := Lib.hid (show RNewR w L (.returned (.tuple #[.pointer (some ⟨w.heap.size, 0, none⟩), .int .i64 0])) wr from ⟨HI.out.2.1, by
        have h1 := HI.out.2.2
        rw [List.take_of_length_le (by rw [HL.out]; exact Nat.le_refl _)] at h1
        rw [h1]
        exact ⟨_, v, rfl, HI.out.1⟩⟩)
      go_wp2
      go_ret2
      exact HFIN.out
end Go.Proofs.Ytekcheccelllcaa
