/- RectOrder: for every input the law returns true and its arguments read as before. No condition. -/
import Derived.Test.YtekcheccelllcaaRgT
import Derived.Test.YtekcheccelllcaaOpenR
import Derived.Test.YtekcheccelllcaaOpenO
import Derived.ProofKit
import Derived.OpenShut
import Derived.Lib.SmallJoins
import Derived.SizedLaws
namespace Go.Proofs.Ytekcheccelllcaa
namespace rectOrder
open Go.ChangeShapes Go.WideShapes Go.ChangeAt Go.RowKit Go.Joins

theorem own : ownKnob Try.prog.godebug = none := by kernel_rfl
theorem laidOut : laidOutB Try.prog = true := by kernel_rfl


set_option maxRecDepth 100000 in
theorem lifted (os : Os) (started : os.Started) (H : Type) (enc : TypeId × Value → H) :
    ReturnsInHanded {} Try.checked os 10 .any (Rows.rectOrderSpec.pre6 enc Try.prog Try.f10 Rows.rectOrderRow.domain false) (Rows.rectOrderSpec.post enc Try.prog Try.f10 false true false false) := by
  refine returnsInHanded_of_change_sized (C := Try.checked) own started (by kernel_rfl) Try.func10
    (ChangeSpec.witness6 (enc := enc) (C := Try.checked) false ⟨#[], #[.slice none 0 0, .slice none 0 0], []⟩ 8 (by kernel_rfl) (by kernel_rfl) (by kernel_rfl) (by kernel_rfl)) ?_
  intro W base args ds gs before hval0 hW hcnd hsz0 _
  have hsz : (DataW.weightsEach Try.prog (Try.f10.params.toList ++ Rows.rectOrderSpec.plain.varTypes Try.prog) (ds ++ gs)).all (· ≤ reachBytes) = true := hsz0
  have hval : ∀ (j : Nat) t v, Try.f10.params[j]? = some t → args[j]? = some v → Value.okWide Try.prog W .any base t v := hval0
  have hW' := hW
  obtain ⟨p, q, hA0, hV, rfl, hfz, hnd⟩ := hW
  have hA : DataW.TrodAll enc Try.prog W 0 (fun _ => true) true Try.f10.params.toList args.toList ds p := hA0
  rw [Try.params10] at hA hval hsz
  obtain ⟨v0, vs0, d0, ds0, p0, q0, hargs, rfl, rfl, h0, r0⟩ := trodAll_cons hA
  obtain ⟨v1, vs1, d1, ds1, p1, q1, rfl, rfl, rfl, h1, r1⟩ := trodAll_cons r0
  obtain ⟨rfl, rfl, rfl⟩ := trodAll_nil r1
  obtain rfl : args = #[v0, v1] := by cases args; simp_all
  obtain ⟨rfl, rfl⟩ := trodVars_none hV
  have k0 := h0
  have lt0 : ∀ x ∈ p0, x.block < W.heap.size := by obtain ⟨m, hm⟩ := k0; exact DataW.trod_lt m _ _ _ hm
  have k1 := h1
  have lt1 : ∀ x ∈ p1, x.block < W.heap.size := by obtain ⟨m, hm⟩ := k1; exact DataW.trod_lt m _ _ _ hm
  obtain ⟨p0, n0, c0, L0, rfl, hl0, sl0, ir0, nl0, hd0⟩ := open_rects Try.underlying26 Try.underlying23 (by kernel_rfl) (by kernel_rfl) Try.underlying3 rfl rfl rfl rfl (hval 0 26 v0 rfl rfl) h0
  have sz0 : n0 * 32 ≤ 140737488351232 := by
    by_cases h0 : n0 = 0
    · omega
    · obtain ⟨elems, sp, rfl, he⟩ := hd0 h0
      have := sized_slice hsz (j := 0) (t := 26) (e := 23) rfl rfl Try.underlying26
      rw [show Try.prog.bytesOf 23 = 32 by kernel_rfl, show reachBytes = 140737488351232 by decide, he] at this
      omega
  obtain ⟨p1, c1, O1, rfl, or1, lc1, hd1⟩ := open_order7 (hval 1 46 v1 rfl rfl) h1
  have sz1 : O1.length * 8 ≤ 140737488351232 := by
    by_cases h0 : O1.length = 0
    · omega
    · obtain ⟨elems, sp, rfl, he⟩ := hd1 h0
      have := sized_slice hsz (j := 1) (t := 46) (e := 3) rfl rfl Try.underlying46
      rw [show Try.prog.bytesOf 3 = 8 by kernel_rfl, show reachBytes = 140737488351232 by decide, he] at this
      omega
  refine (RectOrder_walk p0 n0 c0 L0 p1 c1 O1 W hl0 (by omega) sl0 ir0 or1 (by omega)).mono fun e W' ⟨he, bel⟩ => ?_
  subst he
  exact ⟨_, rfl, _, _, _, [], _, [], hW', trodAll_mk1 (shut_bool Try.underlying4 _), (trodAll_cons_mk (Below.trod laidOut (by kernel_rfl) (of_decide_eq_true (by kernel_rfl)) k0 bel lt0) (trodAll_cons_mk (Below.trod laidOut (by kernel_rfl) (of_decide_eq_true (by kernel_rfl)) k1 bel lt1) trodAll_mk0)), rfl, bel.frame _, fun h => by cases h⟩

theorem over : Rows.rectOrderRow.holds Try.pinned (OpenSpec.ofChange Rows.rectOrderSpec) :=
  OpenClaim.holds_of_wide 10 Try.f10 rfl rfl rfl rfl rfl rfl rfl ⟨rfl, rfl, rfl, rfl, rfl⟩ rfl rfl rfl rfl rfl (by kernel_rfl) Try.func10 (by kernel_rfl)
    (of_decide_eq_true (by kernel_rfl)) (by unfold Func.isWrapper; first | (rw [if_pos (by decide +kernel)]; kernel_rfl) | (rw [if_neg (by decide +kernel)]; exact ⟨rfl, rfl⟩))
    (fun os started H enc _ => lifted os started H enc)

theorem proved : Rows.RectOrderSaid := over
#print axioms proved
end rectOrder
end Go.Proofs.Ytekcheccelllcaa
