/- Focus: contracts of the reference's right, Can, Order. -/
import Derived.Test.YtihjefncjkdnpaaFoC
import Derived.Test.YtihjefncjkdnpaaHeld
namespace Go.Proofs.Ytihjefncjkdnpaa
open Go.RowKit Go.Deep
set_option linter.unusedVariables false
set_option linter.unusedSimpArgs false

def rightB (T : List Nd) : Bool := decide ((checkT T).1 = 0)
set_option maxRecDepth 100000 in
set_option maxHeartbeats 4000000 in
theorem ref_right_any (p : Option Addr) (c : Nat) (T : List Nd) (w : World) (hT : TreeAt w (.slice p T.length c) T) : Calls Try.prog 34 #[.agg #[.slice p T.length c]] w fun e w' => e = .returned (.bool (rightB T)) ∧ Below w.heap.size w w' := by
  have HT := Lib.hid hT
  obtain ⟨cd, hcd⟩ : ∃ z, z = (checkT T).1 := ⟨_, rfl⟩
  have HCD := Lib.hid hcd
  have HR := Lib.hid (show rightB T = (cd == 0) by unfold rightB; rw [← hcd]; rfl)
  generalize rightB T = R at *
  clear hT hcd
  go_enter Try.func34, Try.ntmps34
  go_wp2_with fail
  refine (ref_Check_any p c T _ (HT.out.later (by go_grown))).mono ?_
  rw [← HCD.out]
  generalize (checkT T).2 = c2 at *
  rintro e w1 ⟨rfl, hb1⟩
  have B1 : Below w.heap.size w w1 := below_via hb1 (by go_grown)
  clear hb1
  go_wp2
  go_ret
  exact ⟨by rw [HR.out]; rfl, B1⟩
set_option maxRecDepth 100000 in
set_option maxHeartbeats 4000000 in
theorem Can_cells (f : FuncId) (cs : List Value) (kd fl : Int) (hf : f = 36) (h0 : cs[0]? = some (.int .i8 kd)) (h33 : cs[33]? = some (.int .u8 fl)) (hr0 : 0 ≤ fl) (hr1 : fl ≤ 255) (w : World) : Calls Try.prog f #[.agg cs.toArray] w fun e w' => e = .returned (.bool (decide (kd = 7) || decide (fl % 2 = 1))) ∧ Below w.heap.size w w' := by
  subst hf
  have c0 := box_node w cs 53 0
  have c33 := box_node w cs 53 33
  rw [h0] at c0
  rw [h33] at c33
  clear h0 h33
  by_cases hk : kd = 7
  · have hk' : (kd == 7) = true := by simpa using hk
    have e : (decide (kd = 7) || decide (fl % 2 = 1)) = true := by simp [hk]
    rw [e]
    clear e hk
    go_enter Try.func36, Try.ntmps36
    go_wp2
    go_ret
    exact ⟨rfl, by go_grown⟩
  · have hk' : (kd == 7) = false := by simpa using hk
    obtain ⟨r, hr⟩ : ∃ r, r = decide (fl % 2 = 1) := ⟨_, rfl⟩
    have e : (decide (kd = 7) || decide (fl % 2 = 1)) = r := by simp [hk, hr]
    have hr' : (fl % 2 == 1) = r := by rw [hr]; rfl
    rw [e]
    clear e hk hr
    go_enter Try.func36, Try.ntmps36
    go_wp2
    go_ret
    exact ⟨rfl, by go_grown⟩
theorem Can_any (x : Nd) (kv cv : Value) (cs : List Value) (hcs : cs = ndV x kv cv) (hx : NdOk x) (w : World) : Calls Try.prog 36 #[.agg cs.toArray] w fun e w' => e = .returned (.bool (canB x)) ∧ Below w.heap.size w w' :=
  Can_cells _ cs x.kind x.flags rfl (by rw [hcs]; rfl) (by rw [hcs]; rfl) hx.flags.1 hx.flags.2 w
def canUp (T : List Nd) (L : List Int) (j : Nat) : List Int := (L.take j).filter fun n => canT T n
theorem canUp_succ (T : List Nd) (L : List Int) {j : Nat} (hj : j < L.length) (x : Int) (hx : L.getD j 0 = x) : (canT T x = true → canUp T L (j + 1) = canUp T L j ++ [x]) ∧ (canT T x = false → canUp T L (j + 1) = canUp T L j) := by
  rw [List.getD_eq_getElem?_getD, List.getElem?_eq_getElem hj, Option.getD_some] at hx
  unfold canUp
  rw [List.take_succ_eq_append_getElem hj, List.filter_append, hx]
  exact ⟨fun h => by simp [h], fun h => by simp [h]⟩
theorem canUp_le (T : List Nd) (L : List Int) (j : Nat) : (canUp T L j).length ≤ j := by
  unfold canUp
  have := List.length_filter_le (fun n => canT T n) (L.take j)
  have := List.length_take_le j L
  omega
set_option maxRecDepth 100000 in
set_option maxHeartbeats 8000000 in
theorem ref_focus_Order_any (p : Option Addr) (c : Nat) (T : List Nd) (w : World) (hT : TreeAt w (.slice p T.length c) T) : Calls Try.prog 10 #[.agg #[.slice p T.length c]] w fun e w' => ∃ v, e = .returned v ∧ w'.ownsRow w.heap.size 3 1 v (fosL T).length ((fosL T).map (Value.int .i64)) ∧ Below w.heap.size w w' := by
  obtain ⟨i0, hi, hz0, hz1, hz2⟩ := info_parts infoIntO
  have HI := Lib.hid (And.intro hi (And.intro hz0 (And.intro hz1 hz2)))
  have HT := Lib.hid hT
  have hlen := hT.len
  obtain ⟨r, hr⟩ : ∃ r, r = rightB T := ⟨_, rfl⟩
  have HRB := Lib.hid hr
  have HP := Lib.hid (fun (X : List Int) (hX : fosL T = X) v w' (h1 : w'.ownsRow w.heap.size 3 1 v X.length (X.map (Value.int .i64))) (h2 : Below w.heap.size w w') => show ∃ v', Ending.returned v = .returned v' ∧ w'.ownsRow w.heap.size 3 1 v' (fosL T).length ((fosL T).map (Value.int .i64)) ∧ Below w.heap.size w w' from ⟨v, rfl, by rw [hX]; exact h1, h2⟩)
  clear hi hz0 hz1 hz2 hT hr
  go_enter Try.func10, Try.ntmps10
  go_wp2_with fail
  refine (ref_right_any p c T _ (HT.out.later (by go_grown))).mono ?_
  rw [← HRB.out]
  rintro e w1 ⟨rfl, hb1⟩
  have B1 : Below w.heap.size w w1 := below_via hb1 (by go_grown)
  have x1 : w1.cell? ⟨w.heap.size, 0, none⟩ = some (.slice p T.length c) := by rw [(bcell hb1).1 _ _ (by simp)]; simp [go_sem]
  have z1 : w.heap.size < w1.heap.size := by have := hb1.size; simp at this; omega
  clear hb1
  cases r with
  | false =>
    have HE := Lib.hid (show fosL T = [] by
      unfold fosL
      rw [ordL_wrong (fun h => by have := HRB.out; unfold rightB at this; rw [h] at this; simp at this)]; rfl)
    have HR := Lib.hid (HP.out [] HE.out (.slice none 0 0) w1 ⟨rfl, .inl ⟨rfl, rfl⟩⟩ B1)
    clear HP HE HRB
    go_wp2
    go_ret
    exact HR.out
  | true =>
    clear HRB
    go_wp2_with fail
    refine (ref_Order_any p c T _ (HT.out.later B1)).mono ?_
    have HG := Lib.hid (fun i (hi : i < (ordL T).length) => ordL_get hi)
    have hl := stepO_len T
    have HFO := Lib.hid (show fosL T = canUp T (ordL T) (ordL T).length by unfold fosL canUp; rw [List.take_length])
    generalize ordL T = L at *
    rintro e w2 ⟨v, rfl, own, hb2⟩
    have B2 := below_via hb2 B1
    have x2 : w2.cell? ⟨w.heap.size, 0, none⟩ = some (.slice p T.length c) := by rw [(bcell hb2).1 _ _ z1]; exact x1
    have z2 : w.heap.size < w2.heap.size := by have := hb2.size; omega
    have HV := Lib.hid (row_ints own)
    obtain ⟨pv, cv, rfl, hcv, hcv2, _, hcell⟩ := HV.out
    have HC := Lib.hid hcell
    clear hb2 own hcell x1 z1 B1 HV
    go_wp2
    go_loopw [6, 3] (fun i lv wr => ∃ j : Nat, j ≤ L.length ∧ i = .int .i64 j ∧ RowKit.Hid (wr.ownsRow w2.heap.size 3 1 lv (canUp T L j).length ((canUp T L j).map (Value.int .i64))) ∧ Below w2.heap.size w2 wr) (fun i _ _ => L.length - (intOf i).toNat)
    case atStart => exact ⟨0, Nat.zero_le _, rfl, Lib.hid ⟨rfl, .inl ⟨rfl, rfl⟩⟩, Below.refl _ _⟩
    case round =>
      obtain ⟨j, hj, rfl, HO, BR⟩ := hrel
      have zr := BR.size
      have xr : wr.cell? ⟨w.heap.size, 0, none⟩ = some (.slice p T.length c) := by rw [(bcell BR).1 _ _ z2]; exact x2
      have zwr : w.heap.size < wr.heap.size := by omega
      by_cases hlt : j < L.length
      · have hji : (j : Int) < (L.length : Int) := by omega
        obtain ⟨bv, ov, rfl, hbv, hcell⟩ := HC.out (by omega)
        have cj := hcell j hlt
        rw [← (bcell BR).1 _ _ hbv] at cj
        have hbvw : bv < wr.heap.size := by omega
        obtain ⟨q, hq, hqN, _⟩ := HG.out j hlt
        rw [hq] at cj
        have hqi : (q : Int) < (T.length : Int) := by omega
        have hqm : (q : Int) < 9223372036854775807 := by omega
        have BWR := below_via BR B2
        obtain ⟨b, off, kv, cvn, rfl, hbz, hk, hcn, hrg⟩ := HT.out.node q hqN
        have hok := HT.out.ok _ (nd_get hqN)
        obtain ⟨ns, hns⟩ : ∃ ns, ns = ndV (T.getD q zNd) kv cvn := ⟨_, rfl⟩
        rw [← hns] at hrg
        have LEN := Lib.hid (show ns.length = 34 by rw [hns]; rfl)
        have HRG := Lib.hid (fun w' (h : Below wr.heap.size wr w') => range_later hrg (below_via h BWR) hbz)
        have HCAN := Lib.hid (fun w => Can_any (T.getD q zNd) kv cvn ns hns hok w)
        have HCU := Lib.hid (canUp_succ T L hlt (q : Int) hq)
        have HCT := Lib.hid (show canT T (q : Int) = canB (T.getD q zNd) by unfold canT; rw [Int.toNat_natCast])
        generalize canB (T.getD q zNd) = cb at *
        have hcl := canUp_le T L j
        have HSF := Lib.hid (fun w' (h : Below wr.heap.size wr w') => show (w'.cell? ⟨w.heap.size, 0, none⟩ = some (.slice (some ⟨b, off, none⟩) T.length c) ∧ w'.cell? ⟨bv, ov + j, none⟩ = some (.int .i64 q)) from by
          obtain ⟨hc, _⟩ := bcell h
          refine ⟨?_, ?_⟩ <;> (rw [hc _ _ (by assumption)]; assumption))
        clear hcell hq hk hcn hrg hok hns
        go_upto_region 9 with (fail)
        refine wp_region_noPanic ?_
        refine wp_region_lexH (fun w' => Below wr.heap.size wr w') (by kernel_rfl) (by kernel_rfl) (fun _ _ _ _ _ h => h) (Below.drew (Below.refl _ _)) ?_
        apply lexH_run (by rfl)
        · (intro w h; clear h; go_simp; try rfl)
        (try simp only [Act.put, List.setIfInBounds_toArray, List.set_cons_zero, List.set_cons_succ])
        apply lexH_run (by rfl)
        · (intro w h; have FK := HSF.out w h; clear h; go_split_ands; go_simp; try rfl)
        (try simp only [Act.put, List.setIfInBounds_toArray, List.set_cons_zero, List.set_cons_succ])
        apply lexH_run (by rfl)
        · (intro w h; clear h; go_simp; try rfl)
        (try simp only [Act.put, List.setIfInBounds_toArray, List.set_cons_zero, List.set_cons_succ])
        apply lexH_run (by rfl)
        · (intro w h; clear h; go_simp; try rfl)
        (try simp only [Act.put, List.setIfInBounds_toArray, List.set_cons_zero, List.set_cons_succ])
        apply lexH_run (by rfl)
        · (intro w h; clear h; go_simp; try rfl)
        (try simp only [Act.put, List.setIfInBounds_toArray, List.set_cons_zero, List.set_cons_succ])
        apply lexH_run (by rfl)
        · (intro w h; have FK := HSF.out w h; clear h; go_split_ands; go_simp; try rfl)
        (try simp only [Act.put, List.setIfInBounds_toArray, List.set_cons_zero, List.set_cons_succ])
        apply lexH_run (by rfl)
        · (intro w h; clear h; go_simp; try rfl)
        (try simp only [Act.put, List.setIfInBounds_toArray, List.set_cons_zero, List.set_cons_succ])
        refine lexH_load (by rfl) 53 (.tmp 27) rfl b (off + q * 34) (by go_simp; try rfl) ns _ (fun w h => HRG.out w h) Try.underlying53 rfl (by rw [LEN.out]; exact infoN) ?_
        (try simp only [Act.put, List.setIfInBounds_toArray, List.set_cons_zero, List.set_cons_succ])
        refine lexH_call (by kernel_rfl) (by rfl) (by go_simp; first | exact ⟨rfl, rfl⟩ | rfl) ?_
        intro hS
        refine (HCAN.out _).mono ?_
        rintro e w3 ⟨rfl, hb3⟩
        have HB3 := Lib.hid (below_via hb3 hS)
        refine ⟨_, rfl, HB3.out, ?_⟩
        clear hb3 hS HCAN HRG LEN
        (try simp only [Act.put, List.setIfInBounds_toArray, List.set_cons_zero, List.set_cons_succ])
        apply lexH_run (by rfl)
        · (intro w h; clear h; go_simp; try rfl)
        (try simp only [Act.put, List.setIfInBounds_toArray, List.set_cons_zero, List.set_cons_succ])
        apply lexH_nil
        refine NoPanic.normal ?_
        cases cb with
        | true =>
          have HN := Lib.hid (HCU.out.1 HCT.out)
          have OWN3 := Lib.hid ((row_later HO.out HB3.out).alloc (.cells #[.int .i64 q] 3))
          have HON := Lib.hid (show ∀ u ∈ [Value.int .i64 (q : Int)], u.oneCell' = true from fun u hu => by simp at hu; rcases hu with rfl; rfl)
          have h63 : (canUp T L j).length + 1 ≤ maxLen := by unfold maxLen; omega
          have z3 := HB3.out.size
          have c3 : w3.cell? ⟨bv, ov + j, none⟩ = some (.int .i64 q) := (HSF.out _ HB3.out).2
          have hbv3 : bv < w3.heap.size := by omega
          clear HCU HCT HSF xr cj x2 z2 hqN hqi
          go_wp2_with (at_builtin; go_must (refine append_keep rfl (.tmp 31) (.tmp 36) 25 rfl w2.heap.size 3 i0 _ 1 8 Try.underlying25 HI.out.1 HI.out.2.1 HI.out.2.2.1 HI.out.2.2.2 rfl (by decide) _ (canUp T L j).length _ rfl OWN3.out ⟨w3.heap.size, 0, none⟩ 1 1 [.int .i64 (q : Int)] rfl rfl ?n1 HON.out h63 ?n2 ?n3 ?_))
          try case n1 => exact World.news_of_block (cs := #[.int .i64 (q : Int)]) (t := 3) (fr := (0, 0)) (heap_alloc_new w3 _)
          case n2 => omega
          case n3 => first | omega | (simp; omega)
          intro v' w4 own4 gr pl
          have HO4 := Lib.hid (show w4.ownsRow w2.heap.size 3 1 v' (canUp T L (j + 1)).length ((canUp T L (j + 1)).map (Value.int .i64)) by rw [HN.out]; simpa using own4)
          have B4 : Below w2.heap.size w2 w4 := Below.grown ((below_via HB3.out BR).alloc (by omega) _) gr (by simp; omega) (fun k hk => (row_lt HO.out k hk).2)
          clear own4 gr pl HO OWN3 HON HN
          go_wp2
          go_roundw
          case rel => exact ⟨j + 1, by omega, by go_num, HO4, B4⟩
          case measure => simp [intOf]; omega
        | false =>
          have HN := Lib.hid (HCU.out.2 HCT.out)
          have HO4 := Lib.hid (show w3.ownsRow w2.heap.size 3 1 u3 (canUp T L (j + 1)).length ((canUp T L (j + 1)).map (Value.int .i64)) by rw [HN.out]; exact row_later HO.out HB3.out)
          have B4 := below_via HB3.out BR
          clear HCU HCT HSF xr cj x2 z2 hqN hqi HO HN
          go_wp2
          go_roundw
          case rel => exact ⟨j + 1, by omega, by go_num, HO4, B4⟩
          case measure => simp [intOf]; omega
      · obtain rfl : j = L.length := by omega
        have HR := Lib.hid (HP.out _ HFO.out u3 wr (row_sink_ HO.out (by omega)) (below_via BR B2))
        clear hlt hj HO HP HFO
        go_wp2
        go_ret
        exact HR.out
end Go.Proofs.Ytihjefncjkdnpaa
