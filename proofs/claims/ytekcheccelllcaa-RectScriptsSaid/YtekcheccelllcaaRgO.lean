/- Layer 07: Add, Cut, Clip, Rects of a region. -/
import Derived.Test.YtekcheccelllcaaRgN
import Derived.Test.YtekcheccelllcaaRctNil
import Derived.Test.YtekcheccelllcaaRctV
namespace Go.Proofs.Ytekcheccelllcaa
open Go.RowKit
set_option linter.unusedVariables false
set_option linter.unusedSimpArgs false

theorem ChgR.from {base : Nat} {w w1 w' : World} {op : Bool → Bool → Bool} {g : Nat} {v : Value} {l : List BV} {b : Bx} {e : Ending} (hb : Below w.heap.size w w1) (h : ChgR base w1 op g v l b e w') : ChgR base w op g v l b e w' := by
  obtain ⟨h1, v', l', h2, h3, h4, h5⟩ := h
  exact ⟨h1, v', l', h2, h3, (Chg.of_below hb _).trans h4 (fun k hk => .inl hk), fun k hk => (h5 k hk).imp id fun h => Nat.le_trans hb.size h⟩
theorem stays_add : Stays opAdd 55 := ⟨fun _ _ => rfl, add_stays⟩
theorem stays_cut : Stays opCut 56 := ⟨fun _ _ => rfl, cut_stays⟩
theorem stays_clip : Stays opClip 57 := ⟨fun _ _ => rfl, clip_stays⟩
set_option maxRecDepth 100000 in
theorem add_any (base : Nat) (w : World) (g : Nat) (v : Value) (l : List BV) (h : RegAt base w g v l) (hok : RegOk (bdsOf l)) (r : R4) (hr : isR r) : Calls Try.prog 35 #[.pointer (some ⟨g, 0, none⟩), .agg #[.int .i64 r.x, .int .i64 r.y, .int .i64 r.w, .int .i64 r.h]] w fun e w' => ChgR base w opAdd g v l (bxR r) e w' := by
  have HR := Lib.hid (h.later (below_al (Below.refl w.heap.size w) (.cells #[.int .i64 r.x, .int .i64 r.y, .int .i64 r.w, .int .i64 r.h] 23)))
  have HOK := Lib.hid hok
  have HRR := Lib.hid hr
  clear h hok hr
  go_enter Try.func35, Try.ntmps35
  go_wp2_with fail
  refine (change_any base _ g v l opAdd rfl _ stays_add HR.out HOK.out r HRR.out).mono ?_
  rintro e w1 ⟨he, hc2⟩
  obtain ⟨cd, hcd⟩ : ∃ c : Int, c = (if 1024 < cntB (chgB opAdd (bdsOf l) (bxR r)) then 4 else 0) := ⟨_, rfl⟩
  rw [← hcd] at he
  subst he
  have HC := Lib.hid (show ChgR base w opAdd g v l (bxR r) (.returned (.int .i64 cd)) w1 from ChgR.from (below_al (Below.refl w.heap.size w) _) ⟨by rw [hcd], hc2⟩)
  clear hc2 hcd
  go_wp2
  go_ret
  exact HC.out
set_option maxRecDepth 100000 in
theorem cut_any (base : Nat) (w : World) (g : Nat) (v : Value) (l : List BV) (h : RegAt base w g v l) (hok : RegOk (bdsOf l)) (r : R4) (hr : isR r) : Calls Try.prog 39 #[.pointer (some ⟨g, 0, none⟩), .agg #[.int .i64 r.x, .int .i64 r.y, .int .i64 r.w, .int .i64 r.h]] w fun e w' => ChgR base w opCut g v l (bxR r) e w' := by
  have HR := Lib.hid (h.later (below_al (Below.refl w.heap.size w) (.cells #[.int .i64 r.x, .int .i64 r.y, .int .i64 r.w, .int .i64 r.h] 23)))
  have HOK := Lib.hid hok
  have HRR := Lib.hid hr
  clear h hok hr
  go_enter Try.func39, Try.ntmps39
  go_wp2_with fail
  refine (change_any base _ g v l opCut rfl _ stays_cut HR.out HOK.out r HRR.out).mono ?_
  rintro e w1 ⟨he, hc2⟩
  obtain ⟨cd, hcd⟩ : ∃ c : Int, c = (if 1024 < cntB (chgB opCut (bdsOf l) (bxR r)) then 4 else 0) := ⟨_, rfl⟩
  rw [← hcd] at he
  subst he
  have HC := Lib.hid (show ChgR base w opCut g v l (bxR r) (.returned (.int .i64 cd)) w1 from ChgR.from (below_al (Below.refl w.heap.size w) _) ⟨by rw [hcd], hc2⟩)
  clear hc2 hcd
  go_wp2
  go_ret
  exact HC.out
set_option maxRecDepth 100000 in
theorem clip_any (base : Nat) (w : World) (g : Nat) (v : Value) (l : List BV) (h : RegAt base w g v l) (hok : RegOk (bdsOf l)) (r : R4) (hr : isR r) : Calls Try.prog 40 #[.pointer (some ⟨g, 0, none⟩), .agg #[.int .i64 r.x, .int .i64 r.y, .int .i64 r.w, .int .i64 r.h]] w fun e w' => ChgR base w opClip g v l (bxR r) e w' := by
  have HR := Lib.hid (h.later (below_al (Below.refl w.heap.size w) (.cells #[.int .i64 r.x, .int .i64 r.y, .int .i64 r.w, .int .i64 r.h] 23)))
  have HOK := Lib.hid hok
  have HRR := Lib.hid hr
  clear h hok hr
  go_enter Try.func40, Try.ntmps40
  go_wp2_with fail
  refine (change_any base _ g v l opClip rfl _ stays_clip HR.out HOK.out r HRR.out).mono ?_
  rintro e w1 ⟨he, hc2⟩
  obtain ⟨cd, hcd⟩ : ∃ c : Int, c = (if 1024 < cntB (chgB opClip (bdsOf l) (bxR r)) then 4 else 0) := ⟨_, rfl⟩
  rw [← hcd] at he
  subst he
  have HC := Lib.hid (show ChgR base w opClip g v l (bxR r) (.returned (.int .i64 cd)) w1 from ChgR.from (below_al (Below.refl w.heap.size w) _) ⟨by rw [hcd], hc2⟩)
  clear hc2 hcd
  go_wp2
  go_ret
  exact HC.out
theorem rctsB_app (a b : List Bd) : rctsB (a ++ b) = rctsB a ++ rctsB b := by simp [rctsB]
/-- the first k spans of a band -/
def rctK (b : Bd) (k : Nat) : List R4 := (rctB b).take k
theorem prs_at : ∀ (l : List Int) (k : Nat), 2 * k + 1 < l.length → (prs l)[k]? = some (l.getD (2 * k) 0, l.getD (2 * k + 1) 0)
  | [], k, h => by simp at h
  | [a], k, h => by simp at h
  | a :: b :: l, 0, h => by simp [prs]
  | a :: b :: l, k + 1, h => by
    rw [prs, List.getElem?_cons_succ, prs_at l k (by simp at h; omega)]
    simp [show 2 * (k + 1) = 2 * k + 1 + 1 by omega]
theorem rctB_len (b : Bd) : (rctB b).length = b.es.length / 2 := by rw [rctB, List.length_map, prs_len]
theorem rctK_succ (b : Bd) (k : Nat) (h : 2 * k + 1 < b.es.length) : rctK b (k + 1) = rctK b k ++ [⟨b.es.getD (2 * k) 0, b.y0, b.es.getD (2 * k + 1) 0 - b.es.getD (2 * k) 0, b.y1 - b.y0⟩] := by
  unfold rctK
  have hl : k < (rctB b).length := by rw [rctB_len]; omega
  rw [List.take_succ_eq_append_getElem hl]
  congr 2
  have h1 : (rctB b)[k]? = some ⟨b.es.getD (2 * k) 0, b.y0, b.es.getD (2 * k + 1) 0 - b.es.getD (2 * k) 0, b.y1 - b.y0⟩ := by
    rw [rctB, List.getElem?_map, prs_at _ _ h]; rfl
  rw [List.getElem?_eq_getElem hl] at h1
  injection h1
theorem rctK_all (b : Bd) (k : Nat) (h : b.es.length ≤ 2 * k + 1) : rctK b k = rctB b := List.take_of_length_le (by rw [rctB_len]; omega)

structure RecI (w wr : World) (ov : Value) (L : List R4) : Prop where
  own : wr.ownsRow w.heap.size 23 4 ov L.length (cellsR L)
  be : Below w.heap.size w wr
theorem RecI.later {w wr w' : World} {ov : Value} {L : List R4} (h : RecI w wr ov L) (hb : Below wr.heap.size wr w') : RecI w w' ov L := ⟨row_later h.own hb, below_via hb h.be⟩
theorem rctsB_take (bs : List Bd) (j : Nat) (h : j < bs.length) : rctsB (bs.take (j + 1)) = rctsB (bs.take j) ++ rctB (bs.getD j zB) := by
  have e : bs.take (j + 1) = bs.take j ++ [bs.getD j zB] := by
    rw [List.take_succ_eq_append_getElem h, List.getD_eq_getElem?_getD, List.getElem?_eq_getElem h]; rfl
  rw [e, rctsB_app]
  simp [rctsB]
theorem rct_take_len (bs : List Bd) (j k : Nat) (b : Bd) (h : b ∈ bs) : (rctsB (bs.take j) ++ rctK b k).length ≤ 2 * cntB bs := by
  have h1 : (rctsB (bs.take j)).length ≤ cntB bs := by
    rw [← rctsB_len]
    have : bs = bs.take j ++ bs.drop j := (List.take_append_drop j bs).symm
    have h2 := congrArg rctsB this
    rw [rctsB_app] at h2
    rw [h2, List.length_append]
    omega
  have h3 : (rctK b k).length ≤ cntB bs := by
    have : (rctK b k).length ≤ b.es.length / 2 := by unfold rctK; rw [List.length_take, rctB_len]; omega
    have h4 : b.es.length / 2 ≤ cntB bs := by
      clear this h1
      induction bs with
      | nil => cases h
      | cons c bs ih =>
        have e : cntB (c :: bs) = c.es.length / 2 + cntB bs := by simp [cntB]
        rw [e]
        rcases List.mem_cons.1 h with rfl | h
        · omega
        · have := ih h; omega
    omega
  rw [List.length_append]
  omega
theorem wrap_small (x : Int) (h : -4611686018427387904 ≤ x ∧ x ≤ 4611686018427387904) : IntKind.i64.wrap x = x := by
  unfold IntKind.wrap
  simp [IntKind.signed, IntKind.bits]
  omega
theorem infoRc_ : (Try.prog.info? 23).map (fun i => (i.zero, i.size, i.bytes)) = some (some (.agg #[.int .i64 0, .int .i64 0, .int .i64 0, .int .i64 0]), 4, 32) := by kernel_rfl
set_option maxRecDepth 100000 in
set_option maxHeartbeats 16000000 in
theorem rects_any (base : Nat) (w : World) (g : Nat) (v : Value) (l : List BV) (h : RegAt base w g v l) (hok : RegOk (bdsOf l)) : Calls Try.prog 37 #[.pointer (some ⟨g, 0, none⟩)] w fun e w' => ∃ v', e = .returned v' ∧ w'.ownsRow w.heap.size 23 4 v' (rctsB (bdsOf l)).length (cellsR (rctsB (bdsOf l))) ∧ Below w.heap.size w w' := by
  obtain ⟨j0, hi0, hz0, hz1, hz2⟩ := info_parts infoRc_
  have HJ := Lib.hid (And.intro hi0 (And.intro hz0 (And.intro hz1 hz2)))
  clear hi0 hz0 hz1 hz2
  obtain ⟨pv, cv, rfl⟩ := row_slice h.bn.row
  obtain ⟨n, hn⟩ : ∃ n, n = l.length := ⟨_, rfl⟩
  rw [← hn] at h
  have HN := Lib.hid hn
  have HR := Lib.hid h
  have HOK := Lib.hid hok
  have hnl : n ≤ 1024 := by rw [hn]; have h1 := hok.can.len; have h2 := hok.few; rw [bdsOf_len] at h1; omega
  have HC := Lib.hid (show ∀ w', Below w.heap.size w w' → (g < w'.heap.size ∧ w'.cell? ⟨g, 0, none⟩ = some (.slice pv n cv)) from fun w' hb => by
    have h2 := (hb.block _ (lt_of_block HR.out.pr)).trans HR.out.pr
    exact ⟨lt_of_block h2, by rw [cell_of_row _ _ _ _ _ _ h2]; rfl⟩)
  skip
  clear h hok hn
  obtain ⟨zg, cg⟩ := HC.out w (Below.refl _ _)
  go_enter Try.func37, Try.ntmps37
  go_wp2
  clear zg cg
  go_loopw [3, 14] (fun ov jv wr => ∃ j : Nat, jv = .int .i64 j ∧ j ≤ n ∧ RowKit.Hid (RecI w wr ov (rctsB ((bdsOf l).take j)))) (fun _ jv _ => n - (intOf jv).toNat)
  case atStart => exact ⟨0, rfl, Nat.zero_le _, Lib.hid ⟨⟨rfl, .inl ⟨rfl, rfl⟩⟩, Below.refl _ _⟩⟩
  case round =>
    obtain ⟨j, rfl, hj, HM⟩ := hrel
    have hzr := HM.out.be.size
    by_cases hlt : j < n
    · have hjj : (j : Int) < (n : Int) := by omega
      have hj2 : j < l.length := by rw [← HN.out]; exact hlt
      have HRL := Lib.hid (HR.out.later HM.out.be)
      obtain ⟨bb, hpe, zb, zb2, c0, c1, c2⟩ := HRL.out.bn.cells hj2
      subst hpe
      obtain ⟨E, hE⟩ : ∃ E, E = l.getD j zBV := ⟨_, rfl⟩
      rw [← hE] at c0 c1 c2
      have hem : E.1 ∈ bdsOf l := by rw [hE]; exact List.mem_map.2 ⟨_, getD_mem' hj2, rfl⟩
      have HEM := Lib.hid hem
      have HEO := Lib.hid (HOK.out.can.ok _ hem).ok
      have HEI := Lib.hid (HOK.out.pl _ hem)
      have HEN := Lib.hid (HRL.out.bn.en E (hE ▸ getD_mem' hj2))
      obtain ⟨pe, ce, he, hce, hrd⟩ := rdI_own HEN.out rfl
      rw [he] at c2
      have HTK := Lib.hid (show rctsB ((bdsOf l).take (j + 1)) = rctsB ((bdsOf l).take j) ++ rctB E.1 from by rw [rctsB_take _ _ (by rw [bdsOf_len]; exact hj2), bdsOf_getD, ← hE])
      obtain ⟨es, hes⟩ : ∃ es, es = E.1.es := ⟨_, rfl⟩
      rw [← hes] at c2 hrd
      have HES := Lib.hid hes
      obtain ⟨e0, he0⟩ : ∃ q, q = E.1.y0 := ⟨_, rfl⟩
      obtain ⟨e1, he1⟩ : ∃ q, q = E.1.y1 := ⟨_, rfl⟩
      rw [← he0] at c0
      rw [← he1] at c1
      have bl : es.length ≤ 4097 := by rw [hes]; have h1 := HOK.out.few; have h2 := rct_take_len (bdsOf l) 0 (E.1.es.length / 2) E.1 hem; rw [List.length_append, show (rctK E.1 (E.1.es.length / 2)).length = E.1.es.length / 2 from by unfold rctK; rw [List.length_take, rctB_len]; omega] at h2; omega
      have HE2 := Lib.hid he
      have HRDF := Lib.hid (fun (wi : World) (h : wi.ownsRow base 3 1 E.2 E.1.es.length (vI E.1.es)) => show RdI wi pe es from by
        obtain ⟨p9, c9, h9, _, h8⟩ := rdI_own h rfl
        rw [he] at h9
        injection h9 with a1 a2 a3
        rw [a1, hes]
        exact h8)
      have HX0 := Lib.hid (show e0 = E.1.y0 ∧ e1 = E.1.y1 from ⟨he0, he1⟩)
      have HRD := Lib.hid hrd
      have b0 : -1048576 ≤ e0 ∧ e0 ≤ 1048576 := he0 ▸ HEI.out.t0
      have b1 : -1048576 ≤ e1 ∧ e1 ≤ 1048576 := he1 ▸ HEI.out.t1
      have hev : es.length % 2 = 0 := hes ▸ HEO.out.2
      clear hE he hj2 hem hes he0 he1 hrd hce zb2
      go_upto_region 7 with (fail)
      obtain ⟨wz, hwz⟩ : ∃ z, z = wr.alloc (.cells #[.int .i64 e0, .int .i64 e1, .slice pe es.length ce] 86) := ⟨_, rfl⟩
      rw [← hwz]
      have HBZ := Lib.hid (show Below wr.heap.size wr wz from by rw [hwz]; exact below_al (Below.refl _ _) _)
      have hz : wz.heap.size = wr.heap.size + 1 := by rw [hwz]; simp
      have HX := Lib.hid (show wz.heap[wr.heap.size]? = some (.cells #[.int .i64 e0, .int .i64 e1, .slice pe es.length ce] 86 (0, 0)) from by rw [hwz]; exact heap_alloc_new _ _)
      clear hwz c0 c1 c2
      obtain ⟨gx, hgx⟩ : ∃ q, q = wr.heap.size := ⟨_, rfl⟩
      rw [← hgx] at HX hz hzr zb ⊢
      have HMZ := Lib.hid (HM.out.later HBZ.out)
      have HRZ := Lib.hid (HRD.out.later HBZ.out (Nat.le_refl _))
      have HEZ := Lib.hid (show wz.ownsRow base 3 1 E.2 E.1.es.length (vI E.1.es) from row_later HEN.out HBZ.out)
      obtain ⟨wo, hwo⟩ : ∃ q : World, q = wr := ⟨_, rfl⟩
      skip
      have HK0 := Lib.hid (show rctsB ((bdsOf l).take j) ++ rctK E.1 0 = rctsB ((bdsOf l).take j) from by simp [rctK])
      clear HRL HRD HRZ hzr zb
      obtain ⟨wo, hwo⟩ : ∃ q : World, q = wr := ⟨_, rfl⟩
      have HMB := Lib.hid HM.out.be
      clear hgx HM HBZ hwo
      go_wp2
      go_loopw [3, 6] (fun ov kv wi => ∃ q k : Nat, kv = .int .i64 q ∧ q = 2 * k ∧ q ≤ es.length ∧ RowKit.Hid (RecI w wi ov (rctsB ((bdsOf l).take j) ++ rctK E.1 k) ∧ wi.heap[gx]? = some (.cells #[.int .i64 e0, .int .i64 e1, .slice pe es.length ce] 86 (0, 0)) ∧ wi.ownsRow base 3 1 E.2 E.1.es.length (vI E.1.es))) (fun _ kv _ => es.length - (intOf kv).toNat)
      case atStart => exact ⟨0, 0, rfl, rfl, Nat.zero_le _, Lib.hid ⟨by rw [HK0.out]; exact HMZ.out, HX.out, HEZ.out⟩⟩
      case round =>
        clear HK0 HMZ HX HEZ HEN hz
        obtain ⟨q, k, rfl, hq, hqe, HI⟩ := hrel
        have HQ := Lib.hid hq
        have hqv : q % 2 = 0 := by omega
        clear hq
        by_cases hlq : q < es.length
        · have hqq : (q : Int) < (es.length : Int) := by omega
          have hq2 : q + 1 < es.length := by omega
          clear hqv
          have hrd : RdI wr pe es := HRDF.out wr HI.out.2.2
          obtain ⟨ge, oe, rfl, zge, hcc⟩ := hrd (by omega)
          obtain ⟨x0, hx0⟩ : ∃ z, z = es.getD q 0 := ⟨_, rfl⟩
          obtain ⟨x1, hx1⟩ : ∃ z, z = es.getD (q + 1) 0 := ⟨_, rfl⟩
          have k0 := hcc q hlq
          have k1 := hcc (q + 1) hq2
          rw [← hx0] at k0
          rw [← hx1] at k1
          have bx0 : -1048576 ≤ x0 ∧ x0 ≤ 1048576 := HEI.out.e x0 (by rw [← HES.out, hx0, List.getD_eq_getElem?_getD, List.getElem?_eq_getElem hlq]; exact List.getElem_mem hlq)
          have bx1 : -1048576 ≤ x1 ∧ x1 ≤ 1048576 := HEI.out.e x1 (by rw [← HES.out, hx1, List.getD_eq_getElem?_getD, List.getElem?_eq_getElem hq2]; exact List.getElem_mem hq2)
          have HSUC := Lib.hid (show rctsB ((bdsOf l).take j) ++ rctK E.1 (k + 1) = (rctsB ((bdsOf l).take j) ++ rctK E.1 k) ++ [⟨x0, e0, x1 - x0, e1 - e0⟩] from by rw [rctK_succ _ _ (by rw [← HES.out]; have := HQ.out; omega), ← HES.out, ← HQ.out, ← hx0, ← hx1, HX0.out.1, HX0.out.2, List.append_assoc])
          have HLEN := Lib.hid (rct_take_len (bdsOf l) j k E.1 HEM.out)
          have hfew := HOK.out.few
          have HOW := Lib.hid HI.out.1.own
          have HBW := Lib.hid HI.out.1.be
          generalize (rctsB ((bdsOf l).take j) ++ rctK E.1 k) = L at HOW HSUC HLEN
          obtain ⟨m, hm⟩ : ∃ m, m = L.length := ⟨_, rfl⟩
          rw [← hm] at HOW
          have hml : m ≤ 2048 := by have := HLEN.out; omega
          have HML := Lib.hid hm
          obtain ⟨po, co, rfl⟩ := row_slice HOW.out
          have HGX := Lib.hid HI.out.2.1
          have HGE := Lib.hid HI.out.2.2
          have HGN := Lib.hid (show (Value.slice po m co).ownBlock ≠ some ge from fun e => by
            have h2 : E.2.ownBlock = some ge := by rw [HE2.out]; rfl
            rcases row_ne HGE.out HOW.out (by decide) with h | h
            · rw [h] at h2; cases h2
            · exact h (h2.trans e.symm))
          clear hm hx0 hx1 hcc HI HLEN hfew
          have HS := Lib.hid (show ∀ w' : World, (w'.heap[gx]? = wr.heap[gx]? ∧ w'.heap[ge]? = wr.heap[ge]?) → (gx < w'.heap.size ∧ w'.cell? ⟨gx, 0, none⟩ = some (.int .i64 e0) ∧ w'.cell? ⟨gx, 1, none⟩ = some (.int .i64 e1) ∧ w'.cell? ⟨gx, 2, none⟩ = some (.slice (some ⟨ge, oe, none⟩) es.length ce) ∧ w'.cell? ⟨ge, oe + q, none⟩ = some (.int .i64 x0) ∧ w'.cell? ⟨ge, oe + (q + 1), none⟩ = some (.int .i64 x1)) from fun w' h => by
            have hx := h.1.trans HGX.out
            refine ⟨lt_of_block hx, ?_, ?_, ?_, ?_, ?_⟩
            · rw [cell_of_row _ _ _ _ _ _ hx]; rfl
            · rw [cell_of_row _ _ _ _ _ _ hx]; rfl
            · rw [cell_of_row _ _ _ _ _ _ hx]; rfl
            · rw [World.cell?_of_block (a := ⟨ge, oe + q, none⟩) h.2]; exact k0
            · rw [World.cell?_of_block (a := ⟨ge, oe + (q + 1), none⟩) h.2]; exact k1)
          have hwi : IntKind.i64.wrap ((q : Int) + 1) = (q : Int) + 1 := wrap_small _ (by omega)
          have htn : ((q : Int) + 1).toNat = q + 1 := by omega
          have hni : (0 : Int) ≤ (q : Int) + 1 := by omega
          have hqq2 : (q : Int) + 1 < (es.length : Int) := by omega
          have hw1 : IntKind.i64.wrap (x1 - x0) = x1 - x0 := wrap_small _ (by omega)
          have hw2 : IntKind.i64.wrap (e1 - e0) = e1 - e0 := wrap_small _ (by omega)
          obtain ⟨y0, y1, y2, y3, y4, y5⟩ := HS.out wr ⟨rfl, rfl⟩
          clear k0 k1 y4 y5
          go_upto_region 10 with (fail)
          clear y1 y2 y3
          have HSD := Lib.hid (show wr.drew.heap[gx]? = wr.heap[gx]? ∧ wr.drew.heap[ge]? = wr.heap[ge]? from ⟨rfl, rfl⟩)
          refine wp_region_noPanic ?_
          refine wp_region_Z (fun w' => w'.heap[gx]? = wr.heap[gx]? ∧ w'.heap[ge]? = wr.heap[ge]?) 28 (by kernel_rfl) ?_
          change wpAnyZ _ _ _ _ _ _ 29 (Array.replicate 29 false) _ _
          refine wpAnyZ_take [27] (i := 0) (v := ?vf0) (by simp only [List.getElem?_toArray, List.getElem?_cons_succ, List.getElem?_cons_zero]; rfl) (by decide +kernel) (fun _ _ _ h => h) (by rfl) ?tf0 ?sf0 ?_
          case tf0 => (intro w' h; clear h; go_simp; try rfl)
          case sf0 => exact HSD.out
          (try simp only [Act.put, List.setIfInBounds_toArray, List.set_cons_zero, List.set_cons_succ])
          refine wpAnyZ_take [27, 26, 25, 5, 4, 2] (i := 1) (v := ?vf1) (by simp only [List.getElem?_toArray, List.getElem?_cons_succ, List.getElem?_cons_zero]; rfl) (by decide +kernel) (fun _ _ _ h => h) (by rfl) ?tf1 ?sf1 ?_
          case tf1 => (intro w' h; have FK := HS.out w' h; clear h; go_split_ands; go_simp; try rfl)
          case sf1 => exact HSD.out
          (try simp only [Act.put, List.setIfInBounds_toArray, List.set_cons_zero, List.set_cons_succ])
          refine wpAnyZ_take [27, 26, 25, 5, 4] (i := 2) (v := ?vf2) (by simp only [List.getElem?_toArray, List.getElem?_cons_succ, List.getElem?_cons_zero]; rfl) (by decide +kernel) (fun _ _ _ h => h) (by rfl) ?tf2 ?sf2 ?_
          case tf2 => (intro w' h; have FK := HS.out w' h; clear h; go_split_ands; go_simp; try rfl)
          case sf2 => exact HSD.out
          (try simp only [Act.put, List.setIfInBounds_toArray, List.set_cons_zero, List.set_cons_succ])
          refine wpAnyZ_take [27, 26, 25, 5, 4] (i := 3) (v := ?vf3) (by simp only [List.getElem?_toArray, List.getElem?_cons_succ, List.getElem?_cons_zero]; rfl) (by decide +kernel) (fun _ _ _ h => h) (by rfl) ?tf3 ?sf3 ?_
          case tf3 => (intro w' h; clear h; go_simp; try rfl)
          case sf3 => exact HSD.out
          (try simp only [Act.put, List.setIfInBounds_toArray, List.set_cons_zero, List.set_cons_succ])
          refine wpAnyZ_take [27, 26, 25, 5] (i := 4) (v := ?vf4) (by simp only [List.getElem?_toArray, List.getElem?_cons_succ, List.getElem?_cons_zero]; rfl) (by decide +kernel) (fun _ _ _ h => h) (by rfl) ?tf4 ?sf4 ?_
          case tf4 => (intro w' h; have FK := HS.out w' h; clear h; go_split_ands; go_simp; try rfl)
          case sf4 => exact HSD.out
          (try simp only [Act.put, List.setIfInBounds_toArray, List.set_cons_zero, List.set_cons_succ])
          refine wpAnyZ_take [27, 26, 25] (i := 5) (v := ?vf5) (by simp only [List.getElem?_toArray, List.getElem?_cons_succ, List.getElem?_cons_zero]; rfl) (by decide +kernel) (fun _ _ _ h => h) (by rfl) ?tf5 ?sf5 ?_
          case tf5 => (intro w' h; have FK := HS.out w' h; clear h; go_split_ands; go_simp; try rfl)
          case sf5 => exact HSD.out
          (try simp only [Act.put, List.setIfInBounds_toArray, List.set_cons_zero, List.set_cons_succ])
          refine wpAnyZ_take [27, 26, 25, 7] (i := 6) (v := ?vf6) (by simp only [List.getElem?_toArray, List.getElem?_cons_succ, List.getElem?_cons_zero]; rfl) (by decide +kernel) (fun _ _ _ h => h) (by rfl) ?tf6 ?sf6 ?_
          case tf6 => (intro w' h; have FK := HS.out w' h; clear h; go_split_ands; go_simp; try rfl)
          case sf6 => exact HSD.out
          (try simp only [Act.put, List.setIfInBounds_toArray, List.set_cons_zero, List.set_cons_succ])
          refine wpAnyZ_take [27, 26, 25] (i := 7) (v := ?vf7) (by simp only [List.getElem?_toArray, List.getElem?_cons_succ, List.getElem?_cons_zero]; rfl) (by decide +kernel) (fun _ _ _ h => h) (by rfl) ?tf7 ?sf7 ?_
          case tf7 => (intro w' h; have FK := HS.out w' h; clear h; go_split_ands; go_simp; try rfl)
          case sf7 => exact HSD.out
          (try simp only [Act.put, List.setIfInBounds_toArray, List.set_cons_zero, List.set_cons_succ])
          refine wpAnyZ_take [27, 26, 25, 19, 13, 12, 9] (i := 8) (v := ?vf8) (by simp only [List.getElem?_toArray, List.getElem?_cons_succ, List.getElem?_cons_zero]; rfl) (by decide +kernel) (fun _ _ _ h => h) (by rfl) ?tf8 ?sf8 ?_
          case tf8 => (intro w' h; have FK := HS.out w' h; clear h; go_split_ands; go_simp; try rfl)
          case sf8 => exact HSD.out
          (try simp only [Act.put, List.setIfInBounds_toArray, List.set_cons_zero, List.set_cons_succ])
          refine wpAnyZ_take [27, 26, 25, 19, 13, 12] (i := 9) (v := ?vf9) (by simp only [List.getElem?_toArray, List.getElem?_cons_succ, List.getElem?_cons_zero]; rfl) (by decide +kernel) (fun _ _ _ h => h) (by rfl) ?tf9 ?sf9 ?_
          case tf9 => (intro w' h; have FK := HS.out w' h; clear h; go_split_ands; go_simp; try rfl)
          case sf9 => exact HSD.out
          (try simp only [Act.put, List.setIfInBounds_toArray, List.set_cons_zero, List.set_cons_succ])
          refine wpAnyZ_take [27, 26, 25, 19, 13, 12, 11] (i := 10) (v := ?vf10) (by simp only [List.getElem?_toArray, List.getElem?_cons_succ, List.getElem?_cons_zero]; rfl) (by decide +kernel) (fun _ _ _ h => h) (by rfl) ?tf10 ?sf10 ?_
          case tf10 => (intro w' h; clear h; go_simp; try rfl)
          case sf10 => exact HSD.out
          (try simp only [Act.put, List.setIfInBounds_toArray, List.set_cons_zero, List.set_cons_succ])
          refine wpAnyZ_take [27, 26, 25, 19, 13, 12] (i := 11) (v := ?vf11) (by simp only [List.getElem?_toArray, List.getElem?_cons_succ, List.getElem?_cons_zero]; rfl) (by decide +kernel) (fun _ _ _ h => h) (by rfl) ?tf11 ?sf11 ?_
          case tf11 => (intro w' h; clear h; go_simp; try rfl)
          case sf11 => exact HSD.out
          (try simp only [Act.put, List.setIfInBounds_toArray, List.set_cons_zero, List.set_cons_succ])
          refine wpAnyZ_take [27, 26, 25, 19, 13] (i := 12) (v := ?vf12) (by simp only [List.getElem?_toArray, List.getElem?_cons_succ, List.getElem?_cons_zero]; rfl) (by decide +kernel) (fun _ _ _ h => h) (by rfl) ?tf12 ?sf12 ?_
          case tf12 => (intro w' h; have FK := HS.out w' h; clear h; go_split_ands; go_simp; try rfl)
          case sf12 => exact HSD.out
          (try simp only [Act.put, List.setIfInBounds_toArray, List.set_cons_zero, List.set_cons_succ])
          refine wpAnyZ_take [27, 26, 25, 19] (i := 13) (v := ?vf13) (by simp only [List.getElem?_toArray, List.getElem?_cons_succ, List.getElem?_cons_zero]; rfl) (by decide +kernel) (fun _ _ _ h => h) (by rfl) ?tf13 ?sf13 ?_
          case tf13 => (intro w' h; have FK := HS.out w' h; clear h; go_split_ands; go_simp; try rfl)
          case sf13 => exact HSD.out
          (try simp only [Act.put, List.setIfInBounds_toArray, List.set_cons_zero, List.set_cons_succ])
          refine wpAnyZ_take [27, 26, 25, 19, 18, 17, 15] (i := 14) (v := ?vf14) (by simp only [List.getElem?_toArray, List.getElem?_cons_succ, List.getElem?_cons_zero]; rfl) (by decide +kernel) (fun _ _ _ h => h) (by rfl) ?tf14 ?sf14 ?_
          case tf14 => (intro w' h; have FK := HS.out w' h; clear h; go_split_ands; go_simp; try rfl)
          case sf14 => exact HSD.out
          (try simp only [Act.put, List.setIfInBounds_toArray, List.set_cons_zero, List.set_cons_succ])
          refine wpAnyZ_take [27, 26, 25, 19, 18, 17] (i := 15) (v := ?vf15) (by simp only [List.getElem?_toArray, List.getElem?_cons_succ, List.getElem?_cons_zero]; rfl) (by decide +kernel) (fun _ _ _ h => h) (by rfl) ?tf15 ?sf15 ?_
          case tf15 => (intro w' h; have FK := HS.out w' h; clear h; go_split_ands; go_simp; try rfl)
          case sf15 => exact HSD.out
          (try simp only [Act.put, List.setIfInBounds_toArray, List.set_cons_zero, List.set_cons_succ])
          refine wpAnyZ_take [27, 26, 25, 19, 18, 17] (i := 16) (v := ?vf16) (by simp only [List.getElem?_toArray, List.getElem?_cons_succ, List.getElem?_cons_zero]; rfl) (by decide +kernel) (fun _ _ _ h => h) (by rfl) ?tf16 ?sf16 ?_
          case tf16 => (intro w' h; clear h; go_simp; try rfl)
          case sf16 => exact HSD.out
          (try simp only [Act.put, List.setIfInBounds_toArray, List.set_cons_zero, List.set_cons_succ])
          refine wpAnyZ_take [27, 26, 25, 19, 18] (i := 17) (v := ?vf17) (by simp only [List.getElem?_toArray, List.getElem?_cons_succ, List.getElem?_cons_zero]; rfl) (by decide +kernel) (fun _ _ _ h => h) (by rfl) ?tf17 ?sf17 ?_
          case tf17 => (intro w' h; have FK := HS.out w' h; clear h; go_split_ands; go_simp; try rfl)
          case sf17 => exact HSD.out
          (try simp only [Act.put, List.setIfInBounds_toArray, List.set_cons_zero, List.set_cons_succ])
          refine wpAnyZ_take [27, 26, 25, 19] (i := 18) (v := ?vf18) (by simp only [List.getElem?_toArray, List.getElem?_cons_succ, List.getElem?_cons_zero]; rfl) (by decide +kernel) (fun _ _ _ h => h) (by rfl) ?tf18 ?sf18 ?_
          case tf18 => (intro w' h; have FK := HS.out w' h; clear h; go_split_ands; go_simp; try rfl)
          case sf18 => exact HSD.out
          (try simp only [Act.put, List.setIfInBounds_toArray, List.set_cons_zero, List.set_cons_succ])
          refine wpAnyZ_take [27, 26, 25] (i := 19) (v := ?vf19) (by simp only [List.getElem?_toArray, List.getElem?_cons_succ, List.getElem?_cons_zero]; rfl) (by decide +kernel) (fun _ _ _ h => h) (by rfl) ?tf19 ?sf19 ?_
          case tf19 => (intro w' h; clear h; go_simp; try rfl)
          case sf19 => exact HSD.out
          (try simp only [Act.put, List.setIfInBounds_toArray, List.set_cons_zero, List.set_cons_succ])
          refine wpAnyZ_take [27, 26, 25, 24, 21] (i := 20) (v := ?vf20) (by simp only [List.getElem?_toArray, List.getElem?_cons_succ, List.getElem?_cons_zero]; rfl) (by decide +kernel) (fun _ _ _ h => h) (by rfl) ?tf20 ?sf20 ?_
          case tf20 => (intro w' h; have FK := HS.out w' h; clear h; go_split_ands; go_simp; try rfl)
          case sf20 => exact HSD.out
          (try simp only [Act.put, List.setIfInBounds_toArray, List.set_cons_zero, List.set_cons_succ])
          refine wpAnyZ_take [27, 26, 25, 24] (i := 21) (v := ?vf21) (by simp only [List.getElem?_toArray, List.getElem?_cons_succ, List.getElem?_cons_zero]; rfl) (by decide +kernel) (fun _ _ _ h => h) (by rfl) ?tf21 ?sf21 ?_
          case tf21 => (intro w' h; have FK := HS.out w' h; clear h; go_split_ands; go_simp; try rfl)
          case sf21 => exact HSD.out
          (try simp only [Act.put, List.setIfInBounds_toArray, List.set_cons_zero, List.set_cons_succ])
          refine wpAnyZ_take [27, 26, 25, 24, 23] (i := 22) (v := ?vf22) (by simp only [List.getElem?_toArray, List.getElem?_cons_succ, List.getElem?_cons_zero]; rfl) (by decide +kernel) (fun _ _ _ h => h) (by rfl) ?tf22 ?sf22 ?_
          case tf22 => (intro w' h; have FK := HS.out w' h; clear h; go_split_ands; go_simp; try rfl)
          case sf22 => exact HSD.out
          (try simp only [Act.put, List.setIfInBounds_toArray, List.set_cons_zero, List.set_cons_succ])
          refine wpAnyZ_take [27, 26, 25, 24] (i := 23) (v := ?vf23) (by simp only [List.getElem?_toArray, List.getElem?_cons_succ, List.getElem?_cons_zero]; rfl) (by decide +kernel) (fun _ _ _ h => h) (by rfl) ?tf23 ?sf23 ?_
          case tf23 => (intro w' h; have FK := HS.out w' h; clear h; go_split_ands; go_simp; try rfl)
          case sf23 => exact HSD.out
          (try simp only [Act.put, List.setIfInBounds_toArray, List.set_cons_zero, List.set_cons_succ])
          refine wpAnyZ_take [27, 26, 25] (i := 24) (v := ?vf24) (by simp only [List.getElem?_toArray, List.getElem?_cons_succ, List.getElem?_cons_zero]; rfl) (by decide +kernel) (fun _ _ _ h => h) (by rfl) ?tf24 ?sf24 ?_
          case tf24 => (intro w' h; clear h; go_simp; try rfl)
          case sf24 => exact HSD.out
          (try simp only [Act.put, List.setIfInBounds_toArray, List.set_cons_zero, List.set_cons_succ])
          refine wpAnyZ_take [27, 26] (i := 25) (v := ?vf25) (by simp only [List.getElem?_toArray, List.getElem?_cons_succ, List.getElem?_cons_zero]; rfl) (by decide +kernel) (fun _ _ _ h => h) (by rfl) ?tf25 ?sf25 ?_
          case tf25 => (intro w' h; clear h; go_simp; try rfl)
          case sf25 => exact HSD.out
          (try simp only [Act.put, List.setIfInBounds_toArray, List.set_cons_zero, List.set_cons_succ])
          obtain ⟨w8, hw8⟩ : ∃ t, t = wr.drew.alloc (.cells #[.int .i64 x0, .int .i64 e0, .int .i64 (x1 - x0), .int .i64 (e1 - e0)] 23) := ⟨_, rfl⟩
          have HB8 := Lib.hid (show Below wr.heap.size wr w8 from by rw [hw8]; exact below_al (Below.drew (Below.refl _ _)) _)
          have HS8 := Lib.hid (show w8.heap[gx]? = wr.heap[gx]? ∧ w8.heap[ge]? = wr.heap[ge]? from ⟨HB8.out.block gx y0, HB8.out.block ge zge⟩)
          have HN8 := Lib.hid (show w8.heap[wr.heap.size]? = some (.cells #[.int .i64 x0, .int .i64 e0, .int .i64 (x1 - x0), .int .i64 (e1 - e0)] 23 (0, 0)) from by rw [hw8]; exact heap_alloc_new _ _)
          have hz8 : w8.heap.size = wr.heap.size + 1 := by rw [hw8]; simp
          have HW8 := Lib.hid hw8
          clear hw8
          have hbw := HBW.out.size
          have HOX := Lib.hid (row_later HOW.out HB8.out)
          have HON := Lib.hid (show ∀ u ∈ [Value.int .i64 x0, Value.int .i64 e0, Value.int .i64 (x1 - x0), Value.int .i64 (e1 - e0)], u.oneCell' = true from fun u hu => by simp at hu; rcases hu with rfl | rfl | rfl | rfl <;> rfl)
          refine wpAnyZ_one (i := 26) (by decide +kernel) ?_
          refine wpOpK_value (v := .slice (some ⟨wr.heap.size, 0, none⟩) 1 1) (w' := w8) (by simp only [List.getElem?_toArray, List.getElem?_cons_succ, List.getElem?_cons_zero]; rfl) (by rfl) ?mf26 ⟨.inr HS8.out, ?_⟩
          case mf26 => (rw [HW8.out]; go_simp; try rfl)
          (try simp only [Act.put, List.setIfInBounds_toArray, List.set_cons_zero, List.set_cons_succ])
          refine wpAnyZ_one (i := 27) (by decide +kernel) ?_
          refine wpOpK_append (by simp only [List.getElem?_toArray, List.getElem?_cons_succ, List.getElem?_cons_zero]; rfl) rfl (.tmp 25) (.tmp 51) 26 rfl w.heap.size 23 j0 (.agg #[.int .i64 0, .int .i64 0, .int .i64 0, .int .i64 0]) 4 32 Try.underlying26 HJ.out.1 HJ.out.2.1 HJ.out.2.2.1 HJ.out.2.2.2 rfl (by decide) _ m _ (by rfl) HOX.out ⟨wr.heap.size, 0, none⟩ 1 1 [.int .i64 x0, .int .i64 e0, .int .i64 (x1 - x0), .int .i64 (e1 - e0)] (by rfl) rfl (World.news_of_block (cs := #[.int .i64 x0, .int .i64 e0, .int .i64 (x1 - x0), .int .i64 (e1 - e0)]) (t := 23) (fr := (0, 0)) HN8.out) HON.out (by omega) ?h63 ?hby ?hbs ?_
          case h63 => (unfold maxLen; omega)
          case hby => omega
          case hbs => first | omega | (simp; omega)
          intro g cap W2 own gr hg hlt
          have HA9 := Lib.hid own
          have HG9 := Lib.hid gr
          have HS9 := Lib.hid (show W2.heap[gx]? = wr.heap[gx]? ∧ W2.heap[ge]? = wr.heap[ge]? from ⟨(gr.block gx (by omega) (fun e => row_ne_blk HOW.out HGX.out (by decide) e.symm)).trans HS8.out.1, (gr.block ge (by omega) (fun e => HGN.out e.symm)).trans HS8.out.2⟩)
          clear own gr hg hlt
          refine ⟨.inr HS9.out, ?_⟩
          (try simp only [Act.put, List.setIfInBounds_toArray, List.set_cons_zero, List.set_cons_succ])
          refine wpAnyZ_one (i := 28) (by decide +kernel) ?_
          refine wpOpK_value (v := .slice (some ⟨g, 0, none⟩) (m + 1) cap) (w' := W2) (by simp only [List.getElem?_toArray, List.getElem?_cons_succ, List.getElem?_cons_zero]; rfl) (by rfl) ?mf28 ⟨.inl rfl, ?_⟩
          case mf28 => (go_simp; try rfl)
          (try simp only [Act.put, List.setIfInBounds_toArray, List.set_cons_zero, List.set_cons_succ])
          refine wpAnyZ_done (by kernel_rfl) (NoPanic.normal ?_) _
          have HN1 := Lib.hid (show RecI w W2 (.slice (some ⟨g, 0, none⟩) (m + 1) cap) (rctsB ((bdsOf l).take j) ++ rctK E.1 (k + 1)) from ⟨by
            rw [HSUC.out, cellsR_append, List.length_append, ← HML.out]
            exact HA9.out, Below.grown (below_via HB8.out HBW.out) HG9.out (by omega) (fun t ht => (row_lt HOX.out t ht).2)⟩)
          have HN2 := Lib.hid (show W2.heap[gx]? = some (.cells #[.int .i64 e0, .int .i64 e1, .slice (some ⟨ge, oe, none⟩) es.length ce] 86 (0, 0)) from HS9.out.1.trans HGX.out)
          have HN3 := Lib.hid (show W2.ownsRow base 3 1 E.2 E.1.es.length (vI E.1.es) from (row_later HGE.out HB8.out).kept HG9.out (row_ne HGE.out HOW.out (by decide)))
          have HQ2 := Lib.hid (show q + 2 = 2 * (k + 1) from by have := HQ.out; omega)
          clear HA9 HG9 HS9 HS8 HN8 HW8 HB8 HOX HON HS HSD HGX HGE HGN HOW HBW HSUC HML hz8
          go_wp2
          go_roundw
          case rel => exact ⟨q + 2, k + 1, by go_num, HQ2.out, by omega, Lib.hid ⟨HN1.out, HN2.out, HN3.out⟩⟩
          case measure => simp [intOf] <;> omega
        · have hqq : ¬ (q : Int) < (es.length : Int) := by omega
          have HJN := Lib.hid (show RecI w wr u3 (rctsB ((bdsOf l).take (j + 1))) from by
            rw [HTK.out, ← rctK_all E.1 k (by rw [← HES.out]; have := HQ.out; omega)]
            exact HI.out.1)
          have hx := HI.out.2.1
          obtain ⟨y0, y1, y2, y3⟩ : gx < wr.heap.size ∧ wr.cell? ⟨gx, 0, none⟩ = some (.int .i64 e0) ∧ wr.cell? ⟨gx, 1, none⟩ = some (.int .i64 e1) ∧ wr.cell? ⟨gx, 2, none⟩ = some (.slice pe es.length ce) := ⟨lt_of_block hx, by rw [cell_of_row _ _ _ _ _ _ hx]; rfl, by rw [cell_of_row _ _ _ _ _ _ hx]; rfl, by rw [cell_of_row _ _ _ _ _ _ hx]; rfl⟩
          clear hx HI
          go_wp2
          go_roundw
          case rel => exact ⟨j + 1, by go_num, by omega, HJN⟩
          case measure => simp [intOf] <;> omega
    · have hjj : ¬ (j : Int) < (n : Int) := by omega
      obtain rfl : n = j := by omega
      have HT := Lib.hid (show (bdsOf l).take n = bdsOf l from List.take_of_length_le (by rw [bdsOf_len, ← HN.out]; exact Nat.le_refl _))
      rw [HT.out] at HM
      go_wp2
      go_ret
      exact ⟨_, rfl, HM.out.own, HM.out.be⟩
end Go.Proofs.Ytekcheccelllcaa
