/- Trees: contract of the reference's Parents. -/
import Derived.Test.YtihjefncjkdnpaaDwq
import Derived.Test.YtihjefncjkdnpaaTrrF
namespace Go.Proofs.Ytihjefncjkdnpaa
open Go.RowKit Go.Deep
set_option linter.unusedVariables false
set_option linter.unusedSimpArgs false

/-- what the reference has told behind the first n nodes -/
def refP (T : List Nd) : Nat → Nat → Int
  | 0 => iniP
  | n + 1 => setK n (kidsOf T n) (refP T n)
theorem refP_told {T : List Nd} (h : (checkT T).1 = 0) : ∀ n, n ≤ T.length → refP T n 0 = -1 ∧ ∀ m, m < n → Told T (refP T n) m
  | 0, _ => ⟨rfl, fun m hm => by omega⟩
  | n + 1, hn => by
    obtain ⟨h1, h2⟩ := refP_told h n (by omega)
    have hks := check_kids h n (by omega)
    have hset := setK_at n (kidsOf T n) (refP T n) (fun k hk => by have := hks k hk; omega)
    refine ⟨?_, fun m hm k hk => ?_⟩
    · rw [refP, hset, if_neg (fun h0 => by have := hks _ h0; omega)]; exact h1
    · rw [refP, hset]
      by_cases e : (k : Int) ∈ kidsOf T n
      · rw [if_pos e, kid_one h (show n < T.length by omega) (show m < T.length by omega) e hk]
      · rw [if_neg e]
        refine h2 m ?_ k hk
        rcases Nat.lt_or_ge m n with h' | h'
        · exact h'
        · rw [show m = n by omega] at hk; exact absurd hk e
theorem refP_eq {T : List Nd} (h : (checkT T).1 = 0) : (List.range T.length).map (refP T T.length) = parL T := by
  have hp := check_pos h
  obtain ⟨h1, h2⟩ := refP_told h T.length (Nat.le_refl _)
  refine IsPar.eq h ⟨by simp, ?_, fun m hm k hk => ?_⟩ (parL_is h)
  · rw [range_getD _ _ _ hp, h1]
  · rw [range_getD _ _ _ (kid_lt h hm hk).2]; exact h2 m hm k hk
theorem parL_wrong {T : List Nd} (h : ¬ (checkT T).1 = 0) : parL T = [] := parL_none (by unfold walkS; rw [if_neg h])
structure RpW (w W : World) (p : Option Addr) (c : Nat) (T : List Nd) (br : Nat) (f : Nat → Int) : Prop where
  be : Below w.heap.size w W
  box : W.heap[w.heap.size]? = some (.cells #[.slice p T.length c] 24 (0, 0))
  row : W.rowIs br 3 T.length (fun i => .int .i64 (f i))
  l1 : w.heap.size < br
theorem RpW.set {w W : World} {p : Option Addr} {c : Nat} {T : List Nd} {br : Nat} {f : Nat → Int} (h : RpW w W p c T br f) (q : Nat) (v : Int) : RpW w (W.setCell ⟨br, q, none⟩ (.int .i64 v)) p c T br (upd f q v) := by
  have l1 := h.l1
  exact ⟨h.be.setCell (by simp; omega) _, (blk_setCell_other _ _ _ _ (by simp; omega)).trans h.box, (h.row.set q _).congr (fun i _ => by unfold upd; split <;> rfl), l1⟩
set_option maxRecDepth 100000 in
set_option maxHeartbeats 16000000 in
theorem ref_Parents_any (p : Option Addr) (c : Nat) (T : List Nd) (w : World) (hT : TreeAt w (.slice p T.length c) T) : Calls Try.prog 52 #[.agg #[.slice p T.length c]] w fun e w' => ∃ v, e = .returned v ∧ w'.ownsRow w.heap.size 3 1 v (parL T).length ((parL T).map (Value.int .i64)) ∧ Below w.heap.size w w' := by
  have HT := Lib.hid hT
  have hlen := hT.len
  clear hT
  obtain ⟨cd, hcd⟩ : ∃ z, z = (checkT T).1 := ⟨_, rfl⟩
  have HCD := Lib.hid hcd
  clear hcd
  by_cases h0 : cd = 0
  · have k0 : (cd != 0) = false := by rw [bne_eq_false_iff_eq]; exact h0
    have HCK := Lib.hid (HCD.out.symm.trans h0)
    have h4 := (check_len HCK.out).2
    have hp := (check_len HCK.out).1
    have mk := run_make_row' (P := Try.prog) 25 3 (.int .i64 0) 8 Try.underlying25 (by kernel_rfl) rfl .i64 .i64 T.length (by omega) (by omega)
    have MK := Lib.hid mk
    clear mk
    go_enter Try.func52, Try.ntmps52
    go_wp2_with fail
    refine (ref_Check_any p c T _ (HT.out.later (by go_grown))).mono ?_
    rw [← HCD.out]
    generalize (checkT T).2 = c2 at *
    rintro e w1 ⟨rfl, hb1⟩
    have B1 : Below w.heap.size w w1 := below_via hb1 (by go_grown)
    have t1 := (hb1.block w.heap.size (by simp)).trans (heap_alloc_new _ _)
    have x0 := cell_of_one t1
    have z0 := lt_of_block t1
    have T1 := Lib.hid t1
    have mk := MK.out
    have hT0 : (0 : Int) < (T.length : Int) := by omega
    clear hb1 t1
    go_upto_region 5 with (fail)
    obtain ⟨br, hbr⟩ : ∃ br, br = w1.heap.size := ⟨_, rfl⟩
    generalize hw2 : World.alloc _ _ = w2
    have R2 : RpW w w2 p c T br (fun _ => 0) := by
      rw [← hw2, hbr]
      exact ⟨below_al B1 _, (heap_alloc_old _ _ z0).trans T1.out, World.rowIs_made w1 (.int .i64 0) T.length 3, z0⟩
    rw [← hbr]
    have HR2 := Lib.hid R2
    have y1 := R2.row.cell hp
    have y2 := R2.row.frozen 0
    have y4 := R2.row.lt
    clear hw2 R2 mk hbr x0 z0 B1 T1
    go_upto_region 6 with (fail)
    generalize hw3 : World.setCell _ _ _ = w3
    have HR : RowKit.Hid (RpW w w3 p c T br (refP T 0)) := Lib.hid (by rw [← hw3]; exact HR2.out.set 0 (-1))
    clear hw3 HR2 y1 y2 y4
    go_wp2
    go_loopw [6] (fun i wr => ∃ n : Nat, n ≤ T.length ∧ i = .int .i64 n ∧ RowKit.Hid (RpW w wr p c T br (refP T n))) (fun i _ => T.length - (intOf i).toNat)
    case atStart => exact ⟨0, Nat.zero_le _, rfl, HR⟩
    case round =>
      clear HR
      obtain ⟨n, hn, rfl, HR⟩ := hrel
      have x0 := cell_of_one HR.out.box
      have z0 := lt_of_block HR.out.box
      by_cases hlt : n < T.length
      · have hni : (n : Int) < (T.length : Int) := by omega
        have HK := Lib.hid (check_kids HCK.out n hlt)
        obtain ⟨_, _, p', c', e, _, _, hnd⟩ := HT.out
        injection e with e1 _ e2
        subst e1 e2
        obtain ⟨b, off, rfl, hb, hnd⟩ := hnd (by omega)
        obtain ⟨kv, cv, hkv, _, hc⟩ := hnd n hlt
        obtain ⟨pk, ck, rfl, hkl1, hkl2, _, hkc⟩ := hkv
        have HC3 := Lib.hid (show w.cell? ⟨b, off + n * 34 + 3, none⟩ = some (.slice pk (T.getD n zNd).kids.length ck) from hc 3 (by omega))
        have HKC := Lib.hid hkc
        have HS := Lib.hid (show refP T (n + 1) = setK n (T.getD n zNd).kids (refP T n) from rfl)
        clear hc hkc hnd
        generalize (T.getD n zNd).kids = ks at *
        have hkl : ks.length ≤ 9223372036854775807 := by omega
        go_upto_region 10 with (fail)
        obtain ⟨wo, rfl⟩ : ∃ wo : World, wo = wr := ⟨_, rfl⟩
        go_loopw [7] (fun j wr => ∃ q : Nat, q ≤ ks.length ∧ j = .int .i64 q ∧ RowKit.Hid (RpW w wr (some ⟨b, off, none⟩) c T br (setK n (ks.take q) (refP T n)))) (fun j _ => ks.length - (intOf j).toNat)
        case atStart => exact ⟨0, Nat.zero_le _, rfl, HR⟩
        case round =>
          clear HR x0 z0
          obtain ⟨q, hq, rfl, HR⟩ := hrel
          have x0 := cell_of_one HR.out.box
          have z0 := lt_of_block HR.out.box
          have c3 : wr.cell? ⟨b, off + n * 34 + 3, none⟩ = some (.slice pk ks.length ck) := by rw [(bcell HR.out.be).1 _ _ hb]; exact HC3.out
          have hbw : b < wr.heap.size := by have := HR.out.be.size; omega
          by_cases hql : q < ks.length
          · have hqi : (q : Int) < (ks.length : Int) := by omega
            obtain ⟨bk, ok, rfl, hbk, hkc⟩ := HKC.out (by omega)
            have ck0 := hkc q hql
            rw [← (bcell HR.out.be).1 _ _ hbk] at ck0
            have hbkw : bk < wr.heap.size := by have := HR.out.be.size; omega
            have hgr := HK.out (ks.getD q 0) (by rw [List.getD_eq_getElem?_getD, List.getElem?_eq_getElem hql]; exact List.getElem_mem hql)
            obtain ⟨g, hg⟩ : ∃ g : Nat, ks.getD q 0 = (g : Int) := ⟨(ks.getD q 0).toNat, by omega⟩
            rw [hg] at ck0 hgr
            have HG := Lib.hid hg
            have hgN : g < T.length := by omega
            have hgi : (g : Int) < (T.length : Int) := by omega
            have y1 := HR.out.row.cell hgN
            have y2 := HR.out.row.frozen g
            have y4 := HR.out.row.lt
            have HR' := Lib.hid (show RpW w (wr.setCell ⟨br, g, none⟩ (.int .i64 (n : Int))) (some ⟨b, off, none⟩) c T br (setK n (ks.take (q + 1)) (refP T n)) by
              have e : setK n (ks.take (q + 1)) (refP T n) = upd (setK n (ks.take q) (refP T n)) g (n : Int) := by
                unfold setK
                rw [List.take_succ_eq_append_getElem hql, List.foldl_append, List.foldl_cons, List.foldl_nil]
                have := HG.out
                rw [List.getD_eq_getElem?_getD, List.getElem?_eq_getElem hql] at this
                simp only [Option.getD_some] at this
                rw [this, Int.toNat_natCast]
              rw [e]
              exact HR.out.set g (n : Int))
            clear HR hkc hg
            go_wp2
            go_roundw
            case rel => exact ⟨q + 1, by omega, by go_num, HR'⟩
            case measure => simp [intOf]; omega
          · obtain rfl : q = ks.length := by omega
            have HR' : RowKit.Hid (RpW w wr (some ⟨b, off, none⟩) c T br (refP T (n + 1))) := Lib.hid (by
              have := HR.out
              rw [List.take_length, ← HS.out] at this
              exact this)
            clear HR hql hq
            go_wp2
            go_roundw
            case rel => exact ⟨n + 1, by omega, by go_num, HR'⟩
            case measure => simp [intOf]; omega
      · obtain rfl : n = T.length := by omega
        have y4 := HR.out.row.lt
        clear hlt hn
        go_wp2
        go_ret
        refine ⟨_, rfl, ?_, HR.out.be⟩
        rw [← refP_eq HCK.out]
        simpa using rowIs_own HR.out.row (Nat.le_of_lt HR.out.l1) (by unfold maxLen; omega)
  · have k0 : (cd != 0) = true := by rw [bne_iff_ne]; exact h0
    have HP := Lib.hid (parL_wrong (fun h => h0 (HCD.out.trans h)))
    go_enter Try.func52, Try.ntmps52
    go_wp2_with fail
    refine (ref_Check_any p c T _ (HT.out.later (by go_grown))).mono ?_
    rw [← HCD.out]
    generalize (checkT T).2 = c2 at *
    rintro e w1 ⟨rfl, hb1⟩
    have B1 : Below w.heap.size w w1 := below_via hb1 (by go_grown)
    clear hb1
    go_wp2
    go_ret
    exact ⟨_, rfl, by rw [HP.out]; exact ⟨rfl, .inl ⟨rfl, rfl⟩⟩, B1⟩
end Go.Proofs.Ytihjefncjkdnpaa
