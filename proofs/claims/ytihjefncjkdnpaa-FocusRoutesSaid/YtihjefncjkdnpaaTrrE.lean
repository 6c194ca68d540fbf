/- Trees: contract of the reference's kids. -/
import Derived.Test.YtihjefncjkdnpaaTrrD
import Derived.Outline
namespace Go.Proofs.Ytihjefncjkdnpaa
open Go.RowKit Go.Deep
set_option linter.unusedVariables false
set_option linter.unusedSimpArgs false

/-- kids is answered: the row of who is taken (block bt) is written on -/
def RetKids (Q : Prop) (w : World) (bt N : Nat) (t : Nat → Bool) (e : Ending) (w' : World) : Prop := ∃ r : Bool, e = .returned (.bool r) ∧ (r = true ↔ Q) ∧ w.grownBy w' (some bt) ∧ (r = true → w'.rowIs bt 4 N fun i => .bool (t i))
theorem ret_kids_mk {Q : Prop} {w w' : World} {bt N : Nat} {t : Nat → Bool} {r : Bool} (h : r = true ↔ Q) (hg : w.grownBy w' (some bt)) (ht : r = true → w'.rowIs bt 4 N fun i => .bool (t i)) : RetKids Q w bt N t (.returned (.bool r)) w' := ⟨r, rfl, h, hg, ht⟩
/-- the state of kids' loop -/
structure KiW (w wr : World) (bt N B : Nat) (v n0 n3 : Value) (t : Nat → Bool) : Prop where
  gr : w.grownBy wr (some bt)
  row : wr.rowIs bt 4 N fun i => .bool (t i)
  bx : wr.cell? ⟨w.heap.size, 0, none⟩ = some v
  k0 : wr.cell? ⟨B, 0, none⟩ = some n0
  k3 : wr.cell? ⟨B, 3, none⟩ = some n3
  lt : bt < w.heap.size
  lb : w.heap.size < B
  zb : B < wr.heap.size
theorem KiW.set {w wr : World} {bt N B : Nat} {v n0 n3 : Value} {t : Nat → Bool} (h : KiW w wr bt N B v n0 n3 t) (q : Nat) : KiW w (wr.setCell ⟨bt, q, none⟩ (.bool true)) bt N B v n0 n3 (upd t q true) := by
  have lt := h.lt
  have lb := h.lb
  refine ⟨⟨h.gr.os, h.gr.tape, h.gr.output, by rw [show (wr.setCell ⟨bt, q, none⟩ (.bool true)).heap.size = wr.heap.size by simp]; exact h.gr.size, fun i hi hne => ?_⟩, (h.row.set q (.bool true)).congr fun i _ => ?_, ?_, ?_, ?_, lt, h.lb, by rw [show (wr.setCell ⟨bt, q, none⟩ (.bool true)).heap.size = wr.heap.size by simp]; exact h.zb⟩
  · rw [blk_setCell_other _ _ _ _ (by intro e; apply hne; rw [e])]
    exact h.gr.block i hi hne
  · unfold upd; split <;> rfl
  · rw [World.cell?_of_block (blk_setCell_other _ _ _ _ (by simp; omega))]; exact h.bx
  · rw [World.cell?_of_block (blk_setCell_other _ _ _ _ (by simp; omega))]; exact h.k0
  · rw [World.cell?_of_block (blk_setCell_other _ _ _ _ (by simp; omega))]; exact h.k3
set_option maxRecDepth 100000 in
set_option maxHeartbeats 8000000 in
theorem ref_kids_any (p : Option Addr) (c n bt ct : Nat) (T : List Nd) (x : Nd) (t : Nat → Bool) (d : Nat → Int) (wb w : World) (hT : TreeAt wb (.slice p T.length c) T) (hbw : Below wb.heap.size wb w) (hbt : wb.heap.size ≤ bt) (hlt : n < T.length) (hx : T.getD n zNd = x) (hr : w.rowIs bt 4 T.length fun i => .bool (t i)) (hk1 : 1 ≤ x.kind) : Calls Try.prog 77 #[.agg #[.slice p T.length c], .int .i64 n, .slice (some ⟨bt, 0, none⟩) T.length ct] w (RetKids (¬ kidsBad T n x t d) w bt T.length (after T.length n x t d).1) := by
  have hlen := hT.len
  obtain ⟨w0, hw0⟩ : ∃ w0, w0 = w.alloc (.cells #[.slice p T.length c] 24) := ⟨_, rfl⟩
  have B0 : Below w.heap.size w w0 := by rw [hw0]; exact below_al (Below.refl _ _) _
  have z0 : w.heap.size < w0.heap.size := by rw [hw0]; simp
  have x0 : w0.cell? ⟨w.heap.size, 0, none⟩ = some (.slice p T.length c) := by rw [hw0]; simp [go_sem]
  have HW0 := Lib.hid hw0
  obtain ⟨_, _, p', c', e, _, _, hnd⟩ := hT
  injection e with e1 _ e2
  subst e1 e2
  obtain ⟨b, off, rfl, hb, hnd⟩ := hnd (by omega)
  have hxn := hnd n hlt
  rw [hx] at hxn
  obtain ⟨kv, cv, hkv, hcv, hc⟩ := hxn
  have RNG0 := nd_range (w := w0) (b := b) (o := off + n * 34) (x := x) (kv := kv) (cv := cv) (fun j hj => by
    have Bw0 : Below wb.heap.size wb w0 := below_via B0 hbw
    rw [(bcell Bw0).1 _ _ hb]; exact hc j hj)
  have ONE0 := ndV_one hkv hcv
  obtain ⟨pk, ck, rfl, l1, l2, _, hks⟩ := hkv
  have c0e : (ndV x (.slice pk x.kids.length ck) cv)[0]? = some (.int .i8 x.kind) := rfl
  have c3e : (ndV x (.slice pk x.kids.length ck) cv)[3]? = some (.slice pk x.kids.length ck) := rfl
  have len0 := ndV_len x (.slice pk x.kids.length ck) cv
  generalize ndV x (.slice pk x.kids.length ck) cv = cs at *
  have RNG := Lib.hid RNG0
  have ONE := Lib.hid ONE0
  have LEN := Lib.hid len0
  have C0 := Lib.hid c0e
  have C3 := Lib.hid c3e
  have HKS := Lib.hid hks
  have HBW := Lib.hid hbw
  have hbw0 : b < w0.heap.size := by have := hbw.size; omega
  have hnT : (n : Int) < (T.length : Int) := by omega
  have hbtw : bt < w.heap.size := hr.lt
  have hwbw := hbw.size
  clear hc hcv RNG0 ONE0 len0 c0e c3e hw0 hx hnd hks hbw
  go_enter Try.func77, Try.ntmps77
  go_upto_region 1 with (fail)
  rw [← HW0.out]
  go_wp2_with (first | ((with_reducible refine wpList_load_node ?g1 (.tmp 13) ?g2 b (off + n * 34) ?g3 cs LEN.out RNG.out ?_); (case g1 => rfl); (case g2 => rfl); (case g3 => rfl)) | ((with_reducible refine wpList_store_node ?g1 (.tmp 7) (.tmp 14) ?g2 _ _ cs ?g3 ?g4 ?g5 LEN.out ONE.out ?_); (case g1 => rfl); (case g2 => rfl); (case g3 => rfl); (case g4 => rfl); (case g5 => rfl)))
  intro w3 hb3 hz3 hr3
  have n0 : w3.cell? ⟨w0.heap.size, 0, none⟩ = some (.int .i8 x.kind) := hr3 0 _ C0.out
  have n3 : w3.cell? ⟨w0.heap.size, 3, none⟩ = some (.slice pk x.kids.length ck) := by have := hr3 3 _ C3.out; simpa using this
  have x3 : w3.cell? ⟨w.heap.size, 0, none⟩ = some (.slice (some ⟨b, off, none⟩) T.length c) := by rw [(bcell hb3).1 _ _ z0]; exact x0
  have B3 : Below w.heap.size w w3 := below_via hb3 B0
  have KI0 := Lib.hid (show KiW w w3 bt T.length w0.heap.size (.slice (some ⟨b, off, none⟩) T.length c) (.int .i8 x.kind) (.slice pk x.kids.length ck) t from
    ⟨⟨B3.os, B3.tape, B3.output, B3.size, fun i hi _ => B3.block i hi⟩, hr.of_block (below_block B3 hbtw), x3, n0, n3, hbtw, z0, hz3⟩)
  obtain ⟨BX, hBX⟩ : ∃ z, z = w0.heap.size := ⟨_, rfl⟩
  rw [← hBX] at KI0 n0 n3
  rw [← hBX]
  clear hr3 hb3 x0 HW0 B3 hBX hr RNG hz3 z0
  clear n0 n3 x3 hbw0 B0
  have zb := KI0.out.zb
  have bx := KI0.out.bx
  have k0 := KI0.out.k0
  have k3 := KI0.out.k3
  go_wp2
  go_loopw [8] (fun i wr => ∃ j : Nat, ∃ t2 : Nat → Bool, ∃ d2 : Nat → Int, j ≤ x.kids.length ∧ i = .int .i64 j ∧ RowKit.Hid (kidGo T.length n (x.kids.drop j) t2 d2 = kidGo T.length n x.kids t d) ∧ RowKit.Hid (KiW w wr bt T.length BX (.slice (some ⟨b, off, none⟩) T.length c) (.int .i8 x.kind) (.slice pk x.kids.length ck) t2)) (fun i _ => x.kids.length - (intOf i).toNat)
  case atStart => exact ⟨0, t, d, Nat.zero_le _, rfl, Lib.hid rfl, KI0⟩
  case round =>
    clear KI0 zb bx k0 k3
    obtain ⟨j, t2, d2, hj, rfl, HK, KI⟩ := hrel
    have zb := KI.out.zb
    have bx := KI.out.bx
    have k0 := KI.out.k0
    have k3 := KI.out.k3
    have ne1 : bt ≠ BX := by have := KI.out.lb; omega
    have GR := Lib.hid KI.out.gr
    have BWB := Lib.hid (show Below wb.heap.size wb wr from Below.grown HBW.out KI.out.gr hwbw (fun k hk => by injection hk with hk; omega))
    have SWB := BWB.out.size
    by_cases hjl : j < x.kids.length
    · obtain ⟨bk, ok, rfl, hbk, hkc⟩ := HKS.out (by omega)
      obtain ⟨k, hke⟩ : ∃ k, k = x.kids.getD j 0 := ⟨_, rfl⟩
      have kc : wr.cell? ⟨bk, ok + j, none⟩ = some (.int .i64 k) := by rw [(bcell BWB.out).1 _ _ hbk, hkc j hjl, hke]
      have hbkw : bk < wr.heap.size := by omega
      have HK' := Lib.hid (show kidGo T.length n (k :: x.kids.drop (j + 1)) t2 d2 = kidGo T.length n x.kids t d by
        have := HK.out
        rw [List.drop_eq_getElem_cons hjl] at this
        rw [hke, List.getD_eq_getElem?_getD, List.getElem?_eq_getElem hjl]
        exact this)
      clear hke hkc HK
      by_cases hk1' : k ≤ (n : Int)
      · have HB := Lib.hid (show kidsBad T n x t d from .inl (by rw [← HK'.out, kidGo_bad (.inl hk1')]; rfl))
        go_wp2
        go_ret
        exact ret_kids_mk (iff_of_false (by simp) (fun h => h HB.out)) GR.out (by simp)
      · have hk2 : (n : Int) < k := by omega
        clear hk1'
        by_cases hk3 : (T.length : Int) ≤ k
        · have HB := Lib.hid (show kidsBad T n x t d from .inl (by rw [← HK'.out, kidGo_bad (.inr (.inl hk3))]; rfl))
          go_wp2
          go_ret
          exact ret_kids_mk (iff_of_false (by simp) (fun h => h HB.out)) GR.out (by simp)
        · obtain ⟨q, rfl⟩ : ∃ q : Nat, k = (q : Int) := ⟨k.toNat, by omega⟩
          have hq1 : n < q := by omega
          have hq2 : q < T.length := by omega
          have hq3 : (q : Int) < (T.length : Int) := by omega
          clear hk3
          have tq := KI.out.row.cell hq2
          have fq := KI.out.row.frozen q
          have btw : bt < wr.heap.size := KI.out.row.lt
          cases htq : t2 q
          · have HKO := Lib.hid ((kidGo_ok (ks := x.kids.drop (j + 1)) (d := d2) hq1 hq2 htq).symm.trans HK'.out)
            rw [htq] at tq
            have KI' := Lib.hid (KI.out.set q)
            clear htq HK'
            go_wp2
            go_roundw
            case rel => exact ⟨j + 1, _, _, by omega, by go_num, HKO, KI'⟩
            case measure => simp [intOf]; omega
          · have HB := Lib.hid (show kidsBad T n x t d from .inl (by rw [← HK'.out, kidGo_bad (.inr (.inr (by rw [Int.toNat_natCast]; exact htq)))]; rfl))
            rw [htq] at tq
            clear htq HK'
            go_wp2
            go_ret
            exact ret_kids_mk (iff_of_false (by simp) (fun h => h HB.out)) GR.out (by simp)
    · obtain rfl : j = x.kids.length := by omega
      have HKE := Lib.hid (show kidGo T.length n x.kids t d = some (t2, d2) by rw [← HK.out, List.drop_length]; rfl)
      have HQ := Lib.hid (show kidsBad T n x t d ↔ ((leafB x.kind = true ∧ 0 < x.kids.length) ∨ (x.kind = 6 ∧ x.kids.length ≠ 1)) by
        unfold kidsBad; rw [HKE.out]; simp)
      have HAF := Lib.hid (show (after T.length n x t d).1 = t2 by unfold after; rw [HKE.out]; rfl)
      have HROW := Lib.hid KI.out.row
      clear HK hjl hj
      cases hlf : leafB x.kind
      · have HLF := Lib.hid hlf
        rcases (show x.kind = 6 ∨ x.kind ≠ 6 by omega) with h6 | h6
        · rcases (show x.kids.length = 1 ∨ x.kids.length ≠ 1 by omega) with h1k | h1k
          · have R := Lib.hid (show true = true ↔ ¬ kidsBad T n x t d from iff_of_true rfl (by rw [HQ.out, hlf]; rintro (⟨h, _⟩ | ⟨_, h⟩); cases h; exact h h1k))
            have d6 : (x.kind != 6) = false := by rw [bne_eq_false_iff_eq]; exact h6
            have d1 : ((x.kids.length : Int) == 1) = true := by rw [beq_iff_eq]; omega
            clear hlf h6 h1k
            go_wp2_with fail
            refine (ref_Leaf_any x.kind _ hk1).mono ?_
            rw [HLF.out]
            rintro e w' ⟨rfl, rfl⟩
            go_wp2
            go_ret
            exact ret_kids_mk (by simpa using R.out) GR.out (fun _ => by rw [HAF.out]; exact HROW.out)
          · have R := Lib.hid (show false = true ↔ ¬ kidsBad T n x t d from iff_of_false (by simp) (fun h => h (HQ.out.2 (.inr ⟨h6, h1k⟩))))
            have d6 : (x.kind != 6) = false := by rw [bne_eq_false_iff_eq]; exact h6
            have d1 : ((x.kids.length : Int) == 1) = false := by rw [beq_eq_false_iff_ne]; omega
            clear hlf h6 h1k
            go_wp2_with fail
            refine (ref_Leaf_any x.kind _ hk1).mono ?_
            rw [HLF.out]
            rintro e w' ⟨rfl, rfl⟩
            go_wp2
            go_ret
            exact ret_kids_mk (by simpa using R.out) GR.out (fun _ => by rw [HAF.out]; exact HROW.out)
        · have R := Lib.hid (show true = true ↔ ¬ kidsBad T n x t d from iff_of_true rfl (by rw [HQ.out, hlf]; rintro (⟨h, _⟩ | ⟨h, _⟩); cases h; exact h6 h))
          have d6 : (x.kind != 6) = true := by rw [bne_iff_ne]; exact h6
          clear hlf h6
          go_wp2_with fail
          refine (ref_Leaf_any x.kind _ hk1).mono ?_
          rw [HLF.out]
          rintro e w' ⟨rfl, rfl⟩
          go_wp2
          go_ret
          exact ret_kids_mk (by simpa using R.out) GR.out (fun _ => by rw [HAF.out]; exact HROW.out)
      · have HLF := Lib.hid hlf
        have h6 : x.kind ≠ 6 := by
          intro h; unfold leafB at hlf; rw [decide_eq_true_eq] at hlf; omega
        have d6 : (x.kind != 6) = true := by rw [bne_iff_ne]; exact h6
        rcases (show x.kids.length = 0 ∨ 0 < x.kids.length by omega) with h0k | h0k
        · have R := Lib.hid (show true = true ↔ ¬ kidsBad T n x t d from iff_of_true rfl (by rw [HQ.out]; rintro (⟨_, h⟩ | ⟨h, _⟩); omega; exact h6 h))
          have d0 : ((x.kids.length : Int) == 0) = true := by rw [beq_iff_eq]; omega
          clear hlf h6 h0k
          go_wp2_with fail
          refine (ref_Leaf_any x.kind _ hk1).mono ?_
          rw [HLF.out]
          rintro e w' ⟨rfl, rfl⟩
          go_wp2
          go_ret
          exact ret_kids_mk (by simpa using R.out) GR.out (fun _ => by rw [HAF.out]; exact HROW.out)
        · have R := Lib.hid (show false = true ↔ ¬ kidsBad T n x t d from iff_of_false (by simp) (fun h => h (HQ.out.2 (.inl ⟨hlf, h0k⟩))))
          have d0 : ((x.kids.length : Int) == 0) = false := by rw [beq_eq_false_iff_ne]; omega
          clear hlf h6 h0k
          go_wp2_with fail
          refine (ref_Leaf_any x.kind _ hk1).mono ?_
          rw [HLF.out]
          rintro e w' ⟨rfl, rfl⟩
          go_wp2
          go_ret
          exact ret_kids_mk (by simpa using R.out) GR.out (fun _ => by rw [HAF.out]; exact HROW.out)
end Go.Proofs.Ytihjefncjkdnpaa
