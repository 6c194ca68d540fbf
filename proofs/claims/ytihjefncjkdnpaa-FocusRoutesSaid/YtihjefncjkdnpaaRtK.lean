/- RtK: the walk of FocusRoutes. -/
import Derived.Test.YtihjefncjkdnpaaRtY
import Derived.Test.YtihjefncjkdnpaaLntD
import Derived.Test.YtihjefncjkdnpaaLntT
import Derived.Laws.StructEq
namespace Go.Proofs.Ytihjefncjkdnpaa
open Go.RowKit Go.Deep
set_option linter.unusedVariables false
set_option linter.unusedSimpArgs false

/-- steps that lie in memory one behind the other -/
def StpsAt (w : World) (p : Option Addr) (S : List Stp) : Prop := S.length ≠ 0 → ∃ b off, p = some ⟨b, off, none⟩ ∧ b < w.heap.size ∧ ∀ i, i < S.length → ∀ j, j < 6 → w.cell? ⟨b, off + (i * 6 + j), none⟩ = (stpC (S.getD i zStp))[j]?
theorem StpsAt.later {w w' : World} {p : Option Addr} {S : List Stp} (h : StpsAt w p S) (hb : Below w.heap.size w w') : StpsAt w' p S := fun h0 => by
  obtain ⟨b, off, e, hl, hc⟩ := h h0
  refine ⟨b, off, e, by have := hb.size; omega, fun i hi j hj => ?_⟩
  rw [(bcell hb).1 _ _ (by omega)]
  exact hc i hi j hj
theorem UpOk.of {T : List Nd} (h : (checkT T).1 = 0) : UpOk (parL T) := fun i hi => (parL_is h).low h (by rwa [(parL_is h).len] at hi)
/-- a block of cells, cell by cell -/
theorem blk_at {w : World} {g : Nat} {cur : Array Value} {t : TypeId} (h : w.heap[g]? = some (.cells cur t (0, 0))) {k : Nat} (hk : k < cur.size) : (∃ v, w.cell? ⟨g, k, none⟩ = some v) ∧ w.frozen? ⟨g, k, none⟩ = false := by
  refine ⟨⟨cur[k], ?_⟩, ?_⟩
  · simp [World.cell?, h, hk]
  · simp [World.frozen?, h]
theorem tknsC_get : ∀ (l : List (Nat × Int)) (i : Nat), i < l.length → ∀ j v, (tknC (l.getD i (0, 0)))[j]? = some v → (tknsC l)[i * 7 + j]? = some v
  | [], i, h, _, _, _ => absurd h (Nat.not_lt_zero _)
  | x :: l, 0, _, j, v, hv => by
    show (tknC x ++ tknsC l)[0 * 7 + j]? = _
    rw [Nat.zero_mul, Nat.zero_add]
    have hj := (List.getElem?_eq_some_iff.1 hv).1
    exact (List.getElem?_append_left (show j < (tknC x).length from hj)).trans hv
  | x :: l, i + 1, h, j, v, hv => by
    show (tknC x ++ tknsC l)[(i + 1) * 7 + j]? = _
    have h1 : (i + 1) * 7 + j = (tknC x).length + (i * 7 + j) := by simp [tknC]; omega
    rw [h1, List.getElem?_append_right (by omega), Nat.add_sub_cancel_left]
    exact tknsC_get l i (by simpa using h) j v hv
theorem below_via2_ {a b c : World} (h : Below a.heap.size a b) (h2 : Below b.heap.size b c) : Below a.heap.size a c := below_via h2 h
theorem neqTaken (n : Nat) (c : Int) (w : World) : (binOp .neq 64 (.agg #[.int .i64 n, .int .i8 2, .int .i32 c, .int .u8 0, .int .i64 0, .int .i64 0, .string ⟨#[101]⟩]) (.agg #[.int .i64 n, .int .i8 2, .int .i32 c, .int .u8 0, .int .i64 0, .int .i64 0, .string ⟨#[101]⟩])).run Try.prog w = .ok (.bool false) w := by
  simp [go_sem]
def RetR (w : World) (e : Ending) (w' : World) : Prop := e = .returned (.bool true) ∧ Below w.heap.size w w'
theorem checkT_len {T : List Nd} (h : (checkT T).1 = 0) : (parL T).length = T.length ∧ T.length ≤ 4096 := ⟨(parL_is h).len, (check_len h).2⟩
set_option maxRecDepth 100000 in
set_option maxHeartbeats 32000000 in
theorem FocusRoutes_walk (p ps : Option Addr) (c ns ks : Nat) (T : List Nd) (L : List Stp) (w : World) (ht : TreeAt w (.slice p T.length c) T) (hs : StpsAt w ps L) (hL : L.length = ns) (hN : T.length * 288 ≤ 140737488351232) (hK : ∀ x ∈ T, x.kids.length * 8 ≤ 140737488351232 ∧ x.cols.length * 40 ≤ 140737488351232) : Calls Try.prog 5 #[.agg #[.slice p T.length c], .slice ps ns ks] w (RetR w) := by
  subst hL
  have HT := Lib.hid ht
  have HS := Lib.hid hs
  have HK := Lib.hid hK
  have HN := Lib.hid hN
  have HPO := Lib.hid (fun (W' : World) (hb : Below w.heap.size w W') => show RetR w (.returned (.bool true)) W' from ⟨rfl, hb⟩)
  generalize RetR w = post at *
  clear ht hs hK hN
  obtain ⟨W1, hW1⟩ : ∃ W1, W1 = w.alloc (.cells #[.slice p T.length c] 24) := ⟨_, rfl⟩
  have C1 := Lib.hid (show Below w.heap.size w W1 from by rw [hW1]; exact below_al (Below.refl _ _) _)
  have A1 := Lib.hid (show W1.heap[w.heap.size]? = some (.cells #[.slice p T.length c] 24 (0, 0)) from by rw [hW1]; exact heap_alloc_new _ _)
  have HW1 := Lib.hid hW1
  clear hW1
  go_enter Try.func5, Try.ntmps5
  go_upto_region 1 with (fail)
  rw [← HW1.out]
  clear HW1
  by_cases hbig : 4096 < L.length
  · have hbi : (4096 : Int) < (L.length : Int) := by omega
    go_wp2_with fail
    refine (works_any _).mono ?_
    rintro e w2 ⟨rfl, hb⟩
    go_wp2
    exact HPO.out _ (below_via hb C1.out)
  have hbi : ¬ (4096 : Int) < (L.length : Int) := by omega
  have x1 := cell_of_one A1.out
  have z1 := lt_of_block A1.out
  go_wp2_with fail
  refine (lent_any p c T _ (HT.out.later C1.out) HN.out HK.out).mono ?_
  rintro e w3 ⟨v3, rfl, LA, hb3⟩
  have HLA := Lib.hid LA
  obtain ⟨ga, cga, rfl⟩ : ∃ g cg, v3 = .slice (some ⟨g, 0, none⟩) T.length cg := by obtain ⟨g, c, _, e, _⟩ := LA; exact ⟨g, c, e⟩
  have D3 := Lib.hid hb3
  clear LA hb3 x1 z1
  go_upto_region 4 with (fail)
  obtain ⟨b3, hb3⟩ : ∃ b, b = w3.heap.size := ⟨_, rfl⟩
  rw [← hb3]
  obtain ⟨w5, hw5⟩ : ∃ w5, w5 = w3.alloc (.cells #[.slice (some ⟨ga, 0, none⟩) T.length cga] 24) := ⟨_, rfl⟩
  rw [← hw5]
  have C5 := Lib.hid (show Below w3.heap.size w3 w5 from by rw [hw5]; exact below_al (Below.refl _ _) _)
  have A5 := Lib.hid (show w5.heap[b3]? = some (.cells #[.slice (some ⟨ga, 0, none⟩) T.length cga] 24 (0, 0)) from by rw [hw5, hb3]; exact heap_alloc_new _ _)
  have HB3 := Lib.hid hb3
  clear hw5 hb3
  have D5 := Lib.hid (below_via C5.out D3.out)
  have B5 := Lib.hid (below_via D5.out C1.out)
  have HLA5 := Lib.hid (HLA.out.later C5.out)
  have HTA := Lib.hid (HLA5.out.tree HT.out.ok HT.out.len)
  have HT5 := Lib.hid (HT.out.later B5.out)
  have HF := Lib.hid (fun w' (h : Below w5.heap.size w5 w') => show (w'.cell? ⟨w.heap.size, 0, none⟩ = some (.slice p T.length c) ∧ w'.cell? ⟨b3, 0, none⟩ = some (.slice (some ⟨ga, 0, none⟩) T.length cga)) ∧ (w.heap.size < w'.heap.size ∧ b3 < w'.heap.size) from by
    have ya := (D5.out.block _ (lt_of_block A1.out)).trans A1.out
    have h1 := (h.block _ (lt_of_block ya)).trans ya
    have h2 := (h.block _ (lt_of_block A5.out)).trans A5.out
    exact ⟨⟨cell_of_one h1, cell_of_one h2⟩, lt_of_block h1, lt_of_block h2⟩)
  clear HLA D3
  obtain ⟨⟨xa, xb⟩, sa, sb⟩ := HF.out w5 (Below.refl _ _)
  go_wp2_with fail
  by_cases hck : (checkT T).1 = 0
  case neg =>
    refine (focus_New_no _ cga T _ HTA.out hck).mono ?_
    have HCK := Lib.hid hck
    generalize hc : (checkT T).1 = ec at *
    rintro e w6 ⟨rfl, hb6⟩
    have B6 := Lib.hid hb6
    clear hb6 xa xb sa sb
    obtain ⟨⟨xa, xb⟩, sa, sb⟩ := HF.out w6 B6.out
    go_wp2_with fail
    refine (refRoutes_New_no p c T _ (HT5.out.later B6.out) (by rw [hc]; exact HCK.out)).mono ?_
    rw [hc]
    rintro e w7 ⟨rfl, hb7⟩
    have B7 := Lib.hid (below_via hb7 B6.out)
    clear hb7 xa xb sa sb hc
    obtain ⟨⟨xa, xb⟩, sa, sb⟩ := HF.out w7 B7.out
    have hne : (ec == 0) = false := by simpa using hck
    have hne2 : decide (ec = 0) = false := by simpa using hck
    have hne3 : (ec != 0) = true := by simpa using hck
    clear hck
    go_wp2_with fail
    refine (kept_any _ p c T _ _ (HLA5.out.later B7.out) (HT5.out.later B7.out)).mono ?_
    rintro e w8 ⟨rfl, hb8⟩
    have B8 := Lib.hid (below_via hb8 B7.out)
    clear hb8 xa xb sa sb
    go_wp2_with fail
    refine (works_any _).mono ?_
    rintro e w9 ⟨rfl, hb9⟩
    have B9 := Lib.hid (below_via hb9 B8.out)
    clear hb9
    go_wp2_with fail
    refine (On_nil 0 .nilFunc w9).mono ?_
    rintro e w10 ⟨rfl, rfl⟩
    go_wp2
    exact HPO.out _ (below_via B9.out B5.out)
  case pos =>
    refine (focus_New_yes _ cga T _ HTA.out hck).mono ?_
    have HCK := Lib.hid hck
    clear hck
    obtain ⟨hPl, hTl⟩ := checkT_len HCK.out
    have HUP := Lib.hid (UpOk.of HCK.out)
    rintro e w6 ⟨rb, mb, pv, rfl, RA6⟩
    have HR6 := Lib.hid RA6
    have B6 := Lib.hid RA6.be
    clear RA6 xa xb sa sb
    obtain ⟨⟨xa, xb⟩, sa, sb⟩ := HF.out w6 B6.out
    go_wp2_with fail
    refine (refRoutes_New_yes p c T _ (HT5.out.later B6.out) HCK.out).mono ?_
    rintro e w7 ⟨gr, qv, rfl, RF7, hb7⟩
    have HF7 := Lib.hid RF7
    have B7 := Lib.hid (below_via hb7 B6.out)
    have HR7 := Lib.hid (HR6.out.later hb7)
    have Z6 := Lib.hid B6.out.size
    clear hb7 RF7 xa xb sa sb HR6 B6
    obtain ⟨⟨xa, xb⟩, sa, sb⟩ := HF.out w7 B7.out
    go_wp2_with fail
    refine (kept_any _ p c T _ _ (HLA5.out.later B7.out) (HT5.out.later B7.out)).mono ?_
    rintro e w8 ⟨rfl, hb8⟩
    have B8 := Lib.hid (below_via hb8 B7.out)
    have HR8 := Lib.hid (HR7.out.later hb8)
    have HF8 := Lib.hid (HF7.out.later hb8)
    clear hb8 xa xb sa sb HR7 HF7 B7
    go_wp2_with fail
    refine (works_any _).mono ?_
    rintro e w9 ⟨rfl, hb9⟩
    have B9 := Lib.hid (below_via hb9 B8.out)
    have HR9 := Lib.hid (HR8.out.later hb9)
    have HF9 := Lib.hid (HF8.out.later hb9)
    clear hb9 HR8 HF8 B8
    obtain ⟨⟨xa, xb⟩, sa, sb⟩ := HF.out w9 B9.out
    go_wp2
    obtain ⟨cur, hcur, hcs⟩ : ∃ cur, w9.heap[ga]? = some (.cells cur 53 (0, 0)) ∧ T.length * 34 ≤ cur.size := by
      obtain ⟨g, c2, cs, e, _, ⟨_, hrow⟩, _⟩ := HLA5.out.later B9.out
      injection e with e1 _ e3
      injection e1 with e1
      injection e1 with e1
      subst e1
      rcases hrow with ⟨h, _⟩ | ⟨g2, cap, cur, e, _, hh, h1, _, h2, _⟩
      · cases h
      · injection e with e1 _ _
        injection e1 with e1
        injection e1 with e1
        subst e1
        exact ⟨cur, hh, by omega⟩
    have HCU := Lib.hid (And.intro hcur hcs)
    clear hcur hcs
    have hgb : w.heap.size ≤ ga ∧ ga ≠ b3 ∧ ga ≠ w.heap.size := by
      obtain ⟨g, c2, cs, e, _, hrow, _⟩ := HLA5.out
      injection e with e1 _ e3
      injection e1 with e1
      injection e1 with e1
      subst e1
      have h1 := (row_lt hrow ga rfl).2
      have h2 := C1.out.size
      obtain ⟨cs2, fr, hb⟩ := row_blk hrow rfl
      exact ⟨by omega, blk_ne hb A5.out (by decide), blk_ne hb ((D5.out.block _ (lt_of_block A1.out)).trans A1.out) (by decide)⟩
    have HGB := Lib.hid hgb
    clear hgb
    go_loopw [58] (fun iv wr => ∃ (i : Nat) (cur : Array Value), iv = .int .i64 i ∧ i ≤ T.length ∧ RowKit.Hid (wr.heap[ga]? = some (.cells cur 53 (0, 0)) ∧ T.length * 34 ≤ cur.size) ∧ RowKit.Hid (w9.grownBy wr (some ga))) (fun iv _ => T.length - (intOf iv).toNat)
    case atStart => exact ⟨0, cur, rfl, by omega, HCU, Lib.hid (only_refl _ _)⟩
    case round =>
      clear HCU xa xb sa sb
      obtain ⟨i, cur, rfl, hi, HCU, HGR⟩ := hrel
      have HBK := Lib.hid (fun b (hb : b < w9.heap.size) (hn : b ≠ ga) => HGR.out.block b hb (fun e => hn (by injection e)))
      have ha := (HBK.out _ (HF.out w9 B9.out).2.1 HGB.out.2.2.symm).trans ((B9.out.block _ (HF.out w5 (Below.refl _ _)).2.1).trans ((D5.out.block _ (lt_of_block A1.out)).trans A1.out))
      have hb := (HBK.out _ (HF.out w9 B9.out).2.2 HGB.out.2.1.symm).trans ((B9.out.block _ (lt_of_block A5.out)).trans A5.out)
      have xa := cell_of_one ha
      have xb := cell_of_one hb
      have sa := lt_of_block ha
      have sb := lt_of_block hb
      have HA := Lib.hid ha
      clear ha hb
      by_cases hlt : i < T.length
      · have hii : (i : Int) < (T.length : Int) := by omega
        obtain ⟨⟨v0, hv0⟩, hf0⟩ := blk_at HCU.out.1 (show i * 34 + 3 < cur.size by have := HCU.out.2; omega)
        have hzg := lt_of_block HCU.out.1
        have HC2 := Lib.hid (And.intro (set_blk HCU.out.1 (i * 34 + 3) (.slice none 0 0)) (show T.length * 34 ≤ (cur.setIfInBounds (i * 34 + 3) (.slice none 0 0)).size from by simpa using HCU.out.2))
        have HG2 := Lib.hid (only_setCell HGR.out (p := ⟨ga, i * 34 + 3, none⟩) (.inl rfl) (.slice none 0 0))
        go_wp2
        go_roundw
        case rel => exact ⟨i + 1, _, by go_num, by omega, HC2, HG2⟩
        case measure => simp [intOf] <;> omega
      obtain rfl : i = T.length := by omega
      obtain ⟨wa, rfl⟩ : ∃ wa : World, wa = wr := ⟨_, rfl⟩
      have HX := Lib.hid (show RouterAt w wa rb mb pv (parL T) 0 (fun _ => none) (fun _ => []) 0 ∧ RfAt w.heap.size wa gr qv (.slice none 0 0) (parL T) [] from by
        have hz : w.heap.size ≤ w5.heap.size := B5.out.size
        have hz9 : w.heap.size ≤ w9.heap.size := (below_via B9.out B5.out).size
        have hz6 := Z6.out
        obtain ⟨es, cl, hm⟩ := HR9.out.mp.block
        obtain ⟨cs2, hcu⟩ : ∃ cs2, w9.heap[ga]? = some (.cells cs2 53 (0, 0)) := by
          obtain ⟨g, c2, cs, e, _, hrow, _⟩ := HLA5.out.later B9.out
          injection e with e1 _ e3
          injection e1 with e1
          injection e1 with e1
          subst e1
          rcases hrow.2 with ⟨h, _⟩ | ⟨g2, cap, cur, e, _, hh, _⟩
          · cases h
          · injection e with e1 _ _
            injection e1 with e1
            injection e1 with e1
            subst e1
            exact ⟨cur, hh⟩
        have hk : KeepB w9 wa (fun t => t = 53) := KeepB.of (fun b => b = ga) (fun b hb _ => ⟨_, _, _, hb ▸ hcu, rfl⟩) (fun b hb hn => HBK.out b hb hn)
        have hbe : Below w.heap.size w wa := Below.grown (below_via B9.out B5.out) HGR.out hz9 (fun k hk => by injection hk with hk; exact hk ▸ HGB.out.1)
        exact ⟨⟨hbe, hk.blk HR9.out.ro (by decide), row_baseG (hk.row HR9.out.pa (by decide)) hz, HR9.out.mp.of_block (hk.mp hm), HR9.out.mm, fun k => ⟨rfl, .inl ⟨rfl, rfl⟩⟩, fun j k _ => .inl rfl, Nat.le_trans hz HR9.out.zr, Nat.le_trans hz HR9.out.zm, fun k => Nat.zero_le _⟩, ⟨hk.blk HF9.out.pl (by decide), row_baseG (hk.row HF9.out.pa (by decide)) (by omega), ⟨rfl, .inl ⟨rfl, rfl⟩⟩, by have := HF9.out.bg; omega⟩⟩)
      obtain ⟨W0, hW0⟩ : ∃ z, z = wa.alloc (.cells #[.pointer (some ⟨rb, 0, none⟩), .pointer (some ⟨gr, 0, none⟩), .slice none 0 0, .slice none 0 0, .slice none 0 0] 57) := ⟨_, rfl⟩
      have BW0 := Lib.hid (show Below wa.heap.size wa W0 from by rw [hW0]; exact below_al (Below.refl _ _) _)
      have WO0 := Lib.hid (show W0.heap[wa.heap.size]? = some (.cells #[.pointer (some ⟨rb, 0, none⟩), .pointer (some ⟨gr, 0, none⟩), .slice none 0 0, .slice none 0 0, .slice none 0 0] 57 (0, 0)) from by rw [hW0]; exact heap_alloc_new _ _)
      have HW0 := Lib.hid hW0
      clear hW0
      obtain ⟨x0, hx0⟩ : ∃ x0 : RtV, x0 = { wb := wa.heap.size, rb := rb, mb := mb, g := gr, pv := pv, qv := qv, tv := .slice none 0 0, dv := .slice none 0 0, cv := .slice none 0 0, uv := .slice none 0 0, m := 0, f := fun _ => none, ts := fun _ => [] } := ⟨_, rfl⟩
      have HA0 := Lib.hid (show RtAt w W0 x0 (parL T) [] [] [] [] [] from by
        rw [hx0]
        exact ⟨WO0.out, HX.out.1.later BW0.out, fun k => .nil, HX.out.2.later BW0.out, ⟨rfl, .inl ⟨rfl, rfl⟩⟩, ⟨rfl, .inl ⟨rfl, rfl⟩⟩, ⟨rfl, .inl ⟨rfl, rfl⟩⟩, .inl rfl, HX.out.1.be.size⟩)
      have hxw : x0.wb = wa.heap.size := by rw [hx0]
      have HNB := Lib.hid (show ¬ AllO x0 w.heap.size from fun e => by
        have hb := (BW0.out.block _ (lt_of_block HA.out)).trans HA.out
        rcases e with e | e | e | e | e
        · rcases HA0.out.ty _ e with ⟨es, cl, h⟩ | ⟨cs, t, fr, h, ht⟩
          · rw [h] at hb; cases hb
          · rcases ht with rfl | rfl | rfl | rfl <;> exact blk_ne h hb (by decide) rfl
        · exact row_ne_blk HA0.out.dr hb (by decide) e
        · exact row_ne_blk HA0.out.ur hb (by decide) e
        · exact blk_ne HA0.out.re.pl hb (by decide) e.symm
        · exact row_ne_blk HA0.out.re.own hb (by decide) e)
      have HA2 := Lib.hid (show W0.heap[w.heap.size]? = some (.cells #[.slice p T.length c] 24 (0, 0)) from (BW0.out.block _ (lt_of_block HA.out)).trans HA.out)
      have HXW := Lib.hid hxw
      clear hxw hx0 HCU HGR HBK HX HA xa xb sa sb HR9 HF9 B9 Z6 HF HLA5 HTA HT5 HGB A5 HB3 C5 D5
      go_upto_region 16 with (fail)
      rw [← HW0.out]
      clear HW0
      go_wp2
      go_loopw [73] (fun iv wr => ∃ (i : Nat) (dl : List Stp) (R : List (Int × Nat)) (cl : List (Nat × Int)), iv = .int .i64 i ∧ i ≤ L.length ∧ R.length ≤ 4096 ∧ dl.length ≤ i * 8194 ∧ cl.length ≤ i * 16777216 ∧ RowKit.Hid (Good dl R) ∧ RowKit.Hid (RtStep w W0 x0 (parL T) dl R R cl cl wr)) (fun iv _ => L.length - (intOf iv).toNat)
      case atStart => exact ⟨0, [], [], [], rfl, by omega, by simp, by simp, by simp, Lib.hid (fun y hy => by cases hy), Lib.hid (RtStep.refl HA0.out)⟩
      case round =>
        obtain ⟨i, dl, R, cl, rfl, hi, hR, hdl, hcl, HG, HST⟩ := hrel
        obtain ⟨wb, rfl⟩ : ∃ wb : World, wb = wr := ⟨_, rfl⟩
        obtain ⟨x1, e1, A1, o1⟩ := HST.out.at_
        have HE1 := Lib.hid e1
        rw [HXW.out] at e1
        have HA1 := Lib.hid A1
        have HO1 := Lib.hid o1
        clear A1 o1
        have HTB := Lib.hid (show wb.heap[w.heap.size]? = some (.cells #[.slice p T.length c] 24 (0, 0)) from (HST.out.fr _ (lt_of_block HA2.out) HNB.out).trans HA2.out)
        by_cases hlt : i < L.length
        · have hii : (i : Int) < (L.length : Int) := by omega
          obtain ⟨sb, so, rfl, hsz, hsc⟩ := HS.out (by omega)
          obtain ⟨s, hs⟩ : ∃ s, s = L.getD i zStp := ⟨_, rfl⟩
          have HSX := Lib.hid (fun (w' : World) (hh : Below w.heap.size w w' ∧ w'.heap[w.heap.size]? = wb.heap[w.heap.size]?) => show (w.heap.size < w'.heap.size ∧ sb < w'.heap.size ∧ w'.cell? ⟨w.heap.size, 0, none⟩ = some (.slice p T.length c) ∧ w'.cell? ⟨sb, so + i * 6, none⟩ = some (.int .i64 s.do_) ∧ w'.cell? ⟨sb, so + i * 6 + 1, none⟩ = some (.int .i64 s.n) ∧ w'.cell? ⟨sb, so + i * 6 + 2, none⟩ = some (.int .i64 s.more) ∧ w'.cell? ⟨sb, so + i * 6 + 3, none⟩ = some (.bool s.yes) ∧ w'.cell? ⟨sb, so + i * 6 + 4, none⟩ = some (.bool s.puts) ∧ w'.cell? ⟨sb, so + i * 6 + 5, none⟩ = some (.int .i32 s.e)) from by
            obtain ⟨h1, h2⟩ := hh
            replace h2 := h2.trans HTB.out
            have hq : ∀ j, j < 6 → w'.cell? ⟨sb, so + i * 6 + j, none⟩ = (stpC s)[j]? := fun j hj => by rw [(bcell h1).1 _ _ hsz, Nat.add_assoc, hsc i hlt j hj, ← hs]
            exact ⟨lt_of_block h2, by have := h1.size; omega, cell_of_one h2, hq 0 (by omega), hq 1 (by omega), hq 2 (by omega), hq 3 (by omega), hq 4 (by omega), hq 5 (by omega)⟩)
          clear hsc hs
          have HSD := Lib.hid (show Below w.heap.size w wb.drew ∧ wb.drew.heap[w.heap.size]? = wb.heap[w.heap.size]? from ⟨HA1.out.ro.be.drew, rfl⟩)
          have zxw := lt_of_block HA1.out.wo
          rw [e1] at zxw
          go_upto_region 19 with (fail)
          refine wp_region_noPanic ?_
          refine wp_region_Z (fun w' => Below w.heap.size w w' ∧ w'.heap[w.heap.size]? = wb.heap[w.heap.size]?) 9 (by kernel_rfl) ?_
          change wpAnyZ _ _ _ _ _ _ 10 (Array.replicate 10 false) _ _
          refine wpAnyZ_take [8] (i := 0) (v := ?va0) (by simp only [List.getElem?_toArray, List.getElem?_cons_succ, List.getElem?_cons_zero]; rfl) (by decide +kernel) (fun _ _ _ h => h) (by rfl) ?ta0 ?sa0 ?_
          case ta0 => (intro w' h; clear h; go_simp; try rfl)
          case sa0 => exact HSD.out
          (try simp only [Act.put, List.setIfInBounds_toArray, List.set_cons_zero, List.set_cons_succ])
          refine wpAnyZ_take [8, 4, 3] (i := 1) (v := ?va1) (by simp only [List.getElem?_toArray, List.getElem?_cons_succ, List.getElem?_cons_zero]; rfl) (by decide +kernel) (fun _ _ _ h => h) (by rfl) ?ta1 ?sa1 ?_
          case ta1 => (intro w' h; clear h; go_simp; try rfl)
          case sa1 => exact HSD.out
          (try simp only [Act.put, List.setIfInBounds_toArray, List.set_cons_zero, List.set_cons_succ])
          refine wpAnyZ_take [8, 4, 3] (i := 2) (v := ?va2) (by simp only [List.getElem?_toArray, List.getElem?_cons_succ, List.getElem?_cons_zero]; rfl) (by decide +kernel) (fun _ _ _ h => h) (by rfl) ?ta2 ?sa2 ?_
          case ta2 => (intro w' h; clear h; go_simp; try rfl)
          case sa2 => exact HSD.out
          (try simp only [Act.put, List.setIfInBounds_toArray, List.set_cons_zero, List.set_cons_succ])
          refine wpAnyZ_take [8, 4] (i := 3) (v := ?va3) (by simp only [List.getElem?_toArray, List.getElem?_cons_succ, List.getElem?_cons_zero]; rfl) (by decide +kernel) (fun _ _ _ h => h) (by rfl) ?ta3 ?sa3 ?_
          case ta3 => (intro w' h; have FK := HSX.out w' h; clear h; go_split_ands; go_simp; try rfl)
          case sa3 => exact HSD.out
          (try simp only [Act.put, List.setIfInBounds_toArray, List.set_cons_zero, List.set_cons_succ])
          refine wpAnyZ_take [8] (i := 4) (v := ?va4) (by simp only [List.getElem?_toArray, List.getElem?_cons_succ, List.getElem?_cons_zero]; rfl) (by decide +kernel) (fun _ _ _ h => h) (by rfl) ?ta4 ?sa4 ?_
          case ta4 => (intro w' h; have FK := HSX.out w' h; clear h; go_split_ands; go_simp; try rfl)
          case sa4 => exact HSD.out
          (try simp only [Act.put, List.setIfInBounds_toArray, List.set_cons_zero, List.set_cons_succ])
          refine wpAnyZ_take [8, 7, 6] (i := 5) (v := ?va5) (by simp only [List.getElem?_toArray, List.getElem?_cons_succ, List.getElem?_cons_zero]; rfl) (by decide +kernel) (fun _ _ _ h => h) (by rfl) ?ta5 ?sa5 ?_
          case ta5 => (intro w' h; clear h; go_simp; try rfl)
          case sa5 => exact HSD.out
          (try simp only [Act.put, List.setIfInBounds_toArray, List.set_cons_zero, List.set_cons_succ])
          refine wpAnyZ_take [8, 7] (i := 6) (v := ?va6) (by simp only [List.getElem?_toArray, List.getElem?_cons_succ, List.getElem?_cons_zero]; rfl) (by decide +kernel) (fun _ _ _ h => h) (by rfl) ?ta6 ?sa6 ?_
          case ta6 => (intro w' h; have FK := HSX.out w' h; clear h; go_split_ands; go_simp; try rfl)
          case sa6 => exact HSD.out
          (try simp only [Act.put, List.setIfInBounds_toArray, List.set_cons_zero, List.set_cons_succ])
          refine wpAnyZ_take [8] (i := 7) (v := ?va7) (by simp only [List.getElem?_toArray, List.getElem?_cons_succ, List.getElem?_cons_zero]; rfl) (by decide +kernel) (fun _ _ _ h => h) (by rfl) ?ta7 ?sa7 ?_
          case ta7 => (intro w' h; clear h; go_simp; try rfl)
          case sa7 => exact HSD.out
          (try simp only [Act.put, List.setIfInBounds_toArray, List.set_cons_zero, List.set_cons_succ])
          have HAD := Lib.hid (HA1.out.later (W' := wb.drew) (Below.drew (Below.refl _ _)))
          have HSP := Lib.hid (show Calls Try.prog 23 #[.pointer (some ⟨wa.heap.size, 0, none⟩), .agg #[.int .i64 s.do_, .int .i64 s.n, .int .i64 s.more, .bool s.yes, .bool s.puts, .int .i32 s.e], .int .i64 T.length] wb.drew (fun e W' => e = .returned (.bool true) ∧ StepOk w wb.drew x1 (parL T) dl R cl W') from by
            have hq := step_any w wb.drew x1 (parL T) dl R cl s HAD.out HG.out (by omega) HUP.out hR (by omega) (by omega)
            rw [hPl, e1] at hq
            exact hq)
          refine wpAnyZ_one (i := 8) (by decide +kernel) ?_
          refine wpOpK_call (by simp only [List.getElem?_toArray, List.getElem?_cons_succ, List.getElem?_cons_zero]; rfl) (by rfl) (by go_simp; first | exact ⟨rfl, rfl⟩ | rfl) ?_
          refine (HSP.out).mono ?_
          rintro e w10 ⟨rfl, hok⟩
          obtain ⟨dl2, R2, cl2, hst2, hg2, hr2, hd2, hc2⟩ := hok
          have HS2 := Lib.hid (show RtStep w W0 x0 (parL T) dl2 R2 R2 cl2 cl2 w10 from RtStep.via (W1 := wb.drew) HE1.out HO1.out HST.out.sz HST.out.fr hst2)
          have HG2 := Lib.hid hg2
          have hS10 : Below w.heap.size w w10 ∧ w10.heap[w.heap.size]? = wb.heap[w.heap.size]? := by
            refine ⟨?_, ((HS2.out.fr _ (lt_of_block HA2.out) HNB.out).trans HA2.out).trans HTB.out.symm⟩
            obtain ⟨x2, _, A2, _⟩ := HS2.out.at_
            exact A2.ro.be
          have HS10 := Lib.hid hS10
          clear hst2 hg2 hS10
          refine ⟨_, rfl, .inr HS10.out, ?_⟩
          (try simp only [Act.put, List.setIfInBounds_toArray, List.set_cons_zero, List.set_cons_succ])
          refine wpAnyZ_one (i := 9) (by decide +kernel) ?_
          refine wpOpK_value (v := .bool false) (w' := w10) (by simp only [List.getElem?_toArray, List.getElem?_cons_succ, List.getElem?_cons_zero]; rfl) (by rfl) ?ma9 ⟨.inl rfl, ?_⟩
          case ma9 => (go_simp; try rfl)
          (try simp only [Act.put, List.setIfInBounds_toArray, List.set_cons_zero, List.set_cons_succ])
          refine wpAnyZ_done (by kernel_rfl) (NoPanic.normal ?_) _
          clear HSX HSD HAD HSP HA1 HO1 HST HG
          go_wp2
          go_roundw
          case rel => exact ⟨i + 1, dl2, R2, cl2, by go_num, by omega, hr2, by omega, by omega, HG2, HS2⟩
          case measure => simp [intOf] <;> omega
        obtain ⟨pc, kc, hcv⟩ := row_slice HA1.out.cr
        obtain ⟨pu, ku, huv⟩ := row_slice HA1.out.ur
        have HWX := Lib.hid (show wb.heap[wa.heap.size]? = some (.cells #[.pointer (some ⟨x1.rb, 0, none⟩), .pointer (some ⟨x1.g, 0, none⟩), x1.dv, .slice pc cl.length kc, .slice pu cl.length ku] 57 (0, 0)) from by have := HA1.out.wo; rwa [hcv, huv, e1] at this)
        have HCC := Lib.hid (fun (w' : World) (hh : Below wb.heap.size wb w') => show (wa.heap.size < w'.heap.size ∧ w'.cell? ⟨wa.heap.size, 3, none⟩ = some (.slice pc cl.length kc) ∧ w'.cell? ⟨wa.heap.size, 4, none⟩ = some (.slice pu cl.length ku)) from by
          have h1 := (hh.block _ (lt_of_block HWX.out)).trans HWX.out
          refine ⟨lt_of_block h1, ?_, ?_⟩ <;> (rw [cell_of_row _ _ _ _ _ _ h1]; rfl))
        have HBE := Lib.hid HA1.out.ro.be
        have HCR := Lib.hid (show wb.ownsRow w.heap.size 64 7 (.slice pc cl.length kc) cl.length (tknsC cl) from hcv ▸ HA1.out.cr)
        have HUR := Lib.hid (show wb.ownsRow w.heap.size 64 7 (.slice pu cl.length ku) cl.length (tknsC cl) from huv ▸ HA1.out.ur)
        clear hcv huv HST HA1 HO1 HTB HE1 e1 HG
        obtain ⟨v0, v3, v4⟩ := HCC.out wb (Below.refl _ _)
        have hncl : (cl.length == cl.length) = true := by simp
        go_upto_region 22 with (fail)
        go_quiet (fail)
        rename Nat => nq
        obtain ⟨wc, hwc⟩ : ∃ z : World, z = wb.drewN nq := ⟨_, rfl⟩
        have BWC := Lib.hid (show Below wb.heap.size wb wc from by rw [hwc]; exact below_drewN (Below.refl _ _) nq)
        rw [← hwc]
        clear hwc v0 v3 v4
        obtain ⟨v0, v3, v4⟩ := HCC.out wc BWC.out
        go_wp2
        go_loopw [103] (fun iv wr => ∃ (i : Nat), iv = .int .i64 i ∧ i ≤ cl.length ∧ RowKit.Hid (Below wb.heap.size wb wr)) (fun iv _ => cl.length - (intOf iv).toNat)
        case atStart => exact ⟨0, rfl, by omega, BWC⟩
        case round =>
          clear v0 v3 v4
          obtain ⟨i, rfl, hi, HB⟩ := hrel
          obtain ⟨v0, v3, v4⟩ := HCC.out wr HB.out
          by_cases hlt : i < cl.length
          · have hii : (i : Int) < (cl.length : Int) := by omega
            obtain ⟨cb, rfl, hcc, hcz⟩ : ∃ b, pc = some ⟨b, 0, none⟩ ∧ (∀ j v, (tknsC cl)[j]? = some v → wr.cell? ⟨b, j, none⟩ = some v) ∧ b < wr.heap.size := by
              have hr := row_later HCR.out HB.out
              rcases row_form hr with ⟨_, h0, _⟩ | ⟨b, c, e, _, _, h3, _⟩
              · omega
              · cases e
                exact ⟨b, rfl, fun j v hv => by have := row_cells hr j v hv; rwa [Nat.zero_add] at this, h3⟩
            obtain ⟨ub, rfl, huc, huz⟩ : ∃ b, pu = some ⟨b, 0, none⟩ ∧ (∀ j v, (tknsC cl)[j]? = some v → wr.cell? ⟨b, j, none⟩ = some v) ∧ b < wr.heap.size := by
              have hr := row_later HUR.out HB.out
              rcases row_form hr with ⟨_, h0, _⟩ | ⟨b, c, e, _, _, h3, _⟩
              · omega
              · cases e
                exact ⟨b, rfl, fun j v hv => by have := row_cells hr j v hv; rwa [Nat.zero_add] at this, h3⟩
            have hg := tknsC_get cl i hlt
            obtain ⟨y, hy⟩ : ∃ y, y = cl.getD i (0, 0) := ⟨_, rfl⟩
            rw [← hy] at hg
            obtain ⟨yn, yc⟩ := y
            clear hy
            have g0 := hg 0 _ rfl
            have g1 := hg 1 _ rfl
            have g2 := hg 2 _ rfl
            have g3 := hg 3 _ rfl
            have g4 := hg 4 _ rfl
            have g5 := hg 5 _ rfl
            have g6 := hg 6 _ rfl
            have c0 : wr.cell? ⟨cb, i * 7, none⟩ = some (.int .i64 yn) := hcc _ _ g0
            have c1 := hcc _ _ g1
            have c2 := hcc _ _ g2
            have c3 := hcc _ _ g3
            have c4 := hcc _ _ g4
            have c5 := hcc _ _ g5
            have c6 := hcc _ _ g6
            have d0 : wr.cell? ⟨ub, i * 7, none⟩ = some (.int .i64 yn) := huc _ _ g0
            have d1 := huc _ _ g1
            have d2 := huc _ _ g2
            have d3 := huc _ _ g3
            have d4 := huc _ _ g4
            have d5 := huc _ _ g5
            have d6 := huc _ _ g6
            clear hcc huc hg g0 g1 g2 g3 g4 g5 g6
            have hnq := neqTaken yn yc
            go_upto_region 27 with (fail)
            go_quiet (fail)
            rename Nat => nq
            obtain ⟨wd, hwd⟩ : ∃ z : World, z = wr.drewN nq := ⟨_, rfl⟩
            have BWD := Lib.hid (show Below wb.heap.size wb wd from by rw [hwd]; exact below_drewN HB.out nq)
            rw [← hwd]
            clear hwd c0 c1 c2 c3 c4 c5 c6 d0 d1 d2 d3 d4 d5 d6
            go_wp2
            go_roundw
            case rel => exact ⟨i + 1, by go_num, by omega, BWD⟩
            case measure => simp [intOf] <;> omega
          · obtain rfl : i = cl.length := by omega
            go_wp2
            exact HPO.out _ (below_via2_ HBE.out HB.out)
end Go.Proofs.Ytihjefncjkdnpaa
