/- Reading trees' bytes: the contract of the reference's Decode. -/
import Derived.Test.YtcihihncgpddfaaRnA
import Derived.Test.YtcihihncgpddfaaDecB
import Derived.Test.YtcihihncgpddfaaTrrF
import Derived.StillTailTactics
import Derived.Deep.DeepCutAuto
namespace Go.Proofs.Ytcihihncgpddfaa
open Go.RowKit Go.Deep
set_option linter.unusedVariables false
set_option linter.unusedSimpArgs false

/-- a tree of the call's own, one node more; something else may have changed beside -/
theorem OwnT.push2 {base : Nat} {W W1 WA W2 : World} {tv v' kv cv : Value} {l : List Nd} {y : Nd} {kvs cvs : Nat → Value} {m : Nat} {xs : List Value} (h : OwnT base W tv l kvs cvs) (h1 : OwnT base W1 tv l kvs cvs) (hbA : Below W1.heap.size W1 WA) (hz : base ≤ W.heap.size)
    (kr : W1.ownsRow W.heap.size 3 1 kv y.kids.length (y.kids.map (Value.int .i64))) (cr : W1.ownsRow W.heap.size 57 5 cv y.cols.length (itsV y.cols)) (own : W2.ownsRow base 64 34 v' m xs) (hm : m = l.length + 1) (hxs : xs = ndsV l kvs cvs ++ ndV y kv cv) (gr : WA.grownBy W2 tv.ownBlock) : OwnT base W2 v' (l ++ [y]) (upd kvs l.length kv) (upd cvs l.length cv) := by
  have hA := h1.later hbA
  have lrow : ∀ {b : Nat} {t : TypeId} {k n : Nat} {v : Value} {xs : List Value}, W1.ownsRow b t k v n xs → t ≠ 64 → W2.ownsRow b t k v n xs := fun hr ht => (row_later hr hbA).kept gr (row_ne (row_later hr hbA) hA.row ht)
  have hlen : (l ++ [y]).length = l.length + 1 := by simp
  refine ⟨?_, fun i hi => ?_, fun i hi => ?_, fun i j hi hj hij b e => ?_, fun i j hi hj hij b e => ?_⟩
  · rw [hlen, ndsV_snoc]
    subst hm hxs
    exact own
  · rw [hlen] at hi
    by_cases hlt : i < l.length
    · rw [getD_snoc hlt, upd_other (by omega)]
      exact lrow (h1.kr i hlt) (by decide)
    · obtain rfl : i = l.length := by omega
      rw [getD_last, upd_same]
      exact row_base (lrow kr (by decide)) hz
  · rw [hlen] at hi
    by_cases hlt : i < l.length
    · rw [getD_snoc hlt, upd_other (by omega)]
      exact lrow (h1.cr i hlt) (by decide)
    · obtain rfl : i = l.length := by omega
      rw [getD_last, upd_same]
      exact row_base (lrow cr (by decide)) hz
  · rw [hlen] at hi hj
    by_cases h2 : i < l.length
    · rw [upd_other (by omega)] at e
      by_cases h3 : j < l.length
      · rw [upd_other (by omega)]
        exact h.kd i j h2 h3 hij b e
      · obtain rfl : j = l.length := by omega
        rw [upd_same]
        intro e'
        have := (row_lt (h.kr i h2) b e).1
        have := (row_lt kr b e').2
        omega
    · obtain rfl : i = l.length := by omega
      rw [upd_same] at e
      rw [upd_other (by omega)]
      intro e'
      have := (row_lt (h.kr j (by omega)) b e').1
      have := (row_lt kr b e).2
      omega
  · rw [hlen] at hi hj
    by_cases h2 : i < l.length
    · rw [upd_other (by omega)] at e
      by_cases h3 : j < l.length
      · rw [upd_other (by omega)]
        exact h.cd i j h2 h3 hij b e
      · obtain rfl : j = l.length := by omega
        rw [upd_same]
        intro e'
        have := (row_lt (h.cr i h2) b e).1
        have := (row_lt cr b e').2
        omega
    · obtain rfl : i = l.length := by omega
      rw [upd_same] at e
      rw [upd_other (by omega)]
      intro e'
      have := (row_lt (h.cr j (by omega)) b e').1
      have := (row_lt cr b e).2
      omega
/-- what the loop over the nodes leaves -/
structure DecR (ty : TypeId) (w0 : World) (rb : Nat) (sv : Value) (B : List Int) (r0 tb : Nat) (s : Rs) (l : List Nd) (tv : Value) (kvs cvs : Nat → Value) (W : World) : Prop where
  rd : RdAt ty w0 W rb sv B s
  own : OwnT w0.heap.size W tv l kvs cvs
  box : W.heap[tb]? = some (.cells #[tv] 24 (0, 0))
  res : W.heap[r0]? = some (.cells #[.slice none 0 0] 24 (0, 0))
  zt : w0.heap.size ≤ tb
  ne : r0 ≠ tb
section
variable {ty : TypeId} {w0 W W1 WA W2 : World} {rb r0 tb : Nat} {sv tv kv cv : Value} {B : List Int} {s s1 : Rs} {l : List Nd} {kvs cvs : Nat → Value} {y : Nd}
theorem DecR.later (h : DecR ty w0 rb sv B r0 tb s l tv kvs cvs W) (hb : Below W.heap.size W W1) : DecR ty w0 rb sv B r0 tb s l tv kvs cvs W1 :=
  ⟨h.rd.later hb, h.own.later hb, (hb.block _ (lt_of_block h.box)).trans h.box, (hb.block _ (lt_of_block h.res)).trans h.res, h.zt, h.ne⟩
theorem DecR.got (hty : ty ≠ 24) (hyo : TyOk ty) (h : DecR ty w0 rb sv B r0 tb s l tv kvs cvs W) (g : NdGot ty w0 W rb sv B s1 y kv cv W1) : DecR ty w0 rb sv B r0 tb s1 l tv kvs cvs W1 := by
  have hrb : ∀ {b : Nat} {cur : Array Value} {t : TypeId} {fr : Nat × Nat}, W.heap[b]? = some (.cells cur t fr) → ty ≠ t → b ≠ rb := fun hb hne e => by
    rw [e, h.rd.blk] at hb
    injection hb with hb
    injection hb with _ h2 _
    exact hne h2
  refine ⟨g.rd, h.own.kept fun b e => g.fr b (h.own.has_lt e).1 (fun e' => h.own.not_has h.rd.blk (Ne.symm hyo.n) (Ne.symm hyo.i) (Ne.symm hyo.t) (e' ▸ e)), ?_, ?_, h.zt, h.ne⟩
  · exact (g.fr tb (lt_of_block h.box) (hrb h.box hty)).trans h.box
  · exact (g.fr r0 (lt_of_block h.res) (hrb h.res hty)).trans h.res
theorem DecR.push (hty : ty ≠ 24) (hyo : TyOk ty) (h : DecR ty w0 rb sv B r0 tb s l tv kvs cvs W) (g : NdGot ty w0 W rb sv B s1 y kv cv W1)
    (hb : Below W1.heap.size W1 WA) {v' : Value} {m : Nat} {xs : List Value} (own : W2.ownsRow w0.heap.size 64 34 v' m xs) (hm : m = l.length + 1) (hxs : xs = ndsV l kvs cvs ++ ndV y kv cv) (gr : WA.grownBy W2 tv.ownBlock) :
    W2.heap[tb]? = some (.cells #[tv] 24 (0, 0)) ∧ DecR ty w0 rb sv B r0 tb s1 (l ++ [y]) v' (upd kvs l.length kv) (upd cvs l.length cv) (W2.setCell ⟨tb, 0, none⟩ v') := by
  have h1 := h.got hty hyo g
  have hA := h1.later hb
  have zA := hb.size
  have hz : w0.heap.size ≤ W.heap.size := by have := h.rd.zb; have := h.rd.lt; omega
  have hz0 : w0.heap.size ≤ WA.heap.size := by have := g.sz; omega
  have f1 : ∀ {b : Nat} {cur : Array Value} {t : TypeId} {fr : Nat × Nat}, WA.heap[b]? = some (.cells cur t fr) → t ≠ 64 → W2.heap[b]? = some (.cells cur t fr) := fun {b cur t fr} hb' ht => (gr.block b (lt_of_block hb') (fun e => row_blk_ne hA.own.row hb' (Ne.symm ht) e.symm)).trans hb'
  have hbox := f1 hA.box (by decide)
  have P := OwnT.push2 h.own h1.own hb hz g.kr g.cr own hm hxs gr
  have ntb : rb ≠ tb := fun e => by
    have := h1.box
    rw [← e, h1.rd.blk] at this
    injection this with this
    injection this with _ h2 _
    exact hty h2
  refine ⟨hbox, ⟨(blk_setCell_other _ _ _ _ (by simpa using ntb)).trans (f1 hA.rd.blk hyo.n), h.rd.zb, ?_, h.rd.src, h1.rd.at_, h.rd.len, h.rd.byte⟩, P.set hbox (by decide) (by decide) (by decide) 0 v', one_set hbox, (blk_setCell_other _ _ _ _ (by simpa using h.ne)).trans (f1 hA.res (by decide)), h.zt, h.ne⟩
  exact (Below.grown hA.rd.be gr hz0 (fun k hk => (row_lt hA.own.row k hk).2)).setCell (p := ⟨tb, 0, none⟩) h.zt v'
end
section
variable {P : Program} {ops : Array Oper} {Q : Exit → Act → World → Prop}
theorem wpOpK_build {i : Nat} {o : Oper} {a : Act} {w : World} {K : Act → World → Prop} (h0 : ops[i]? = some o) (hgd : o.guard = none) (t e : TypeId) (n : Nat) (parts : Array (Nat × Operand)) (ho : o.op = .buildSlice t n parts)
    (ti : TypeInfo) (z : Value) (size : Nat) (ht : P.underlying t = some (.slice e)) (hi : P.info? e = some ti) (hz : ti.zero = some z) (hsize : ti.size = size) (hsz : 0 < size) (L : List (List Value)) (hn : n = L.length) (hp : (parts.toList.map fun p => (p.1, a.eval p.2)) = (L.zipIdx 0).map fun p => (p.2, Value.agg p.1.toArray)) (hL : ∀ a ∈ L, a.length = size) (hm : L.length * size ≤ 16777216)
    (h : K (a.put o.dst (.slice (some ⟨w.heap.size, 0, none⟩) n n)) (w.alloc (.cells L.flatten.toArray e))) : wpOp P ops Q i K a w := by
  have hw : Region.wanted o (yielded ops a.tmps) = true := by simp [Region.wanted, hgd]
  unfold wpOp
  simp only [h0, hw, if_true]
  refine .inl ?_
  subst hn
  have hr := run_buildSlice_all (P := P) w t e ti z size ht hi hz hsize hsz L hL hm
  have hq : ((L.zipIdx 0).map fun p => (p.2, Value.agg p.1.toArray)).toArray = parts.map fun p => (p.1, a.eval p.2) := by rw [← hp, ← Array.toList_map, Array.toArray_toList]
  rw [hq] at hr
  unfold Oper.wp execOp
  simp only [ho, hr, Sem.run_bind, Sem.run_pure, Result.andThen_ok]
  exact h
end
theorem row_sl3 {w : World} {base : Nat} {t : TypeId} {k n : Nat} {v : Value} {xs : List Value} (h : w.ownsRow base t k v n xs) : ∃ p c, v = .slice p n c := by
  rcases row_form h with ⟨rfl, rfl, _⟩ | ⟨g, c, rfl, _⟩
  · exact ⟨_, _, rfl⟩
  · exact ⟨_, _, rfl⟩
theorem tyRr2 : 93 ≠ 24 := by decide
set_option maxRecDepth 100000 in
set_option maxHeartbeats 16000000 in
theorem ref_Decode_any (sv : Value) (B : List Int) (w : World) (hB : BytesAt w sv B) (hby : Byte8 B) : Calls Try.prog 21 #[sv] w (RetDec B w) := by
  obtain ⟨p, c, rfl, hc1, hc2, -⟩ := id hB
  by_cases hbig : 1048576 < B.length
  · have E := Lib.hid (decT_long hbig)
    have hbi : (1048576 : Int) < (B.length : Int) := by omega
    clear hB hbig
    go_enter Try.func21, Try.ntmps21
    go_wp2
    refine bodyPost_ret (v := .tuple #[.agg #[.slice none 0 0], .int .i64 3, .int .i64 0]) (by simp [results, Try.results21, go_sem]) rfl ?_
    exact ret_dcd_nil E.out (by go_grown)
  · have hl : B.length ≤ 1048576 := by omega
    have hbi : ¬ (1048576 : Int) < (B.length : Int) := by omega
    have HB := Lib.hid hB
    have HBY := Lib.hid hby
    clear hB hbig hby
    go_enter Try.func21, Try.ntmps21
    go_wp2
    obtain ⟨W1, hW1⟩ : ∃ x, x = ((w.alloc (.cells #[.slice none 0 0] 24)).alloc (.cells #[.slice p B.length c, .int .i64 0, .int .i64 0, .int .i64 0] 93)).alloc (.cells #[.int .i64 70, .int .i64 84, .int .i64 1] 3) := ⟨_, rfl⟩
    have BW1 : Below w.heap.size w W1 := by rw [hW1]; go_grown
    have b0 : W1.heap[w.heap.size]? = some (.cells #[.slice none 0 0] 24 (0, 0)) := by rw [hW1, heap_alloc_old _ _ (by simp; omega), heap_alloc_old _ _ (by simp)]; exact heap_alloc_new _ _
    have b1 : W1.heap[w.heap.size + 1]? = some (.cells #[.slice p B.length c, .int .i64 0, .int .i64 0, .int .i64 0] 93 (0, 0)) := by
      rw [hW1, heap_alloc_old _ _ (by simp)]
      have := heap_alloc_new (w.alloc (.cells #[.slice none 0 0] 24)) (.cells #[.slice p B.length c, .int .i64 0, .int .i64 0, .int .i64 0] 93)
      simpa using this
    have b2 : W1.heap[w.heap.size + 1 + 1]? = some (.cells #[.int .i64 70, .int .i64 84, .int .i64 1] 3 (0, 0)) := by
      rw [hW1]
      have := heap_alloc_new ((w.alloc (.cells #[.slice none 0 0] 24)).alloc (.cells #[.slice p B.length c, .int .i64 0, .int .i64 0, .int .i64 0] 93)) (.cells #[.int .i64 70, .int .i64 84, .int .i64 1] 3)
      simpa using this
    rw [← hW1]
    obtain ⟨rb, hrb⟩ : ∃ x, x = w.heap.size + 1 := ⟨_, rfl⟩
    rw [← hrb] at b1 b2
    simp only [← hrb]
    have z0 : w.heap.size < rb := by omega
    have hne0 : w.heap.size ≠ rb := by omega
    have hne2 : rb + 1 ≠ rb := by omega
    have R1 := Lib.hid (show RdAt 93 w W1 rb (.slice p B.length c) B (hdS B 0) from ⟨b1, by omega, BW1, HB.out, Nat.zero_le _, hl, HBY.out⟩)
    have D0 := Lib.hid b0
    have D2 := Lib.hid b2
    clear hW1 BW1 b0 b1 b2 hrb
    go_loopw [7] (fun iv wr => ∃ (i : Nat) (s : Rs), iv = .int .i64 i ∧ i ≤ 3 ∧ RowKit.Hid (RdS 93 w W1 rb (.slice p B.length c) B s wr) ∧ RowKit.Hid (s = hdS B i)) (fun iv _ => 3 - (intOf iv).toNat)
    case atStart => exact ⟨0, _, rfl, by omega, Lib.hid (RdS.refl R1.out), Lib.hid rfl⟩
    case round =>
      obtain ⟨i, s, rfl, hi, HS, HE⟩ := hrel
      have d2 := (HS.out.fr (rb + 1) (lt_of_block D2.out) hne2).trans D2.out
      have zhb := lt_of_block d2
      obtain rfl | rfl | rfl | rfl : i = 0 ∨ i = 1 ∨ i = 2 ∨ i = 3 := by omega
      · have HC := Lib.hid (rr_octet w wr rb _ B s 255 HS.out.at_)
        have hrg := octR_u 255 HBY.out s (by decide)
        obtain ⟨r, hr⟩ : ∃ r, r = octR 255 B s := ⟨_, rfl⟩
        have HW := Lib.hid (And.intro (want_yes (i := 0) (c := 70) (B := B) (s := s)) (want_no (i := 0) (c := 70) (B := B) (s := s)))
        rw [← hr] at HC HW hrg
        obtain ⟨ch, s2⟩ := r
        simp only at HW hrg
        obtain ⟨hg0, hg1, _⟩ := hrg
        have HE2 := Lib.hid (show hdS B 1 = (wantR 0 70 B s).2 by rw [HE.out]; rfl)
        have D2w := Lib.hid d2
        clear hr d2 zhb
        go_wp2_with fail
        refine HC.out.mono ?_
        rintro e w2 ⟨rfl, hs⟩
        have HS2 := Lib.hid (HS.out.trans hs)
        have d2 := (hs.fr (rb + 1) (lt_of_block D2w.out) hne2).trans D2w.out
        have zhb := lt_of_block d2
        have hc : w2.cell? ⟨rb + 1, 0, none⟩ = some (.int .i64 70) := by rw [cell_of_row _ _ _ _ _ _ d2]; rfl
        have k2 : w2.cell? ⟨rb, 2, none⟩ = some (.int .i64 s2.code) := hs.at_.cells.2.2.1
        have k3 := hs.at_.lt
        have HF := Lib.hid (rr_fail w w2 rb _ B s2 100 0 hs.at_)
        clear hs HC HS d2
        simp only at HS2 k2 ⊢
        by_cases hcd : s2.code = 0
        · have hcb : (s2.code == 0) = true := by rw [beq_iff_eq]; exact hcd
          clear hcd
          by_cases hch : ch = 70
          · have hcq : (ch == 70) = true := by rw [beq_iff_eq]; exact hch
            have EQ := Lib.hid (HW.out.1 hch)
            clear HW HF
            go_wp2
            go_roundw
            case rel => exact ⟨1, s2, by first | rfl | go_num, by omega, HS2, Lib.hid (by rw [HE2.out, EQ.out] <;> rfl)⟩
            case measure => simp [intOf]
          · have hcq : (ch == 70) = false := beq_eq_false_iff_ne.2 hch
            have EQ := Lib.hid (HW.out.2 hch)
            clear HW
            go_wp2_with fail
            refine HF.out.mono ?_
            rintro e w3 ⟨rfl, hs⟩
            have HS3 := Lib.hid (HS2.out.trans hs)
            clear hs HF HS2 hc k2 k3
            go_wp2
            go_roundw
            case rel => exact ⟨1, _, by first | rfl | go_num, by omega, HS3, Lib.hid (by rw [HE2.out, EQ.out] <;> rfl)⟩
            case measure => simp [intOf]
        · have hcb : (s2.code == 0) = false := beq_eq_false_iff_ne.2 hcd
          have EQ := Lib.hid (show (wantR 0 70 B s).2 = s2 by
            by_cases hch : ch = 70
            · exact HW.out.1 hch
            · rw [HW.out.2 hch]; exact failS_idle _ _ _ hcd)
          clear HW HF hcd
          go_wp2
          go_roundw
          case rel => exact ⟨1, s2, by first | rfl | go_num, by omega, HS2, Lib.hid (by rw [HE2.out, EQ.out] <;> rfl)⟩
          case measure => simp [intOf]
      · have HC := Lib.hid (rr_octet w wr rb _ B s 255 HS.out.at_)
        have hrg := octR_u 255 HBY.out s (by decide)
        obtain ⟨r, hr⟩ : ∃ r, r = octR 255 B s := ⟨_, rfl⟩
        have HW := Lib.hid (And.intro (want_yes (i := 1) (c := 84) (B := B) (s := s)) (want_no (i := 1) (c := 84) (B := B) (s := s)))
        rw [← hr] at HC HW hrg
        obtain ⟨ch, s2⟩ := r
        simp only at HW hrg
        obtain ⟨hg0, hg1, _⟩ := hrg
        have HE2 := Lib.hid (show hdS B 2 = (wantR 1 84 B s).2 by rw [HE.out]; rfl)
        have D2w := Lib.hid d2
        clear hr d2 zhb
        go_wp2_with fail
        refine HC.out.mono ?_
        rintro e w2 ⟨rfl, hs⟩
        have HS2 := Lib.hid (HS.out.trans hs)
        have d2 := (hs.fr (rb + 1) (lt_of_block D2w.out) hne2).trans D2w.out
        have zhb := lt_of_block d2
        have hc : w2.cell? ⟨rb + 1, 1, none⟩ = some (.int .i64 84) := by rw [cell_of_row _ _ _ _ _ _ d2]; rfl
        have k2 : w2.cell? ⟨rb, 2, none⟩ = some (.int .i64 s2.code) := hs.at_.cells.2.2.1
        have k3 := hs.at_.lt
        have HF := Lib.hid (rr_fail w w2 rb _ B s2 100 1 hs.at_)
        clear hs HC HS d2
        simp only at HS2 k2 ⊢
        by_cases hcd : s2.code = 0
        · have hcb : (s2.code == 0) = true := by rw [beq_iff_eq]; exact hcd
          clear hcd
          by_cases hch : ch = 84
          · have hcq : (ch == 84) = true := by rw [beq_iff_eq]; exact hch
            have EQ := Lib.hid (HW.out.1 hch)
            clear HW HF
            go_wp2
            go_roundw
            case rel => exact ⟨2, s2, by first | rfl | go_num, by omega, HS2, Lib.hid (by rw [HE2.out, EQ.out] <;> rfl)⟩
            case measure => simp [intOf]
          · have hcq : (ch == 84) = false := beq_eq_false_iff_ne.2 hch
            have EQ := Lib.hid (HW.out.2 hch)
            clear HW
            go_wp2_with fail
            refine HF.out.mono ?_
            rintro e w3 ⟨rfl, hs⟩
            have HS3 := Lib.hid (HS2.out.trans hs)
            clear hs HF HS2 hc k2 k3
            go_wp2
            go_roundw
            case rel => exact ⟨2, _, by first | rfl | go_num, by omega, HS3, Lib.hid (by rw [HE2.out, EQ.out] <;> rfl)⟩
            case measure => simp [intOf]
        · have hcb : (s2.code == 0) = false := beq_eq_false_iff_ne.2 hcd
          have EQ := Lib.hid (show (wantR 1 84 B s).2 = s2 by
            by_cases hch : ch = 84
            · exact HW.out.1 hch
            · rw [HW.out.2 hch]; exact failS_idle _ _ _ hcd)
          clear HW HF hcd
          go_wp2
          go_roundw
          case rel => exact ⟨2, s2, by first | rfl | go_num, by omega, HS2, Lib.hid (by rw [HE2.out, EQ.out] <;> rfl)⟩
          case measure => simp [intOf]
      · have HC := Lib.hid (rr_octet w wr rb _ B s 255 HS.out.at_)
        have hrg := octR_u 255 HBY.out s (by decide)
        obtain ⟨r, hr⟩ : ∃ r, r = octR 255 B s := ⟨_, rfl⟩
        have HW := Lib.hid (And.intro (want_yes (i := 2) (c := 1) (B := B) (s := s)) (want_no (i := 2) (c := 1) (B := B) (s := s)))
        rw [← hr] at HC HW hrg
        obtain ⟨ch, s2⟩ := r
        simp only at HW hrg
        obtain ⟨hg0, hg1, _⟩ := hrg
        have HE2 := Lib.hid (show hdS B 3 = (wantR 2 1 B s).2 by rw [HE.out]; rfl)
        have D2w := Lib.hid d2
        clear hr d2 zhb
        go_wp2_with fail
        refine HC.out.mono ?_
        rintro e w2 ⟨rfl, hs⟩
        have HS2 := Lib.hid (HS.out.trans hs)
        have d2 := (hs.fr (rb + 1) (lt_of_block D2w.out) hne2).trans D2w.out
        have zhb := lt_of_block d2
        have hc : w2.cell? ⟨rb + 1, 2, none⟩ = some (.int .i64 1) := by rw [cell_of_row _ _ _ _ _ _ d2]; rfl
        have k2 : w2.cell? ⟨rb, 2, none⟩ = some (.int .i64 s2.code) := hs.at_.cells.2.2.1
        have k3 := hs.at_.lt
        have HF := Lib.hid (rr_fail w w2 rb _ B s2 100 2 hs.at_)
        clear hs HC HS d2
        simp only at HS2 k2 ⊢
        by_cases hcd : s2.code = 0
        · have hcb : (s2.code == 0) = true := by rw [beq_iff_eq]; exact hcd
          clear hcd
          by_cases hch : ch = 1
          · have hcq : (ch == 1) = true := by rw [beq_iff_eq]; exact hch
            have EQ := Lib.hid (HW.out.1 hch)
            clear HW HF
            go_wp2
            go_roundw
            case rel => exact ⟨3, s2, by first | rfl | go_num, by omega, HS2, Lib.hid (by rw [HE2.out, EQ.out] <;> rfl)⟩
            case measure => simp [intOf]
          · have hcq : (ch == 1) = false := beq_eq_false_iff_ne.2 hch
            have EQ := Lib.hid (HW.out.2 hch)
            clear HW
            go_wp2_with fail
            refine HF.out.mono ?_
            rintro e w3 ⟨rfl, hs⟩
            have HS3 := Lib.hid (HS2.out.trans hs)
            clear hs HF HS2 hc k2 k3
            go_wp2
            go_roundw
            case rel => exact ⟨3, _, by first | rfl | go_num, by omega, HS3, Lib.hid (by rw [HE2.out, EQ.out] <;> rfl)⟩
            case measure => simp [intOf]
        · have hcb : (s2.code == 0) = false := beq_eq_false_iff_ne.2 hcd
          have EQ := Lib.hid (show (wantR 2 1 B s).2 = s2 by
            by_cases hch : ch = 1
            · exact HW.out.1 hch
            · rw [HW.out.2 hch]; exact failS_idle _ _ _ hcd)
          clear HW HF hcd
          go_wp2
          go_roundw
          case rel => exact ⟨3, s2, by first | rfl | go_num, by omega, HS2, Lib.hid (by rw [HE2.out, EQ.out] <;> rfl)⟩
          case measure => simp [intOf]
      · have HS3 := HS
        rw [HE.out] at HS3
        clear d2 zhb HS HE D2
        obtain ⟨w3, hw3⟩ : ∃ x, x = wr := ⟨_, rfl⟩
        rw [← hw3] at HS3 ⊢
        clear hw3
        have d0 := (HS3.out.fr _ (lt_of_block D0.out) hne0).trans D0.out
        have D3 := Lib.hid d0
        clear d0 D0
        obtain ⟨s3, hs3⟩ : ∃ s, s = hdS B 3 := ⟨_, rfl⟩
        have HC := Lib.hid (rr_number w w3 rb _ B s3 (by rw [hs3]; exact HS3.out.at_))
        have HCNT := Lib.hid (show cntS B = numR B s3 by rw [hs3]; rfl)
        have HBG := Lib.hid (show bgS B = if (cntS B).1 = 0 ∨ 4096 < (cntS B).1 then failS 100 s3.at_ (cntS B).2 else (cntS B).2 by rw [hs3]; rfl)
        have hnr := numR_range HBY.out s3
        rw [← hs3] at HS3
        obtain ⟨a3, cd3, bd3⟩ := s3
        have q1 : w3.cell? ⟨rb, 1, none⟩ = some (.int .i64 a3) := HS3.out.at_.cells.2.1
        have q3 := HS3.out.at_.lt
        rw [← HCNT.out] at HC hnr
        obtain ⟨r, hr⟩ : ∃ r, r = cntS B := ⟨_, rfl⟩
        have HR := Lib.hid hr
        rw [← hr] at HC hnr HBG
        obtain ⟨n, s4⟩ := r
        simp only at hnr HBG
        obtain ⟨hn0, hn1⟩ := hnr
        obtain ⟨n, rfl⟩ := Int.eq_ofNat_of_zero_le hn0
        clear hs3 hr HCNT hn0 hn1
        go_wp2_with fail
        refine HC.out.mono ?_
        clear HC q1 q3
        rintro e w4 ⟨rfl, hs⟩
        have HS4 := Lib.hid (HS3.out.trans hs)
        have D4 := Lib.hid ((hs.fr _ (lt_of_block D3.out) hne0).trans D3.out)
        have k2 : w4.cell? ⟨rb, 2, none⟩ = some (.int .i64 s4.code) := hs.at_.cells.2.2.1
        have k3 := hs.at_.lt
        clear hs HS3 D3
        simp only at HS4 k2 ⊢
        obtain ⟨bb, hbb⟩ : ∃ b, b = decide (s4.code = 0 ∧ ((n : Int) = 0 ∨ (4096 : Int) < (n : Int))) := ⟨_, rfl⟩
        have HBB := Lib.hid hbb
        go_upto_region 13 with (fail)
        go_cut [63] (fun s wx => s = .bool bb ∧ wx = w4)
        case first =>
          by_cases hcd : s4.code = 0
          · have hcb : (s4.code == 0) = true := by rw [beq_iff_eq]; exact hcd
            by_cases hz : (n : Int) < 1
            · have e : bb = true := by rw [hbb, decide_eq_true_eq]; exact ⟨hcd, .inl (by omega)⟩
              clear hbb HBB hcd
              go_wp2_with fail
              go_meet
              exact ⟨by rw [e], rfl⟩
            · have e : bb = decide ((4096 : Int) < (n : Int)) := by rw [hbb]; exact decide_eq_decide.2 ⟨fun h => h.2.resolve_left (by omega), fun h => ⟨hcd, .inr h⟩⟩
              clear hbb HBB hcd
              go_wp2_with fail
              go_meet
              exact ⟨by rw [e], rfl⟩
          · have hcb : (s4.code == 0) = false := beq_eq_false_iff_ne.2 hcd
            have e : bb = false := by rw [hbb]; exact decide_eq_false (fun h => hcd h.1)
            clear hbb HBB hcd
            go_wp2_with fail
            go_meet
            exact ⟨by rw [e], rfl⟩
        case rest =>
        obtain ⟨rfl, rfl⟩ := hcut
        clear hbb k2 k3
        go_upto_if 63 with (fail)
        go_cut [10] (fun s wx => s = .int .i64 n ∧ RowKit.Hid (RdS 93 w W1 rb (.slice p B.length c) B (bgS B) wx) ∧ RowKit.Hid (wx.heap[w.heap.size]? = some (.cells #[.slice none 0 0] 24 (0, 0))))
        case first =>
          cases bb
          · have hq := of_decide_eq_false HBB.out.symm
            have EB := Lib.hid (show bgS B = s4 by
              rw [HBG.out]
              by_cases h : (n : Int) = 0 ∨ 4096 < (n : Int)
              · rw [if_pos h]; exact failS_idle _ _ _ (fun h' => hq ⟨h', h⟩)
              · rw [if_neg h])
            clear hq HBB
            go_wp2_with fail
            go_meet
            exact ⟨rfl, Lib.hid (by rw [EB.out]; exact HS4.out), D4⟩
          · have hq := of_decide_eq_true HBB.out.symm
            have EB := Lib.hid (HBG.out.trans (if_pos hq.2))
            have HF := Lib.hid (rr_fail w _ rb _ B s4 100 a3 HS4.out.at_)
            clear hq HBB
            go_wp2_with fail
            refine HF.out.mono ?_
            rintro e w5 ⟨rfl, hs⟩
            have HX := Lib.hid (show RdS 93 w W1 rb (.slice p B.length c) B (bgS B) w5 by rw [EB.out]; exact HS4.out.trans hs)
            have DX := Lib.hid ((hs.fr _ (lt_of_block D4.out) hne0).trans D4.out)
            clear hs
            go_wp2_with fail
            go_meet
            exact ⟨rfl, HX, DX⟩
        case rest =>
        obtain ⟨rfl, HS5, D5⟩ := hcut
        clear HS4 D4
        go_wp2_with fail
        obtain ⟨w6, hw6⟩ : ∃ x, x = wc.alloc (.cells #[.slice none 0 0] 24) := ⟨_, rfl⟩
        have B6 : Below wc.heap.size wc w6 := by rw [hw6]; exact below_al (Below.refl _ _) _
        have b6 : w6.heap[wc.heap.size]? = some (.cells #[.slice none 0 0] 24 (0, 0)) := by rw [hw6]; exact heap_alloc_new _ _
        rw [← hw6]
        have zwc : w.heap.size < wc.heap.size := lt_of_block D5.out
        obtain ⟨tb, htb⟩ : ∃ x, x = wc.heap.size := ⟨_, rfl⟩
        have DS := Lib.hid (show DecR 93 w rb (.slice p B.length c) B w.heap.size tb (bgS B) [] (.slice none 0 0) (fun _ => .slice none 0 0) (fun _ => .slice none 0 0) w6 from ⟨HS5.out.at_.later B6, OwnT.nil _ _ _ _, by rw [htb]; exact b6, (B6.block _ zwc).trans D5.out, by omega, by omega⟩)
        have hn0 : (cntS B).1 = (n : Int) := by rw [← HR.out]
        have HRES := Lib.hid (show (([] : List Nd) ++ (manyR ndR n B (bgS B)).1, (manyR ndR n B (bgS B)).2) = ndsS B by rw [List.nil_append]; unfold ndsS; rw [hn0, Int.toNat_natCast])
        have H40 := Lib.hid (show (bgS B).code = 0 → n ≤ 4096 from fun h => by
          rw [HBG.out] at h
          by_cases hb : (n : Int) = 0 ∨ (4096 : Int) < (n : Int)
          · rw [if_pos hb] at h; exact absurd h (failS_code (by decide))
          · omega)
        simp only [← htb]
        clear hw6 B6 b6 zwc hn0 HS5 D5 htb HBG HR HBB
        go_loopw [12] (fun iv wr => ∃ (l : List Nd) (r : Nat) (s : Rs) (tv : Value) (kvs cvs : Nat → Value), iv = .int .i64 l.length ∧ l.length + r = n ∧ l.length ≤ 4096 ∧ RowKit.Hid (DecR 93 w rb (.slice p B.length c) B w.heap.size tb s l tv kvs cvs wr) ∧ RowKit.Hid ((l ++ (manyR ndR r B s).1, (manyR ndR r B s).2) = ndsS B) ∧ RowKit.Hid (∀ x ∈ l, NdOk x) ∧ RowKit.Hid (s.code = 0 → n ≤ 4096)) (fun iv _ => n - (intOf iv).toNat)
        case atStart => exact ⟨[], n, bgS B, _, _, _, rfl, by simp, by simp, DS, HRES, Lib.hid (fun x hx => by cases hx), H40⟩
        case round =>
          clear DS HRES H40
          obtain ⟨l, r, s, tv, kvs, cvs, rfl, hlr, hl4, HS, HE, HOK, H40⟩ := hrel
          have k2 := HS.out.rd.cells.2.2.1
          have k3 := HS.out.rd.lt
          obtain ⟨wo, hwo⟩ : ∃ x, x = wr := ⟨_, rfl⟩
          rw [← hwo] at HS k2 k3 ⊢
          obtain ⟨bb, hbb⟩ : ∃ b, b = decide (((l.length : Nat) : Int) < (n : Int) ∧ s.code = 0) := ⟨_, rfl⟩
          have HBB := Lib.hid hbb
          clear hwo
          go_upto_region 17 with (fail)
          go_cut [76] from 67 to 85 (fun sl wx => sl = .bool bb ∧ wx = wo)
          case first =>
            by_cases hz : ((l.length : Nat) : Int) < (n : Int)
            · have e : bb = (s.code == 0) := by
                rw [hbb]
                by_cases h : s.code = 0
                · rw [decide_eq_true ⟨hz, h⟩, h]; rfl
                · rw [decide_eq_false (fun h' => h h'.2), beq_eq_false_iff_ne.2 h]
              clear hbb HBB
              go_wp2_with fail
              go_meet
              exact ⟨by rw [e], rfl⟩
            · have e : bb = false := by rw [hbb]; exact decide_eq_false (fun h => hz h.1)
              clear hbb HBB
              go_wp2_with fail
              go_meet
              exact ⟨by rw [e], rfl⟩
          case rest =>
          obtain ⟨rfl, rfl⟩ := hcut
          clear hbb k2
          cases bb
          · have hq := of_decide_eq_false HBB.out.symm
            have ER := Lib.hid (show ndsS B = (l, s) by
              rcases Nat.eq_zero_or_pos r with rfl | h
              · exact manyR_zero HE.out
              · exact manyR_stop HE.out (fun h' => hq ⟨by omega, h'⟩))
            clear hq HBB HE H40 hlr hl4
            have HB2 := Lib.hid HS.out.rd.be
            have tt := cell_of_one HS.out.box
            have tz := lt_of_block HS.out.box
            have r0c := cell_of_one HS.out.res
            have r0f := free_of_one HS.out.res
            have r0z := lt_of_block HS.out.res
            have hne := HS.out.ne
            have q1 := HS.out.rd.cells.2.1
            have q2 := HS.out.rd.cells.2.2.1
            have q3 := HS.out.rd.cells.2.2.2
            by_cases hcode : s.code = 0
            · have hcb : (s.code == 0) = true := by rw [beq_iff_eq]; exact hcode
              by_cases hat : (s.at_ : Int) < (B.length : Int)
              · have hatn : s.at_ < B.length := by omega
                have HF := Lib.hid (rr_fail w _ rb _ B s 100 s.at_ HS.out.rd)
                have HEN := Lib.hid (show endS B (ndsS B).2 = failS 100 s.at_ s by rw [ER.out]; unfold endS; rw [if_pos hatn])
                have hcf : (failS 100 s.at_ s).code ≠ 0 := failS_code (by decide)
                have EC := Lib.hid (decT_code hl (by rw [HEN.out]; exact hcf))
                rw [HEN.out] at EC
                clear hatn q3 tt tz HEN hcode
                go_wp2_with fail
                refine HF.out.mono ?_
                rintro e w9 ⟨rfl, hs⟩
                obtain ⟨fs, hfs⟩ : ∃ q, q = failS 100 s.at_ s := ⟨_, rfl⟩
                rw [← hfs] at hs hcf EC
                clear q1 q2 hcb hat
                have q2 := hs.at_.cells.2.2.1
                have q3 := hs.at_.cells.2.2.2
                have q4 := hs.at_.lt
                have b9 := (hs.fr _ (lt_of_block HS.out.res) (fun e => by have := HS.out.res; rw [e, HS.out.rd.blk] at this; injection this with this; injection this with _ h _; exact absurd h (by decide))).trans HS.out.res
                have r9c := cell_of_one b9
                have r9f := free_of_one b9
                have r9z := lt_of_block b9
                have HB9 := Lib.hid hs.at_.be
                have hcb : (fs.code == 0) = false := beq_eq_false_iff_ne.2 hcf
                have B9 := Lib.hid b9
                clear hs hfs hcf b9 HF r0c r0f r0z k3 HS ER
                go_upto_region 23 with (fail)
                go_region
                go_wp2
                obtain ⟨x9, hx9⟩ : ∃ x, x = (w9.setCell ⟨w.heap.size, 0, none⟩ (.slice none 0 0)).drew := ⟨_, rfl⟩
                have bx : x9.heap[w.heap.size]? = some (.cells #[.slice none 0 0] 24 (0, 0)) := by rw [hx9]; exact one_set B9.out
                have u0 := cell_of_one bx
                have HBX := Lib.hid (show Below w.heap.size w x9 by rw [hx9]; exact Below.drew (HB9.out.setCell (p := ⟨w.heap.size, 0, none⟩) (Nat.le_refl _) _))
                rw [← hx9]
                refine bodyPost_ret (v := .tuple #[.agg #[.slice none 0 0], .int .i64 fs.code, .int .i64 fs.bad]) (by simp [results, Try.results21, go_sem, u0]) rfl ?_
                exact ret_dcd_nil EC.out HBX.out
              · have hatn : ¬ s.at_ < B.length := by omega
                have HEN := Lib.hid (show endS B (ndsS B).2 = s by rw [ER.out]; unfold endS; rw [if_neg hatn])
                clear hatn
                obtain ⟨pt, ct, htv, hT⟩ := HS.out.own.tree HOK.out
                subst htv
                have HCK := Lib.hid (ref_Check_any pt ct l _ hT)
                have HE0 := Lib.hid (show (endS B (ndsS B).2).code = 0 by rw [HEN.out]; exact hcode)
                obtain ⟨ce, hce⟩ : ∃ q, q = checkT l := ⟨_, rfl⟩
                have HCE := Lib.hid (show checkT (ndsS B).1 = ce by rw [ER.out, hce])
                rw [← hce] at HCK
                obtain ⟨e1, e2⟩ := ce
                clear hce hT hcode HEN q3
                go_wp2_with fail
                refine HCK.out.mono ?_
                rintro e w9 ⟨rfl, hb⟩
                have b9 := Lib.hid ((hb.block _ (lt_of_block HS.out.res)).trans HS.out.res)
                have t9 := Lib.hid ((hb.block _ (lt_of_block HS.out.box)).trans HS.out.box)
                have r9c := cell_of_one b9.out
                have r9f := free_of_one b9.out
                have r9z := lt_of_block b9.out
                have t9c := cell_of_one t9.out
                have t9z := lt_of_block t9.out
                have HB9 := Lib.hid (below_via hb HB2.out)
                have OW9 := Lib.hid (HS.out.own.later hb)
                clear hb tt tz r0c r0f r0z q1 q2 k3 HCK HS hcb hat
                by_cases he1 : e1 = 0
                · subst he1
                  have ED := Lib.hid (decT_ok hl HE0.out (by rw [HCE.out]))
                  rw [ER.out] at ED
                  go_wp2
                  obtain ⟨x9, hx9⟩ : ∃ x, x = w9.setCell ⟨w.heap.size, 0, none⟩ (.slice pt l.length ct) := ⟨_, rfl⟩
                  have bx : x9.heap[w.heap.size]? = some (.cells #[.slice pt l.length ct] 24 (0, 0)) := by rw [hx9]; exact one_set b9.out
                  have u0 := cell_of_one bx
                  have HBX := Lib.hid (show Below w.heap.size w x9 by rw [hx9]; exact (HB9.out.setCell (p := ⟨w.heap.size, 0, none⟩) (Nat.le_refl _) _))
                  rw [← hx9]
                  refine bodyPost_ret (v := .tuple #[.agg #[.slice pt l.length ct], .int .i64 0, .int .i64 0]) (by simp [results, Try.results21, go_sem, u0]) rfl ?_
                  exact ret_dcd ED.out (OW9.out.kept fun b e => by rw [hx9]; exact blk_setCell_other _ _ _ _ (fun e' => OW9.out.not_has b9.out (by decide) (by decide) (by decide) (by have h : b = w.heap.size := e'; rw [← h]; exact e))) HBX.out
                · have he1b : (e1 == 0) = false := beq_eq_false_iff_ne.2 he1
                  have ED := Lib.hid (decT_check hl HE0.out (by rw [HCE.out]; exact he1))
                  rw [HCE.out] at ED
                  clear he1
                  go_wp2
                  obtain ⟨x9, hx9⟩ : ∃ x, x = w9.setCell ⟨w.heap.size, 0, none⟩ (.slice none 0 0) := ⟨_, rfl⟩
                  have bx : x9.heap[w.heap.size]? = some (.cells #[.slice none 0 0] 24 (0, 0)) := by rw [hx9]; exact one_set b9.out
                  have u0 := cell_of_one bx
                  have HBX := Lib.hid (show Below w.heap.size w x9 by rw [hx9]; exact (HB9.out.setCell (p := ⟨w.heap.size, 0, none⟩) (Nat.le_refl _) _))
                  rw [← hx9]
                  refine bodyPost_ret (v := .tuple #[.agg #[.slice none 0 0], .int .i64 e1, .int .i64 e2]) (by simp [results, Try.results21, go_sem, u0]) rfl ?_
                  exact ret_dcd_nil ED.out HBX.out
            · have HEN := Lib.hid (show endS B (ndsS B).2 = s by
                rw [ER.out]; unfold endS
                by_cases h : s.at_ < B.length
                · rw [if_pos h]; exact failS_idle _ _ _ hcode
                · rw [if_neg h])
              have EC := Lib.hid (decT_code hl (by rw [HEN.out]; exact hcode))
              rw [HEN.out] at EC
              have hcb : (s.code == 0) = false := beq_eq_false_iff_ne.2 hcode
              have B9 := Lib.hid HS.out.res
              have HB9 := Lib.hid HB2.out
              have q4 := k3
              clear HEN hcode HS ER tt tz q1
              go_upto_region 23 with (fail)
              go_region
              go_wp2
              obtain ⟨x9, hx9⟩ : ∃ x, x = (wc.setCell ⟨w.heap.size, 0, none⟩ (.slice none 0 0)).drew := ⟨_, rfl⟩
              have bx : x9.heap[w.heap.size]? = some (.cells #[.slice none 0 0] 24 (0, 0)) := by rw [hx9]; exact one_set B9.out
              have u0 := cell_of_one bx
              have HBX := Lib.hid (show Below w.heap.size w x9 by rw [hx9]; exact Below.drew (HB9.out.setCell (p := ⟨w.heap.size, 0, none⟩) (Nat.le_refl _) _))
              rw [← hx9]
              refine bodyPost_ret (v := .tuple #[.agg #[.slice none 0 0], .int .i64 s.code, .int .i64 s.bad]) (by simp [results, Try.results21, go_sem, u0]) rfl ?_
              exact ret_dcd_nil EC.out HBX.out
          · have hq := of_decide_eq_true HBB.out.symm
            obtain ⟨hlt, hcode⟩ := hq
            obtain ⟨r, rfl⟩ : ∃ q, r = q + 1 := ⟨r - 1, by omega⟩
            have HE2 := Lib.hid (manyR_step HE.out hcode)
            have h40 := H40.out hcode
            have D := Lib.hid (HS.out.later (Below.drew (Below.refl _ _)))
            have HY := Lib.hid (show NdOk (ndR B s).1 from partsR_ok HBY.out hl s 13)
            have HC := Lib.hid (rr_node w wc.drew rb _ B s D.out.rd)
            obtain ⟨ys, hys⟩ : ∃ q, q = ndR B s := ⟨_, rfl⟩
            have HYS := Lib.hid hys
            rw [← hys] at HY HC
            obtain ⟨y, s'⟩ := ys
            simp only at HY
            clear HBB HE H40 hcode hys
            obtain ⟨i0, hi, hz0, hz1, hz2⟩ := info_parts infoN34
            have HI := Lib.hid (And.intro hi (And.intro hz0 (And.intro hz1 hz2)))
            clear hi hz0 hz1 hz2
            go_upto_region 19 with (fail)
            have HS0 := Lib.hid (show wc.drew.cell? ⟨tb, 0, none⟩ = some tv from cell_of_one D.out.box)
            clear k3
            refine wp_region_noPanic ?_
            refine wp_region_Z (fun w' => w'.cell? ⟨tb, 0, none⟩ = some tv) 7 (by kernel_rfl) ?_
            change wpAnyZ _ _ _ _ _ _ 8 (Array.replicate 8 false) _ _
            refine wpAnyZ_take [5, 1] (i := 0) (v := ?vp0) (by simp only [List.getElem?_toArray, List.getElem?_cons_succ, List.getElem?_cons_zero]; rfl) (by decide +kernel) (fun _ _ _ h => h) (by rfl) ?tp0 ?sp0 ?_
            case tp0 => (intro w' h; clear h; go_simp; try rfl)
            case sp0 => exact HS0.out
            (try simp only [Act.put, List.setIfInBounds_toArray, List.set_cons_zero, List.set_cons_succ])
            refine wpAnyZ_take [5] (i := 1) (v := ?vp1) (by simp only [List.getElem?_toArray, List.getElem?_cons_succ, List.getElem?_cons_zero]; rfl) (by decide +kernel) (fun _ _ _ h => h) (by rfl) ?tp1 ?sp1 ?_
            case tp1 => (intro w' h; have FK := (fun w' (h : w'.cell? ⟨tb, 0, none⟩ = some tv) => h) w' h; clear h; go_split_ands; go_simp; try rfl)
            case sp1 => exact HS0.out
            (try simp only [Act.put, List.setIfInBounds_toArray, List.set_cons_zero, List.set_cons_succ])
            refine wpAnyZ_take [5, 4, 3] (i := 2) (v := ?vp2) (by simp only [List.getElem?_toArray, List.getElem?_cons_succ, List.getElem?_cons_zero]; rfl) (by decide +kernel) (fun _ _ _ h => h) (by rfl) ?tp2 ?sp2 ?_
            case tp2 => (intro w' h; clear h; go_simp; try rfl)
            case sp2 => exact HS0.out
            (try simp only [Act.put, List.setIfInBounds_toArray, List.set_cons_zero, List.set_cons_succ])
            refine wpAnyZ_one (i := 3) (by decide +kernel) ?_
            refine wpOpK_call (by simp only [List.getElem?_toArray, List.getElem?_cons_succ, List.getElem?_cons_zero]; rfl) (by rfl) (by go_simp; first | exact ⟨rfl, rfl⟩ | rfl) ?_
            refine (HC.out).mono ?_
            rintro e wa ⟨kv, cv, rfl, hg⟩
            have HG := Lib.hid hg
            have DW := Lib.hid (D.out.got tyRr2 tyRr hg)
            clear hg HC
            simp only at HG DW ⊢
            have HSa := Lib.hid (show wa.cell? ⟨tb, 0, none⟩ = some tv from cell_of_one DW.out.box)
            refine ⟨_, rfl, .inr HSa.out, ?_⟩
            (try simp only [Act.put, List.setIfInBounds_toArray, List.set_cons_zero, List.set_cons_succ])
            obtain ⟨ns, hns⟩ : ∃ q, q = ndV y kv cv := ⟨_, rfl⟩
            have LEN := Lib.hid (show ns.length = 34 by rw [hns]; rfl)
            have ONE := Lib.hid (show ∀ v ∈ ns, v.oneCell' = true by rw [hns]; exact ndV_one (row_ints HG.out.kr) (row_items HG.out.cr))
            have L1 := Lib.hid (show ∀ a ∈ [ns], a.length = 34 from fun a ha => by rw [List.mem_singleton] at ha; rw [ha]; exact LEN.out)
            have HNS := Lib.hid hns
            rw [← hns]
            clear hns
            have zx := lt_of_block DW.out.box
            have HSb := Lib.hid (show (wa.alloc (.cells [ns].flatten.toArray 64)).cell? ⟨tb, 0, none⟩ = some tv from (World.cell?_alloc_past _ _ _ zx).trans HSa.out)
            have OWN := Lib.hid (DW.out.own.row.alloc (.cells ([ns].flatten.toArray) 64))
            have NEW := Lib.hid (World.news_of_block (cs := [ns].flatten.toArray) (t := 64) (fr := (0, 0)) (heap_alloc_new wa _))
            have hzz : w.heap.size ≤ wa.heap.size := by have := DW.out.rd.zb; have := DW.out.rd.lt; omega
            have HPUSH := Lib.hid (fun v' W2 own gr => D.out.push tyRr2 tyRr HG.out (below_al (Below.refl _ _) (.cells ([ns].flatten.toArray) 64)) (W2 := W2) (v' := v') (m := l.length + 1) (xs := ndsV l kvs cvs ++ ns) own rfl (by rw [HNS.out]) gr)
            refine wpAnyZ_one (i := 4) (by decide +kernel) ?_
            refine wpOpK_build (by simp only [List.getElem?_toArray, List.getElem?_cons_succ, List.getElem?_cons_zero]; rfl) rfl 22 64 1 #[(0, .tmp 82)] rfl i0 _ 34 Try.underlying22 HI.out.1 HI.out.2.1 HI.out.2.2.1 (by decide) [ns] rfl ?b3 L1.out (show 1 * 34 ≤ 16777216 by decide) ?_
            case b3 => rfl
            refine ⟨.inr HSb.out, ?_⟩
            (try simp only [Act.put, List.setIfInBounds_toArray, List.set_cons_zero, List.set_cons_succ])
            refine wpAnyZ_one (i := 5) (by decide +kernel) ?_
            refine wpOpK_append (by simp only [List.getElem?_toArray, List.getElem?_cons_succ, List.getElem?_cons_zero]; rfl) rfl (.tmp 80) (.tmp 83) 22 rfl w.heap.size 64 i0 _ 34 288 Try.underlying22 HI.out.1 HI.out.2.1 HI.out.2.2.1 HI.out.2.2.2 rfl (by decide) _ l.length _ (by rfl) OWN.out ⟨wa.heap.size, 0, none⟩ 1 1 ns (by rfl) (by rw [LEN.out]) ?n1 ONE.out (by omega) ?h63 ?hby ?hbs ?_
            case n1 => simpa using NEW.out
            case h63 => (unfold maxLen; omega)
            case hby => omega
            case hbs => first | omega | (simp; omega)
            intro g cap W2 own gr hg hlt
            obtain ⟨hbox, hD⟩ := HPUSH.out _ W2 own gr
            have HD := Lib.hid hD
            have c2 := cell_of_one hbox
            have f2 := free_of_one hbox
            have z2 := lt_of_block hbox
            clear own gr hg hlt hbox hD HPUSH OWN NEW
            refine ⟨.inr c2, ?_⟩
            (try simp only [Act.put, List.setIfInBounds_toArray, List.set_cons_zero, List.set_cons_succ])
            refine wpAnyZ_take [] (i := 6) (v := ?vp6) (by simp only [List.getElem?_toArray, List.getElem?_cons_succ, List.getElem?_cons_zero]; rfl) (by decide +kernel) (fun _ _ _ h => h) (by rfl) ?tp6 ?sp6 ?_
            case tp6 => (intro w' h; clear h; go_simp; try rfl)
            case sp6 => exact c2
            (try simp only [Act.put, List.setIfInBounds_toArray, List.set_cons_zero, List.set_cons_succ])
            refine wpAnyZ_one (i := 7) (by decide +kernel) ?_
            refine wpOpK_skip (w' := W2.setCell ⟨tb, 0, none⟩ (.slice (some ⟨g, 0, none⟩) (l.length + 1) cap)) (by simp only [List.getElem?_toArray, List.getElem?_cons_succ, List.getElem?_cons_zero]; rfl) (by rfl) ?mp7 ⟨.inl rfl, ?_⟩
            case mp7 => (go_simp; try rfl)
            (try simp only [Act.put, List.setIfInBounds_toArray, List.set_cons_zero, List.set_cons_succ])
            refine wpAnyZ_done (by kernel_rfl) (NoPanic.normal ?_) _
            clear c2 f2 z2 HS D HG DW HSa HSb HS0 LEN ONE L1
            go_wp2
            go_roundw
            case rel =>
              refine ⟨l ++ [y], r, s', _, _, _, by rw [List.length_append]; first | rfl | go_num, by rw [List.length_append]; simp; omega, by rw [List.length_append]; simp; omega, HD, Lib.hid ?_, Lib.hid ?_, Lib.hid (fun _ => h40)⟩
              · have := HE2.out
                rw [show ndR B s = (y, s') from HYS.out.symm] at this
                exact this
              · intro x hx
                rcases List.mem_append.1 hx with hx | hx
                · exact HOK.out x hx
                · rw [List.mem_singleton] at hx
                  rw [hx]
                  exact HY.out
            case measure => simp [intOf]; omega
end Go.Proofs.Ytcihihncgpddfaa
