/- Reading trees' bytes: the reference's node. -/
import Derived.Test.YtcihihncgpddfaaDecA
import Derived.Test.YtcihihncgpddfaaLtZ
import Derived.Test.YtcihihncgpddfaaWkA
import Derived.Test.YtcihihncgpddfaaResC
import Derived.Laws.CopyOwn
namespace Go.Proofs.Ytcihihncgpddfaa
open Go.RowKit Go.Deep
set_option linter.unusedVariables false
set_option linter.unusedSimpArgs false

theorem tyRr : TyOk 93 := ⟨by decide, by decide, by decide⟩
/-- a node has been read: its two lists are the call's own -/
structure NdGot (ty : TypeId) (w0 W : World) (rb : Nat) (sv : Value) (B : List Int) (s : Rs) (y : Nd) (kv cv : Value) (W' : World) : Prop where
  rd : RdAt ty w0 W' rb sv B s
  kr : W'.ownsRow W.heap.size 3 1 kv y.kids.length (y.kids.map (Value.int .i64))
  cr : W'.ownsRow W.heap.size 57 5 cv y.cols.length (itsV y.cols)
  sz : W.heap.size ≤ W'.heap.size
  fr : ∀ b, b < W.heap.size → b ≠ rb → W'.heap[b]? = W.heap[b]?
def NodePost (ty : TypeId) (w0 W : World) (rb : Nat) (sv : Value) (B : List Int) (r : Nd × Rs) (e : Ending) (W' : World) : Prop := ∃ kv cv, e = .returned (.agg (ndV r.1 kv cv).toArray) ∧ NdGot ty w0 W rb sv B r.2 r.1 kv cv W'
theorem parts_next {k : Nat} {B : List Int} {s0 s : Rs} {y : Nd} {r : Nd × Rs} (h : partsR k B s0 = (y, s)) (h2 : partR y k B s = r) : partsR (k + 1) B s0 = r := by
  show partR (partsR k B s0).1 k B (partsR k B s0).2 = r
  rw [h]; exact h2
theorem row_raise {w : World} {base base' : Nat} {t : TypeId} {k : Nat} {v : Value} {n : Nat} {xs : List Value} (h : w.ownsRow base t k v n xs) (hb : ∀ b, v.ownBlock = some b → base' ≤ b) : w.ownsRow base' t k v n xs := by
  obtain ⟨hl, h | ⟨g, cap, cur, e, hb', hh, hr⟩⟩ := h
  · exact ⟨hl, .inl h⟩
  · exact ⟨hl, .inr ⟨g, cap, cur, e, hb g (by rw [e]; rfl), hh, hr⟩⟩
theorem octR_u2 (m : Int) {B : List Int} (hB : Byte8 B) (s : Rs) (hm : 0 ≤ m) : 0 ≤ (octR m B s).1 ∧ (octR m B s).1 ≤ m ∧ (octR m B s).1 ≤ 255 := octR_u m hB s hm
set_option maxRecDepth 100000 in
set_option maxHeartbeats 32000000 in
theorem rr_node (w0 W : World) (rb : Nat) (sv : Value) (B : List Int) (s : Rs) (hr : RdAt 93 w0 W rb sv B s) : Calls Try.prog 53 #[.pointer (some ⟨rb, 0, none⟩)] W (NodePost 93 w0 W rb sv B (ndR B s)) := by
  have hby := hr.byte
  have HLE := Lib.hid hr.len
  obtain ⟨i0, hi, hz0, hz1, hz2⟩ := info_parts infoInt_
  have HI := Lib.hid (And.intro hi (And.intro hz0 (And.intro hz1 hz2)))
  obtain ⟨j0, hj, hy0, hy1, hy2⟩ := info_parts infoItm_
  have HJ := Lib.hid (And.intro hj (And.intro hy0 (And.intro hy1 hy2)))
  have hzw : w0.heap.size ≤ W.heap.size := by have := hr.zb; have := hr.lt; omega
  obtain ⟨W0, hW0⟩ : ∃ x, x = (W.alloc (.cells nodeZ 64)).alloc (.cells nodeZ 64) := ⟨_, rfl⟩
  have B0 : Below W.heap.size W W0 := by rw [hW0]; exact below_al (below_al (Below.refl _ _) _) _
  have rv : W0.heap[W.heap.size]? = some (.cells nodeZ 64 (0, 0)) := by rw [hW0]; exact (heap_alloc_old _ _ (by simp)).trans (heap_alloc_new _ _)
  obtain ⟨xb, hxb⟩ : ∃ x, x = W.heap.size + 1 := ⟨_, rfl⟩
  have hn0 : NdO w0.heap.size W0 xb nodeZ [] [] (.slice none 0 0) (.slice none 0 0) := by
    have := nodeZ_own w0.heap.size (W.alloc (.cells nodeZ 64)) (by simp; omega)
    rw [hW0, hxb]
    simpa using this
  have H0 := Lib.hid (show GetS 93 w0 W0 rb sv B xb (.slice none 0 0) (.slice none 0 0) s (ndV zNd (.slice none 0 0) (.slice none 0 0)).toArray zNd.kids zNd.cols (.slice none 0 0) (.slice none 0 0) W0 from GetS.refl (hr.later B0) hn0)
  have HRV := Lib.hid rv
  have HZW0 := Lib.hid (show W.heap.size + 2 ≤ W0.heap.size by rw [hW0]; simp)
  have HB0 := Lib.hid B0
  have HRB := Lib.hid hr.lt
  have E0 := Lib.hid (show partsR 0 B s = (zNd, s) from rfl)
  obtain ⟨P, hP⟩ : ∃ P, P = NodePost 93 w0 W rb sv B (ndR B s) := ⟨_, rfl⟩
  have HP := Lib.hid (fun e W' (h : NodePost 93 w0 W rb sv B (ndR B s) e W') => show P e W' from by rw [hP]; exact h)
  rw [← hP]
  have HXB := Lib.hid hxb
  obtain ⟨y0, hy0⟩ : ∃ y, y = zNd := ⟨_, rfl⟩
  obtain ⟨z0, hz0⟩ : ∃ z, z = s := ⟨_, rfl⟩
  rw [← hy0] at E0 H0
  rw [← hz0] at H0
  have E0 := Lib.hid (show partsR 0 B s = (y0, z0) by rw [hz0]; exact E0.out)
  clear hi hz0 hz1 hz2 hj hy0 hy1 hy2 hr B0 rv hn0 hP
  go_enter Try.func53, Try.ntmps53
  go_upto_region 2 with (fail)
  generalize hWX : World.alloc _ _ = WX
  obtain rfl : W0 = WX := by rw [← hWX, hW0]; rfl
  simp only [← hxb]
  clear hWX hW0 hxb
  have HC := Lib.hid (rr_octet w0 W0 rb sv B z0 127 H0.out.rd)
  obtain ⟨ra, hra⟩ : ∃ r, r = octR 127 B z0 := ⟨_, rfl⟩
  rw [← hra] at HC
  have hba := octR_u2 127 hby z0 (by decide)
  rw [← hra] at hba
  have HRa := Lib.hid hra
  obtain ⟨va, sa⟩ := ra
  simp only at hba
  obtain ⟨hbaa, hbab, hbac⟩ := hba
  clear hra
  go_wp2_with fail
  refine HC.out.mono ?_
  clear HC
  rintro e wa ⟨rfl, hs⟩
  have G := Lib.hid (H0.out.next tyRr hs)
  clear hs
  simp only [itV] at G ⊢
  clear H0
  have c0 := G.out.cell (j := 0) rfl
  have f0 := G.out.free 0
  have zx := G.out.lt
  have HN := Lib.hid ((G.out.store tyRr 0 (.int .i8 va)))
  go_upto_region 3 with (fail)
  generalize hX : World.setCell _ _ _ = X1 at HN ⊢
  clear hX zx G c0 f0
  obtain ⟨y1, z1, e1, h1⟩ : ∃ y z, partsR 1 B s = (y, z) ∧ GetS 93 w0 W0 rb sv B xb (.slice none 0 0) (.slice none 0 0) z (ndV y (.slice none 0 0) (.slice none 0 0)).toArray y.kids y.cols (.slice none 0 0) (.slice none 0 0) X1 := ⟨{ y0 with kind := va }, _, parts_next E0.out (by show (_, _) = _; rw [← HRa.out]), HN.out⟩
  have E1 := Lib.hid e1
  have H1 := Lib.hid h1
  clear e1 h1 HN E0 HRa hbaa hbab hbac
  have HC := Lib.hid (rr_text w0 X1 rb sv B z1 H1.out.rd)
  obtain ⟨ra, hra⟩ : ∃ r, r = txtR B z1 := ⟨_, rfl⟩
  rw [← hra] at HC
  have HRa := Lib.hid hra
  obtain ⟨va, sa⟩ := ra
  clear hra
  go_wp2_with fail
  refine HC.out.mono ?_
  clear HC
  rintro e wa ⟨rfl, hs⟩
  have G := Lib.hid (H1.out.next tyRr hs)
  clear hs
  simp only [itV] at G ⊢
  clear H1
  have c1 := G.out.cell (j := 1) rfl
  have f1 := G.out.free 1
  have zx := G.out.lt
  have HN := Lib.hid ((G.out.store tyRr 1 (.string va)))
  go_upto_region 4 with (fail)
  generalize hX : World.setCell _ _ _ = X2 at HN ⊢
  clear hX zx G c1 f1
  obtain ⟨y2, z2, e2, h2⟩ : ∃ y z, partsR 2 B s = (y, z) ∧ GetS 93 w0 W0 rb sv B xb (.slice none 0 0) (.slice none 0 0) z (ndV y (.slice none 0 0) (.slice none 0 0)).toArray y.kids y.cols (.slice none 0 0) (.slice none 0 0) X2 := ⟨{ y1 with id := va }, _, parts_next E1.out (by show (_, _) = _; rw [← HRa.out]), HN.out⟩
  have E2 := Lib.hid e2
  have H2 := Lib.hid h2
  clear e2 h2 HN E1 HRa 
  have HC := Lib.hid (rr_text w0 X2 rb sv B z2 H2.out.rd)
  obtain ⟨ra, hra⟩ : ∃ r, r = txtR B z2 := ⟨_, rfl⟩
  rw [← hra] at HC
  have HRa := Lib.hid hra
  obtain ⟨va, sa⟩ := ra
  clear hra
  go_wp2_with fail
  refine HC.out.mono ?_
  clear HC
  rintro e wa ⟨rfl, hs⟩
  have G := Lib.hid (H2.out.next tyRr hs)
  clear hs
  simp only [itV] at G ⊢
  clear H2
  have c2 := G.out.cell (j := 2) rfl
  have f2 := G.out.free 2
  have zx := G.out.lt
  have HN := Lib.hid ((G.out.store tyRr 2 (.string va)))
  go_upto_region 5 with (fail)
  generalize hX : World.setCell _ _ _ = X3 at HN ⊢
  clear hX zx G c2 f2
  obtain ⟨y3, z3, e3, h3⟩ : ∃ y z, partsR 3 B s = (y, z) ∧ GetS 93 w0 W0 rb sv B xb (.slice none 0 0) (.slice none 0 0) z (ndV y (.slice none 0 0) (.slice none 0 0)).toArray y.kids y.cols (.slice none 0 0) (.slice none 0 0) X3 := ⟨{ y2 with cls := va }, _, parts_next E2.out (by show (_, _) = _; rw [← HRa.out]), HN.out⟩
  have E3 := Lib.hid e3
  have H3 := Lib.hid h3
  clear e3 h3 HN E2 HRa 
  have HC := Lib.hid (rr_text w0 X3 rb sv B z3 H3.out.rd)
  obtain ⟨ra, hra⟩ : ∃ r, r = txtR B z3 := ⟨_, rfl⟩
  rw [← hra] at HC
  have HRa := Lib.hid hra
  obtain ⟨va, sa⟩ := ra
  clear hra
  go_wp2_with fail
  refine HC.out.mono ?_
  clear HC
  rintro e wa ⟨rfl, hs⟩
  have G := Lib.hid (H3.out.next tyRr hs)
  clear hs
  simp only [itV] at G ⊢
  clear H3
  have c22 := G.out.cell (j := 22) rfl
  have f22 := G.out.free 22
  have zx := G.out.lt
  have HN := Lib.hid ((G.out.store tyRr 22 (.string va)))
  go_upto_region 6 with (fail)
  generalize hX : World.setCell _ _ _ = X4 at HN ⊢
  clear hX zx G c22 f22
  obtain ⟨y4, z4, e4, h4⟩ : ∃ y z, partsR 4 B s = (y, z) ∧ GetS 93 w0 W0 rb sv B xb (.slice none 0 0) (.slice none 0 0) z (ndV y (.slice none 0 0) (.slice none 0 0)).toArray y.kids y.cols (.slice none 0 0) (.slice none 0 0) X4 := ⟨{ y3 with text := va }, _, parts_next E3.out (by show (_, _) = _; rw [← HRa.out]), HN.out⟩
  have E4 := Lib.hid e4
  have H4 := Lib.hid h4
  clear e4 h4 HN E3 HRa 
  have hnil : y4.kids = [] := by have := (partsR_nil B s).1; rw [E4.out] at this; exact this
  rw [hnil] at H4
  clear hnil
  have HC := Lib.hid (rr_number w0 X4 rb sv B z4 H4.out.rd)
  obtain ⟨ra, hra⟩ : ∃ r, r = numR B z4 := ⟨_, rfl⟩
  rw [← hra] at HC
  have hba := numR_range hby z4
  rw [← hra] at hba
  have HRa := Lib.hid hra
  obtain ⟨va, sa⟩ := ra
  simp only at hba
  obtain ⟨hbaa, hbab⟩ := hba
  clear hra
  obtain ⟨n, rfl⟩ := Int.eq_ofNat_of_zero_le hbaa
  obtain ⟨res, hres⟩ : ∃ r, r = manyR numR n B sa := ⟨_, rfl⟩
  have EP := Lib.hid (show partR y4 4 B z4 = ({ y4 with kids := res.1 }, res.2) from by show (_, _) = _; rw [← HRa.out]; simp only [Int.toNat_natCast]; rw [← hres])
  have HRES := Lib.hid (show (([] : List Int) ++ (manyR numR (n - 0) B sa).1, (manyR numR (n - 0) B sa).2) = res by rw [Nat.sub_zero, List.nil_append, hres])
  clear hres HRa
  go_wp2_with fail
  refine HC.out.mono ?_
  clear HC
  rintro e wa ⟨rfl, hs⟩
  have G := Lib.hid (H4.out.next tyRr hs)
  clear hs
  simp only [itV] at G ⊢
  clear H4
  have hat : sa.at_ ≤ B.length := G.out.rd.at_
  have hnb : n < 2147483648 := by omega
  go_upto_region 8 with (fail)
  go_loopw [5] (fun iv wr => ∃ (q : Nat) (l : List Int) (s2 : Rs) (kv1 : Value), iv = .int .i64 q ∧ q ≤ n ∧ RowKit.Hid (GetS 93 w0 W0 rb sv B xb (.slice none 0 0) (.slice none 0 0) s2 (ndV y4 kv1 (.slice none 0 0)).toArray l y4.cols kv1 (.slice none 0 0) wr) ∧ RowKit.Hid ((l ++ (manyR numR (n - q) B s2).1, (manyR numR (n - q) B s2).2) = res) ∧ l.length ≤ B.length + 1 ∧ RowKit.Hid (s2.code = 0 → l.length ≤ s2.at_)) (fun iv _ => n - (intOf iv).toNat)
  case atStart => exact ⟨0, [], sa, (.slice none 0 0), rfl, Nat.zero_le _, G, HRES, by simp, Lib.hid (fun _ => by simp)⟩
  case round =>
    clear G HRES hbaa hbab hat
    obtain ⟨q, l, s2, kv1, rfl, hqn, HS, HE, hll, HLC⟩ := hrel
    have hleB := HLE.out
    have k2 : wr.cell? ⟨rb, 2, none⟩ = some (.int .i64 s2.code) := HS.out.rd.cells.2.2.1
    have k3 := HS.out.rd.lt
    have hat : s2.at_ ≤ B.length := HS.out.rd.at_
    by_cases hgo : q < n ∧ s2.code = 0
    · obtain ⟨hqlt, hcode⟩ := hgo
      have hqi : (q : Int) < (n : Int) := by omega
      have hcb : (s2.code == 0) = true := by rw [beq_iff_eq]; exact hcode
      have hl2 := HLC.out hcode
      have HE2 := Lib.hid (manyR_step (n := n - (q + 1)) (l := l) (res := res) (by rw [show n - (q + 1) + 1 = n - q by omega]; exact HE.out) hcode)
      clear HE HLC
      have D := Lib.hid (HS.out.quiet (Below.drew (Below.refl _ _)))
      have HC := Lib.hid (rr_number w0 wr.drew rb sv B s2 D.out.rd)
      obtain ⟨rr, hrr⟩ : ∃ q, q = numR B s2 := ⟨_, rfl⟩
      rw [← hrr] at HC HE2
      have hadv : rr.2.code = 0 → s2.at_ + 1 ≤ rr.2.at_ := fun h => by rw [hrr] at h ⊢; exact (numR_adv h).2
      clear hrr
      obtain ⟨v, s3⟩ := rr
      simp only at HE2 hadv
      go_upto_region 10 with (fail)
      have xc := HS.out.cell (j := 3) rfl
      have HS0 := Lib.hid (show wr.drew.cell? ⟨xb, 3, none⟩ = some kv1 from xc)
      clear xc k2 k3
      skip
      refine wp_region_noPanic ?_
      refine wp_region_Z (fun w' => w'.cell? ⟨xb, 3, none⟩ = some kv1) 7 (by kernel_rfl) ?_
      change wpAnyZ _ _ _ _ _ _ 8 (Array.replicate 8 false) _ _
      refine wpAnyZ_take [5, 1] (i := 0) (v := ?vp40) (by simp only [List.getElem?_toArray, List.getElem?_cons_succ, List.getElem?_cons_zero]; rfl) (by decide +kernel) (fun _ _ _ h => h) (by rfl) ?tp40 ?sp40 ?_
      case tp40 => (intro w' h; clear h; go_simp; try rfl)
      case sp40 => exact HS0.out
      (try simp only [Act.put, List.setIfInBounds_toArray, List.set_cons_zero, List.set_cons_succ])
      refine wpAnyZ_take [5] (i := 1) (v := ?vp41) (by simp only [List.getElem?_toArray, List.getElem?_cons_succ, List.getElem?_cons_zero]; rfl) (by decide +kernel) (fun _ _ _ h => h) (by rfl) ?tp41 ?sp41 ?_
      case tp41 => (intro w' h; have FK := (fun w' (h : w'.cell? ⟨xb, 3, none⟩ = some kv1) => h) w' h; clear h; go_split_ands; go_simp; try rfl)
      case sp41 => exact HS0.out
      (try simp only [Act.put, List.setIfInBounds_toArray, List.set_cons_zero, List.set_cons_succ])
      refine wpAnyZ_take [5, 4, 3] (i := 2) (v := ?vp42) (by simp only [List.getElem?_toArray, List.getElem?_cons_succ, List.getElem?_cons_zero]; rfl) (by decide +kernel) (fun _ _ _ h => h) (by rfl) ?tp42 ?sp42 ?_
      case tp42 => (intro w' h; clear h; go_simp; try rfl)
      case sp42 => exact HS0.out
      (try simp only [Act.put, List.setIfInBounds_toArray, List.set_cons_zero, List.set_cons_succ])
      refine wpAnyZ_one (i := 3) (by decide +kernel) ?_
      refine wpOpK_call (by simp only [List.getElem?_toArray, List.getElem?_cons_succ, List.getElem?_cons_zero]; rfl) (by rfl) (by go_simp; first | exact ⟨rfl, rfl⟩ | rfl) ?_
      refine (HC.out).mono ?_
      rintro e wa ⟨rfl, hs⟩
      have G := Lib.hid (D.out.next tyRr hs)
      clear hs HC
      simp only at G ⊢
      have HSa := Lib.hid (show wa.cell? ⟨xb, 3, none⟩ = some kv1 from G.out.cell rfl)
      refine ⟨_, rfl, .inr HSa.out, ?_⟩
      (try simp only [Act.put, List.setIfInBounds_toArray, List.set_cons_zero, List.set_cons_succ])
      have zx := G.out.lt
      have HSb := Lib.hid (show (wa.alloc (.cells #[.int .i64 v] 3)).cell? ⟨xb, 3, none⟩ = some kv1 from (World.cell?_alloc_past _ _ _ zx).trans HSa.out)
      refine wpAnyZ_one (i := 4) (by decide +kernel) ?_
      refine wpOpK_value (v := .slice (some ⟨wa.heap.size, 0, none⟩) 1 1) (w' := wa.alloc (.cells #[.int .i64 v] 3)) (by simp only [List.getElem?_toArray, List.getElem?_cons_succ, List.getElem?_cons_zero]; rfl) (by rfl) ?mp44 ⟨.inr HSb.out, ?_⟩
      case mp44 => (go_simp; try rfl)
      (try simp only [Act.put, List.setIfInBounds_toArray, List.set_cons_zero, List.set_cons_succ])
      have OWN := Lib.hid (G.out.nd.kown.alloc (.cells #[.int .i64 v] 3))
      have HON := Lib.hid (show ∀ u ∈ [Value.int .i64 v], u.oneCell' = true from fun u hu => by simp at hu; rcases hu with rfl <;> rfl)
      have hz0 : w0.heap.size ≤ wa.heap.size := by have := G.out.nd.zx; omega
      have HPU := Lib.hid (fun v' W2 own gr pl => G.out.pushK tyRr (below_al (Below.refl _ _) (.cells #[.int .i64 v] 3)) (W2 := W2) (v' := v') (m := l.length + 1) (xs := l.map (Value.int .i64) ++ [.int .i64 v]) (k := v) own (by simp) (by simp [itsV, itV]) gr pl)
      refine wpAnyZ_one (i := 5) (by decide +kernel) ?_
      refine wpOpK_append (by simp only [List.getElem?_toArray, List.getElem?_cons_succ, List.getElem?_cons_zero]; rfl) rfl (.tmp 37) (.tmp 40) 45 rfl w0.heap.size 3 i0 _ 1 8 Try.underlying45 HI.out.1 HI.out.2.1 HI.out.2.2.1 HI.out.2.2.2 rfl (by decide) _ l.length _ (by rfl) OWN.out ⟨wa.heap.size, 0, none⟩ 1 1 [.int .i64 v] (by rfl) rfl (World.news_of_block (cs := #[.int .i64 v]) (t := 3) (fr := (0, 0)) (heap_alloc_new _ _)) HON.out (by omega) ?h634 ?hby4 ?hbs4 ?_
      case h634 => (unfold maxLen; omega)
      case hby4 => omega
      case hbs4 => first | omega | (simp; omega)
      intro g cap W2 own gr hg hlt
      have HS3 := Lib.hid (HPU.out _ W2 own gr (hg.imp (fun h => h.symm) (fun h => by rw [h]; rfl)))
      clear own gr hg hlt HPU OWN HON
      have xc2 := HS3.out.cell (j := 3) rfl
      have xf2 := HS3.out.free 3
      have xz2 := HS3.out.lt
      refine ⟨.inr xc2, ?_⟩
      (try simp only [Act.put, List.setIfInBounds_toArray, List.set_cons_zero, List.set_cons_succ])
      refine wpAnyZ_take [] (i := 6) (v := ?vp46) (by simp only [List.getElem?_toArray, List.getElem?_cons_succ, List.getElem?_cons_zero]; rfl) (by decide +kernel) (fun _ _ _ h => h) (by rfl) ?tp46 ?sp46 ?_
      case tp46 => (intro w' h; clear h; go_simp; try rfl)
      case sp46 => exact xc2
      (try simp only [Act.put, List.setIfInBounds_toArray, List.set_cons_zero, List.set_cons_succ])
      refine wpAnyZ_one (i := 7) (by decide +kernel) ?_
      refine wpOpK_skip (w' := W2.setCell ⟨xb, 3, none⟩ (.slice (some ⟨g, 0, none⟩) (l.length + 1) cap)) (by simp only [List.getElem?_toArray, List.getElem?_cons_succ, List.getElem?_cons_zero]; rfl) (by rfl) ?mp47 ⟨.inl rfl, ?_⟩
      case mp47 => (go_simp; try rfl)
      (try simp only [Act.put, List.setIfInBounds_toArray, List.set_cons_zero, List.set_cons_succ])
      refine wpAnyZ_done (by kernel_rfl) (NoPanic.normal ?_) _
      have HS4 := Lib.hid (HS3.out.store tyRr 3 (.slice (some ⟨g, 0, none⟩) (l.length + 1) cap))
      clear xc2 xf2 xz2 zx HS3 G D HS
      go_wp2
      go_roundw
      case rel => exact ⟨q + 1, l ++ [_], s3, _, by go_num, by omega, HS4, HE2, by rw [List.length_append]; simp; omega, Lib.hid (fun h => by rw [List.length_append]; simp; have := hadv h; omega)⟩
      case measure => simp [intOf]; omega
    · have ER := Lib.hid (show res = (l, s2) from by
        by_cases hq : q < n
        · exact manyR_stop HE.out (fun h => hgo ⟨hq, h⟩)
        · have := HE.out; rw [show n - q = 0 by omega] at this; exact manyR_zero this)
      have HG := Lib.hid hgo
      clear hgo HE HLC hll hat hleB
      go_upto_region 8 with (fail)
      go_cut [33] from 24 to 42 (fun sl wx => sl = .bool false ∧ wx = wr)
      case first =>
        by_cases hq : q < n
        · have hqi : (q : Int) < (n : Int) := by omega
          have hcb : (s2.code == 0) = false := beq_eq_false_iff_ne.2 (fun h => HG.out ⟨hq, h⟩)
          clear hq
          go_wp2
          go_meet
          exact ⟨rfl, rfl⟩
        · have hqi : ¬ (q : Int) < (n : Int) := by omega
          clear hq
          go_wp2
          go_meet
          exact ⟨rfl, rfl⟩
      case rest =>
        obtain ⟨rfl, hwc⟩ := hcut
        rw [hwc]
        clear hwc k2 k3 HG hqn
        obtain ⟨W5, rfl⟩ : ∃ x : World, x = wr := ⟨_, rfl⟩
        have EQ := Lib.hid EP.out
        rw [ER.out] at EQ
        obtain ⟨kv5, hkvn⟩ : ∃ v, v = kv1 := ⟨_, rfl⟩
        rw [← hkvn] at HS
        clear hkvn
        obtain ⟨y5, z5, e5, h5⟩ : ∃ y z, partsR 5 B s = (y, z) ∧ GetS 93 w0 W0 rb sv B xb (.slice none 0 0) (.slice none 0 0) z (ndV y kv5 (.slice none 0 0)).toArray y.kids y.cols kv5 (.slice none 0 0) W5 := ⟨{ y4 with kids := l }, _, parts_next E4.out (EQ.out), HS.out⟩
        have E5 := Lib.hid e5
        have H5 := Lib.hid h5
        clear e5 h5 HS E4 EP ER EQ
        go_upto_region 11 with (fail)
        have HC := Lib.hid (rr_item w0 W5 rb sv B z5 H5.out.rd)
        obtain ⟨ra, hra⟩ : ∃ r, r = itR B z5 := ⟨_, rfl⟩
        rw [← hra] at HC
        have HRa := Lib.hid hra
        obtain ⟨va, sa⟩ := ra
        clear hra
        obtain ⟨ka, na, da, la, ha⟩ := va
        go_wp2_with fail
        refine HC.out.mono ?_
        clear HC
        rintro e wa ⟨rfl, hs⟩
        have G := Lib.hid (H5.out.next tyRr hs)
        clear hs
        simp only [itV] at G ⊢
        clear H5
        have c4 := G.out.cell (j := 4) rfl
        have f4 := G.out.free 4
        have c5 := G.out.cell (j := 5) rfl
        have f5 := G.out.free 5
        have c6 := G.out.cell (j := 6) rfl
        have f6 := G.out.free 6
        have c7 := G.out.cell (j := 7) rfl
        have f7 := G.out.free 7
        have c8 := G.out.cell (j := 8) rfl
        have f8 := G.out.free 8
        have zx := G.out.lt
        have HN := Lib.hid ((((((G.out.store tyRr 4 (.int .i8 ka)).store tyRr 5 (.int .i64 na)).store tyRr 6 (.int .i64 da)).store tyRr 7 (.int .i64 la)).store tyRr 8 (.int .i64 ha)))
        go_upto_region 12 with (fail)
        generalize hX : World.setCell _ _ _ = X6 at HN ⊢
        clear hX zx G c4 f4 c5 f5 c6 f6 c7 f7 c8 f8
        obtain ⟨y6, z6, e6, h6⟩ : ∃ y z, partsR 6 B s = (y, z) ∧ GetS 93 w0 W0 rb sv B xb (.slice none 0 0) (.slice none 0 0) z (ndV y kv5 (.slice none 0 0)).toArray y.kids y.cols kv5 (.slice none 0 0) X6 := ⟨{ y5 with iw := ⟨ka, na, da, la, ha⟩ }, _, parts_next E5.out (by show (_, _) = _; rw [← HRa.out]), HN.out⟩
        have E6 := Lib.hid e6
        have H6 := Lib.hid h6
        clear e6 h6 HN E5 HRa 
        have HC := Lib.hid (rr_item w0 X6 rb sv B z6 H6.out.rd)
        obtain ⟨ra, hra⟩ : ∃ r, r = itR B z6 := ⟨_, rfl⟩
        rw [← hra] at HC
        have HRa := Lib.hid hra
        obtain ⟨va, sa⟩ := ra
        clear hra
        obtain ⟨ka, na, da, la, ha⟩ := va
        go_wp2_with fail
        refine HC.out.mono ?_
        clear HC
        rintro e wa ⟨rfl, hs⟩
        have G := Lib.hid (H6.out.next tyRr hs)
        clear hs
        simp only [itV] at G ⊢
        clear H6
        have c9 := G.out.cell (j := 9) rfl
        have f9 := G.out.free 9
        have c10 := G.out.cell (j := 10) rfl
        have f10 := G.out.free 10
        have c11 := G.out.cell (j := 11) rfl
        have f11 := G.out.free 11
        have c12 := G.out.cell (j := 12) rfl
        have f12 := G.out.free 12
        have c13 := G.out.cell (j := 13) rfl
        have f13 := G.out.free 13
        have zx := G.out.lt
        have HN := Lib.hid ((((((G.out.store tyRr 9 (.int .i8 ka)).store tyRr 10 (.int .i64 na)).store tyRr 11 (.int .i64 da)).store tyRr 12 (.int .i64 la)).store tyRr 13 (.int .i64 ha)))
        go_upto_region 13 with (fail)
        generalize hX : World.setCell _ _ _ = X7 at HN ⊢
        clear hX zx G c9 f9 c10 f10 c11 f11 c12 f12 c13 f13
        obtain ⟨y7, z7, e7, h7⟩ : ∃ y z, partsR 7 B s = (y, z) ∧ GetS 93 w0 W0 rb sv B xb (.slice none 0 0) (.slice none 0 0) z (ndV y kv5 (.slice none 0 0)).toArray y.kids y.cols kv5 (.slice none 0 0) X7 := ⟨{ y6 with ih := ⟨ka, na, da, la, ha⟩ }, _, parts_next E6.out (by show (_, _) = _; rw [← HRa.out]), HN.out⟩
        have E7 := Lib.hid e7
        have H7 := Lib.hid h7
        clear e7 h7 HN E6 HRa 
        have HC := Lib.hid (rr_number w0 X7 rb sv B z7 H7.out.rd)
        obtain ⟨ra, hra⟩ : ∃ r, r = numR B z7 := ⟨_, rfl⟩
        rw [← hra] at HC
        have hba := numR_range hby z7
        rw [← hra] at hba
        have HRa := Lib.hid hra
        obtain ⟨va, sa⟩ := ra
        simp only at hba
        obtain ⟨hbaa, hbab⟩ := hba
        clear hra
        go_wp2_with fail
        refine HC.out.mono ?_
        clear HC
        rintro e wa ⟨rfl, hs⟩
        have G := Lib.hid (H7.out.next tyRr hs)
        clear hs
        simp only [itV] at G ⊢
        clear H7
        have c14 := G.out.cell (j := 14) rfl
        have f14 := G.out.free 14
        have zx := G.out.lt
        have HN := Lib.hid ((G.out.store tyRr 14 (.int .i64 va)))
        go_wp2
        generalize hX : World.setCell _ _ _ = X8 at HN ⊢
        clear hX zx G c14 f14
        obtain ⟨y8, z8, e8, h8⟩ : ∃ y z, partsR 8 B s = (y, z) ∧ GetS 93 w0 W0 rb sv B xb (.slice none 0 0) (.slice none 0 0) z (ndV y kv5 (.slice none 0 0)).toArray y.kids y.cols kv5 (.slice none 0 0) X8 := ⟨{ y7 with gap := va }, _, parts_next E7.out (by show (_, _) = _; rw [← HRa.out]), HN.out⟩
        have E8 := Lib.hid e8
        have H8 := Lib.hid h8
        clear e8 h8 HN E7 HRa hbaa hbab
        refine wp_loop_rounds 5 ?_
        rw [rounds_succ]
        have HC := Lib.hid (rr_number w0 X8 rb sv B z8 H8.out.rd)
        obtain ⟨ra, hra⟩ : ∃ r, r = numR B z8 := ⟨_, rfl⟩
        rw [← hra] at HC
        have hba := numR_range hby z8
        rw [← hra] at hba
        have HRa := Lib.hid hra
        obtain ⟨va, sa⟩ := ra
        simp only at hba
        obtain ⟨hbaa, hbab⟩ := hba
        clear hra
        go_wp2_with fail
        refine HC.out.mono ?_
        clear HC
        rintro e wa ⟨rfl, hs⟩
        have Ga := Lib.hid (H8.out.next tyRr hs)
        clear hs
        simp only [itV] at Ga ⊢
        have c15 := Ga.out.cell (j := 15) rfl
        have f15 := Ga.out.free 15
        have zx := Ga.out.lt
        have HNa := Lib.hid (Ga.out.store tyRr 15 (.int .i64 va))
        go_wp2
        generalize hX : World.setCell _ _ _ = XXa at HNa ⊢
        clear hX zx Ga c15 f15 H8
        rw [rounds_succ]
        have HC := Lib.hid (rr_number w0 XXa rb sv B sa HNa.out.rd)
        obtain ⟨rb, hrb⟩ : ∃ r, r = numR B sa := ⟨_, rfl⟩
        rw [← hrb] at HC
        have hbb := numR_range hby sa
        rw [← hrb] at hbb
        have HRb := Lib.hid hrb
        obtain ⟨vb, sb⟩ := rb
        simp only at hbb
        obtain ⟨hbba, hbbb⟩ := hbb
        clear hrb
        go_wp2_with fail
        refine HC.out.mono ?_
        clear HC
        rintro e wb ⟨rfl, hs⟩
        have Gb := Lib.hid (HNa.out.next tyRr hs)
        clear hs
        simp only [itV] at Gb ⊢
        have c16 := Gb.out.cell (j := 16) rfl
        have f16 := Gb.out.free 16
        have zx := Gb.out.lt
        have HNb := Lib.hid (Gb.out.store tyRr 16 (.int .i64 vb))
        go_wp2
        generalize hX : World.setCell _ _ _ = XXb at HNb ⊢
        clear hX zx Gb c16 f16 HNa
        rw [rounds_succ]
        have HC := Lib.hid (rr_number w0 XXb rb sv B sb HNb.out.rd)
        obtain ⟨rc, hrc⟩ : ∃ r, r = numR B sb := ⟨_, rfl⟩
        rw [← hrc] at HC
        have hbc := numR_range hby sb
        rw [← hrc] at hbc
        have HRc := Lib.hid hrc
        obtain ⟨vc, sc⟩ := rc
        simp only at hbc
        obtain ⟨hbca, hbcb⟩ := hbc
        clear hrc
        go_wp2_with fail
        refine HC.out.mono ?_
        clear HC
        rintro e wc ⟨rfl, hs⟩
        have Gc := Lib.hid (HNb.out.next tyRr hs)
        clear hs
        simp only [itV] at Gc ⊢
        have c17 := Gc.out.cell (j := 17) rfl
        have f17 := Gc.out.free 17
        have zx := Gc.out.lt
        have HNc := Lib.hid (Gc.out.store tyRr 17 (.int .i64 vc))
        go_wp2
        generalize hX : World.setCell _ _ _ = XXc at HNc ⊢
        clear hX zx Gc c17 f17 HNb
        rw [rounds_succ]
        have HC := Lib.hid (rr_number w0 XXc rb sv B sc HNc.out.rd)
        obtain ⟨rd, hrd⟩ : ∃ r, r = numR B sc := ⟨_, rfl⟩
        rw [← hrd] at HC
        have hbd := numR_range hby sc
        rw [← hrd] at hbd
        have HRd := Lib.hid hrd
        obtain ⟨vd, sd⟩ := rd
        simp only at hbd
        obtain ⟨hbda, hbdb⟩ := hbd
        clear hrd
        go_wp2_with fail
        refine HC.out.mono ?_
        clear HC
        rintro e wd ⟨rfl, hs⟩
        have Gd := Lib.hid (HNc.out.next tyRr hs)
        clear hs
        simp only [itV] at Gd ⊢
        have c18 := Gd.out.cell (j := 18) rfl
        have f18 := Gd.out.free 18
        have zx := Gd.out.lt
        have HNd := Lib.hid (Gd.out.store tyRr 18 (.int .i64 vd))
        go_wp2
        generalize hX : World.setCell _ _ _ = XXd at HNd ⊢
        clear hX zx Gd c18 f18 HNc
        rw [rounds_succ]
        go_upto_region 18 with (fail)
        obtain ⟨y9, z9, e9, h9⟩ : ∃ y z, partsR 9 B s = (y, z) ∧ GetS 93 w0 W0 rb sv B xb (.slice none 0 0) (.slice none 0 0) z (ndV y kv5 (.slice none 0 0)).toArray y.kids y.cols kv5 (.slice none 0 0) XXd := ⟨{ y8 with p0 := va, p1 := vb, p2 := vc, p3 := vd }, _, parts_next E8.out (by show (_, _) = _; rw [← HRa.out]; simp only; rw [← HRb.out]; simp only; rw [← HRc.out]; simp only; rw [← HRd.out]), HNd.out⟩
        have E9 := Lib.hid e9
        have H9 := Lib.hid h9
        clear e9 h9 HNd E8 HRa hbaa hbab HRb hbba hbbb HRc hbca hbcb HRd hbda hbdb
        have HC := Lib.hid (rr_octet w0 XXd rb sv B z9 127 H9.out.rd)
        obtain ⟨ra, hra⟩ : ∃ r, r = octR 127 B z9 := ⟨_, rfl⟩
        rw [← hra] at HC
        have hba := octR_u2 127 hby z9 (by decide)
        rw [← hra] at hba
        have HRa := Lib.hid hra
        obtain ⟨va, sa⟩ := ra
        simp only at hba
        obtain ⟨hbaa, hbab, hbac⟩ := hba
        clear hra
        go_wp2_with fail
        refine HC.out.mono ?_
        clear HC
        rintro e wa ⟨rfl, hs⟩
        have Ga := Lib.hid (H9.out.next tyRr hs)
        clear hs
        simp only [itV] at Ga ⊢
        clear H9
        have c19 := Ga.out.cell (j := 19) rfl
        have f19 := Ga.out.free 19
        have zx := Ga.out.lt
        have HNa := Lib.hid ((Ga.out.store tyRr 19 (.int .i8 va)))
        go_upto_region 19 with (fail)
        generalize hX : World.setCell _ _ _ = XXa at HNa ⊢
        clear hX zx Ga c19 f19
        have HC := Lib.hid (rr_octet w0 XXa rb sv B sa 127 HNa.out.rd)
        obtain ⟨rb, hrb⟩ : ∃ r, r = octR 127 B sa := ⟨_, rfl⟩
        rw [← hrb] at HC
        have hbb := octR_u2 127 hby sa (by decide)
        rw [← hrb] at hbb
        have HRb := Lib.hid hrb
        obtain ⟨vb, sb⟩ := rb
        simp only at hbb
        obtain ⟨hbba, hbbb, hbbc⟩ := hbb
        clear hrb
        go_wp2_with fail
        refine HC.out.mono ?_
        clear HC
        rintro e wb ⟨rfl, hs⟩
        have Gb := Lib.hid (HNa.out.next tyRr hs)
        clear hs
        simp only [itV] at Gb ⊢
        clear HNa
        have c20 := Gb.out.cell (j := 20) rfl
        have f20 := Gb.out.free 20
        have zx := Gb.out.lt
        have HNb := Lib.hid ((Gb.out.store tyRr 20 (.int .i8 vb)))
        go_upto_region 20 with (fail)
        generalize hX : World.setCell _ _ _ = XXb at HNb ⊢
        clear hX zx Gb c20 f20
        have HC := Lib.hid (rr_octet w0 XXb rb sv B sb 127 HNb.out.rd)
        obtain ⟨rc, hrc⟩ : ∃ r, r = octR 127 B sb := ⟨_, rfl⟩
        rw [← hrc] at HC
        have hbc := octR_u2 127 hby sb (by decide)
        rw [← hrc] at hbc
        have HRc := Lib.hid hrc
        obtain ⟨vc, sc⟩ := rc
        simp only at hbc
        obtain ⟨hbca, hbcb, hbcc⟩ := hbc
        clear hrc
        go_wp2_with fail
        refine HC.out.mono ?_
        clear HC
        rintro e wc ⟨rfl, hs⟩
        have Gc := Lib.hid (HNb.out.next tyRr hs)
        clear hs
        simp only [itV] at Gc ⊢
        clear HNb
        have c21 := Gc.out.cell (j := 21) rfl
        have f21 := Gc.out.free 21
        have zx := Gc.out.lt
        have HNc := Lib.hid ((Gc.out.store tyRr 21 (.int .i8 vc)))
        go_upto_region 21 with (fail)
        generalize hX : World.setCell _ _ _ = XXc at HNc ⊢
        clear hX zx Gc c21 f21
        have HC := Lib.hid (rr_octet w0 XXc rb sv B sc 127 HNc.out.rd)
        obtain ⟨rd, hrd⟩ : ∃ r, r = octR 127 B sc := ⟨_, rfl⟩
        rw [← hrd] at HC
        have hbd := octR_u2 127 hby sc (by decide)
        rw [← hrd] at hbd
        have HRd := Lib.hid hrd
        obtain ⟨vd, sd⟩ := rd
        simp only at hbd
        obtain ⟨hbda, hbdb, hbdc⟩ := hbd
        clear hrd
        go_wp2_with fail
        refine HC.out.mono ?_
        clear HC
        rintro e wd ⟨rfl, hs⟩
        have Gd := Lib.hid (HNc.out.next tyRr hs)
        clear hs
        simp only [itV] at Gd ⊢
        clear HNc
        have c23 := Gd.out.cell (j := 23) rfl
        have f23 := Gd.out.free 23
        have zx := Gd.out.lt
        have HNd := Lib.hid ((Gd.out.store tyRr 23 (.int .i8 vd)))
        go_upto_region 22 with (fail)
        generalize hX : World.setCell _ _ _ = XXd at HNd ⊢
        clear hX zx Gd c23 f23
        have HC := Lib.hid (rr_octet w0 XXd rb sv B sd 255 HNd.out.rd)
        obtain ⟨re, hre⟩ : ∃ r, r = octR 255 B sd := ⟨_, rfl⟩
        rw [← hre] at HC
        have hbe := octR_u2 255 hby sd (by decide)
        rw [← hre] at hbe
        have HRe := Lib.hid hre
        obtain ⟨ve, se⟩ := re
        simp only at hbe
        obtain ⟨hbea, hbeb, hbec⟩ := hbe
        clear hre
        go_wp2_with fail
        refine HC.out.mono ?_
        clear HC
        rintro e we ⟨rfl, hs⟩
        have Ge := Lib.hid (HNd.out.next tyRr hs)
        clear hs
        simp only [itV] at Ge ⊢
        clear HNd
        have c33 := Ge.out.cell (j := 33) rfl
        have f33 := Ge.out.free 33
        have zx := Ge.out.lt
        have HNe := Lib.hid ((Ge.out.store tyRr 33 (.int .u8 ve)))
        go_upto_region 23 with (fail)
        generalize hX : World.setCell _ _ _ = XXe at HNe ⊢
        clear hX zx Ge c33 f33
        obtain ⟨y10, z10, e10, h10⟩ : ∃ y z, partsR 10 B s = (y, z) ∧ GetS 93 w0 W0 rb sv B xb (.slice none 0 0) (.slice none 0 0) z (ndV y kv5 (.slice none 0 0)).toArray y.kids y.cols kv5 (.slice none 0 0) XXe := ⟨{ y9 with border := va, align := vb, cross := vc, wrap := vd, flags := ve }, _, parts_next E9.out (by show (_, _) = _; rw [← HRa.out]; simp only; rw [← HRb.out]; simp only; rw [← HRc.out]; simp only; rw [← HRd.out]; simp only; rw [← HRe.out]), HNe.out⟩
        have E10 := Lib.hid e10
        have H10 := Lib.hid h10
        clear e10 h10 HNe E9 HRa hbaa hbab hbac HRb hbba hbbb hbbc HRc hbca hbcb hbcc HRd hbda hbdb hbdc HRe hbea hbeb hbec
        have HC := Lib.hid (rr_number w0 XXe rb sv B z10 H10.out.rd)
        obtain ⟨ra, hra⟩ : ∃ r, r = numR B z10 := ⟨_, rfl⟩
        rw [← hra] at HC
        have hba := numR_range hby z10
        rw [← hra] at hba
        have HRa := Lib.hid hra
        obtain ⟨va, sa⟩ := ra
        simp only at hba
        obtain ⟨hbaa, hbab⟩ := hba
        clear hra
        go_wp2_with fail
        refine HC.out.mono ?_
        clear HC
        rintro e wa ⟨rfl, hs⟩
        have Ga := Lib.hid (H10.out.next tyRr hs)
        clear hs
        simp only [itV] at Ga ⊢
        clear H10
        have c24 := Ga.out.cell (j := 24) rfl
        have f24 := Ga.out.free 24
        have zx := Ga.out.lt
        have HNa := Lib.hid ((Ga.out.store tyRr 24 (.int .i32 va)))
        go_upto_region 24 with (fail)
        generalize hX : World.setCell _ _ _ = XXa at HNa ⊢
        clear hX zx Ga c24 f24
        have HC := Lib.hid (rr_number w0 XXa rb sv B sa HNa.out.rd)
        obtain ⟨rb, hrb⟩ : ∃ r, r = numR B sa := ⟨_, rfl⟩
        rw [← hrb] at HC
        have hbb := numR_range hby sa
        rw [← hrb] at hbb
        have HRb := Lib.hid hrb
        obtain ⟨vb, sb⟩ := rb
        simp only at hbb
        obtain ⟨hbba, hbbb⟩ := hbb
        clear hrb
        go_wp2_with fail
        refine HC.out.mono ?_
        clear HC
        rintro e wb ⟨rfl, hs⟩
        have Gb := Lib.hid (HNa.out.next tyRr hs)
        clear hs
        simp only [itV] at Gb ⊢
        clear HNa
        have c25 := Gb.out.cell (j := 25) rfl
        have f25 := Gb.out.free 25
        have zx := Gb.out.lt
        have HNb := Lib.hid ((Gb.out.store tyRr 25 (.int .i32 vb)))
        go_upto_region 25 with (fail)
        generalize hX : World.setCell _ _ _ = XXb at HNb ⊢
        clear hX zx Gb c25 f25
        have HC := Lib.hid (rr_octet w0 XXb rb sv B sb 255 HNb.out.rd)
        obtain ⟨rc, hrc⟩ : ∃ r, r = octR 255 B sb := ⟨_, rfl⟩
        rw [← hrc] at HC
        have hbc := octR_u2 255 hby sb (by decide)
        rw [← hrc] at hbc
        have HRc := Lib.hid hrc
        obtain ⟨vc, sc⟩ := rc
        simp only at hbc
        obtain ⟨hbca, hbcb, hbcc⟩ := hbc
        clear hrc
        go_wp2_with fail
        refine HC.out.mono ?_
        clear HC
        rintro e wc ⟨rfl, hs⟩
        have Gc := Lib.hid (HNb.out.next tyRr hs)
        clear hs
        simp only [itV] at Gc ⊢
        clear HNb
        have c26 := Gc.out.cell (j := 26) rfl
        have f26 := Gc.out.free 26
        have zx := Gc.out.lt
        have HNc := Lib.hid ((Gc.out.store tyRr 26 (.int .u8 vc)))
        go_upto_region 26 with (fail)
        generalize hX : World.setCell _ _ _ = XXc at HNc ⊢
        clear hX zx Gc c26 f26
        have HC := Lib.hid (rr_octet w0 XXc rb sv B sc 255 HNc.out.rd)
        obtain ⟨rd, hrd⟩ : ∃ r, r = octR 255 B sc := ⟨_, rfl⟩
        rw [← hrd] at HC
        have hbd := octR_u2 255 hby sc (by decide)
        rw [← hrd] at hbd
        have HRd := Lib.hid hrd
        obtain ⟨vd, sd⟩ := rd
        simp only at hbd
        obtain ⟨hbda, hbdb, hbdc⟩ := hbd
        clear hrd
        go_wp2_with fail
        refine HC.out.mono ?_
        clear HC
        rintro e wd ⟨rfl, hs⟩
        have Gd := Lib.hid (HNc.out.next tyRr hs)
        clear hs
        simp only [itV] at Gd ⊢
        clear HNc
        have c27 := Gd.out.cell (j := 27) rfl
        have f27 := Gd.out.free 27
        have zx := Gd.out.lt
        have HNd := Lib.hid ((Gd.out.store tyRr 27 (.int .u8 vd)))
        go_upto_region 27 with (fail)
        generalize hX : World.setCell _ _ _ = XXd at HNd ⊢
        clear hX zx Gd c27 f27
        obtain ⟨y11, z11, e11, h11⟩ : ∃ y z, partsR 11 B s = (y, z) ∧ GetS 93 w0 W0 rb sv B xb (.slice none 0 0) (.slice none 0 0) z (ndV y kv5 (.slice none 0 0)).toArray y.kids y.cols kv5 (.slice none 0 0) XXd := ⟨{ y10 with fg := va, bg := vb, add := vc, drop := vd }, _, parts_next E10.out (by show (_, _) = _; rw [← HRa.out]; simp only; rw [← HRb.out]; simp only; rw [← HRc.out]; simp only; rw [← HRd.out]), HNd.out⟩
        have E11 := Lib.hid e11
        have H11 := Lib.hid h11
        clear e11 h11 HNd E10 HRa hbaa hbab HRb hbba hbbb HRc hbca hbcb hbcc HRd hbda hbdb hbdc
        have hnil : y11.cols = [] := by have := (partsR_nil B s).2; rw [E11.out] at this; exact this
        rw [hnil] at H11
        clear hnil
        have HC := Lib.hid (rr_number w0 XXd rb sv B z11 H11.out.rd)
        obtain ⟨ra, hra⟩ : ∃ r, r = numR B z11 := ⟨_, rfl⟩
        rw [← hra] at HC
        have hba := numR_range hby z11
        rw [← hra] at hba
        have HRa := Lib.hid hra
        obtain ⟨va, sa⟩ := ra
        simp only at hba
        obtain ⟨hbaa, hbab⟩ := hba
        clear hra
        obtain ⟨n, rfl⟩ := Int.eq_ofNat_of_zero_le hbaa
        obtain ⟨res, hres⟩ : ∃ r, r = manyR itR n B sa := ⟨_, rfl⟩
        have EP := Lib.hid (show partR y11 11 B z11 = ({ y11 with cols := res.1 }, res.2) from by show (_, _) = _; rw [← HRa.out]; simp only [Int.toNat_natCast]; rw [← hres])
        have HRES := Lib.hid (show (([] : List It) ++ (manyR itR (n - 0) B sa).1, (manyR itR (n - 0) B sa).2) = res by rw [Nat.sub_zero, List.nil_append, hres])
        clear hres HRa
        go_wp2_with fail
        refine HC.out.mono ?_
        clear HC
        rintro e wa ⟨rfl, hs⟩
        have G := Lib.hid (H11.out.next tyRr hs)
        clear hs
        simp only [itV] at G ⊢
        clear H11
        have hat : sa.at_ ≤ B.length := G.out.rd.at_
        have hnb : n < 2147483648 := by omega
        go_upto_region 29 with (fail)
        go_loopw [7] (fun iv wr => ∃ (q : Nat) (l : List It) (s2 : Rs) (kv1 : Value), iv = .int .i64 q ∧ q ≤ n ∧ RowKit.Hid (GetS 93 w0 W0 rb sv B xb (.slice none 0 0) (.slice none 0 0) s2 (ndV y11 kv5 kv1).toArray y11.kids l kv5 kv1 wr) ∧ RowKit.Hid ((l ++ (manyR itR (n - q) B s2).1, (manyR itR (n - q) B s2).2) = res) ∧ l.length ≤ B.length + 1 ∧ RowKit.Hid (s2.code = 0 → l.length ≤ s2.at_)) (fun iv _ => n - (intOf iv).toNat)
        case atStart => exact ⟨0, [], sa, (.slice none 0 0), rfl, Nat.zero_le _, G, HRES, by simp, Lib.hid (fun _ => by simp)⟩
        case round =>
          clear G HRES hbaa hbab hat
          obtain ⟨q, l, s2, kv1, rfl, hqn, HS, HE, hll, HLC⟩ := hrel
          have hleB := HLE.out
          have k2 : wr.cell? ⟨rb, 2, none⟩ = some (.int .i64 s2.code) := HS.out.rd.cells.2.2.1
          have k3 := HS.out.rd.lt
          have hat : s2.at_ ≤ B.length := HS.out.rd.at_
          by_cases hgo : q < n ∧ s2.code = 0
          · obtain ⟨hqlt, hcode⟩ := hgo
            have hqi : (q : Int) < (n : Int) := by omega
            have hcb : (s2.code == 0) = true := by rw [beq_iff_eq]; exact hcode
            have hl2 := HLC.out hcode
            have HE2 := Lib.hid (manyR_step (n := n - (q + 1)) (l := l) (res := res) (by rw [show n - (q + 1) + 1 = n - q by omega]; exact HE.out) hcode)
            clear HE HLC
            have D := Lib.hid (HS.out.quiet (Below.drew (Below.refl _ _)))
            have HC := Lib.hid (rr_item w0 wr.drew rb sv B s2 D.out.rd)
            obtain ⟨rr, hrr⟩ : ∃ q, q = itR B s2 := ⟨_, rfl⟩
            rw [← hrr] at HC HE2
            have hadv : rr.2.code = 0 → s2.at_ + 1 ≤ rr.2.at_ := fun h => by rw [hrr] at h ⊢; exact (itR_adv h).2
            clear hrr
            obtain ⟨v, s3⟩ := rr
            simp only at HE2 hadv
            obtain ⟨vk, vn, vd, vl, vh⟩ := v
            go_upto_region 31 with (fail)
            have xc := HS.out.cell (j := 28) rfl
            have HS0 := Lib.hid (show wr.drew.cell? ⟨xb, 28, none⟩ = some kv1 from xc)
            clear xc k2 k3
            skip
            refine wp_region_noPanic ?_
            refine wp_region_Z (fun w' => w'.cell? ⟨xb, 28, none⟩ = some kv1) 7 (by kernel_rfl) ?_
            change wpAnyZ _ _ _ _ _ _ 8 (Array.replicate 8 false) _ _
            refine wpAnyZ_take [5, 1] (i := 0) (v := ?vp110) (by simp only [List.getElem?_toArray, List.getElem?_cons_succ, List.getElem?_cons_zero]; rfl) (by decide +kernel) (fun _ _ _ h => h) (by rfl) ?tp110 ?sp110 ?_
            case tp110 => (intro w' h; clear h; go_simp; try rfl)
            case sp110 => exact HS0.out
            (try simp only [Act.put, List.setIfInBounds_toArray, List.set_cons_zero, List.set_cons_succ])
            refine wpAnyZ_take [5] (i := 1) (v := ?vp111) (by simp only [List.getElem?_toArray, List.getElem?_cons_succ, List.getElem?_cons_zero]; rfl) (by decide +kernel) (fun _ _ _ h => h) (by rfl) ?tp111 ?sp111 ?_
            case tp111 => (intro w' h; have FK := (fun w' (h : w'.cell? ⟨xb, 28, none⟩ = some kv1) => h) w' h; clear h; go_split_ands; go_simp; try rfl)
            case sp111 => exact HS0.out
            (try simp only [Act.put, List.setIfInBounds_toArray, List.set_cons_zero, List.set_cons_succ])
            refine wpAnyZ_take [5, 4, 3] (i := 2) (v := ?vp112) (by simp only [List.getElem?_toArray, List.getElem?_cons_succ, List.getElem?_cons_zero]; rfl) (by decide +kernel) (fun _ _ _ h => h) (by rfl) ?tp112 ?sp112 ?_
            case tp112 => (intro w' h; clear h; go_simp; try rfl)
            case sp112 => exact HS0.out
            (try simp only [Act.put, List.setIfInBounds_toArray, List.set_cons_zero, List.set_cons_succ])
            refine wpAnyZ_one (i := 3) (by decide +kernel) ?_
            refine wpOpK_call (by simp only [List.getElem?_toArray, List.getElem?_cons_succ, List.getElem?_cons_zero]; rfl) (by rfl) (by go_simp; first | exact ⟨rfl, rfl⟩ | rfl) ?_
            refine (HC.out).mono ?_
            rintro e wa ⟨rfl, hs⟩
            have G := Lib.hid (D.out.next tyRr hs)
            clear hs HC
            simp only [itV] at G ⊢
            have HSa := Lib.hid (show wa.cell? ⟨xb, 28, none⟩ = some kv1 from G.out.cell rfl)
            refine ⟨_, rfl, .inr HSa.out, ?_⟩
            (try simp only [Act.put, List.setIfInBounds_toArray, List.set_cons_zero, List.set_cons_succ])
            have zx := G.out.lt
            have HSb := Lib.hid (show (wa.alloc (.cells #[.int .i8 vk, .int .i64 vn, .int .i64 vd, .int .i64 vl, .int .i64 vh] 57)).cell? ⟨xb, 28, none⟩ = some kv1 from (World.cell?_alloc_past _ _ _ zx).trans HSa.out)
            refine wpAnyZ_one (i := 4) (by decide +kernel) ?_
            refine wpOpK_value (v := .slice (some ⟨wa.heap.size, 0, none⟩) 1 1) (w' := wa.alloc (.cells #[.int .i8 vk, .int .i64 vn, .int .i64 vd, .int .i64 vl, .int .i64 vh] 57)) (by simp only [List.getElem?_toArray, List.getElem?_cons_succ, List.getElem?_cons_zero]; rfl) (by rfl) ?mp114 ⟨.inr HSb.out, ?_⟩
            case mp114 => (go_simp; try rfl)
            (try simp only [Act.put, List.setIfInBounds_toArray, List.set_cons_zero, List.set_cons_succ])
            have OWN := Lib.hid (G.out.nd.cown.alloc (.cells #[.int .i8 vk, .int .i64 vn, .int .i64 vd, .int .i64 vl, .int .i64 vh] 57))
            have HON := Lib.hid (show ∀ u ∈ [Value.int .i8 vk, Value.int .i64 vn, Value.int .i64 vd, Value.int .i64 vl, Value.int .i64 vh], u.oneCell' = true from fun u hu => by simp at hu; rcases hu with rfl | rfl | rfl | rfl | rfl <;> rfl)
            have hz0 : w0.heap.size ≤ wa.heap.size := by have := G.out.nd.zx; omega
            have HPU := Lib.hid (fun v' W2 own gr pl => G.out.pushC tyRr (below_al (Below.refl _ _) (.cells #[.int .i8 vk, .int .i64 vn, .int .i64 vd, .int .i64 vl, .int .i64 vh] 57)) (W2 := W2) (v' := v') (m := l.length + 1) (xs := itsV l ++ [.int .i8 vk, .int .i64 vn, .int .i64 vd, .int .i64 vl, .int .i64 vh]) (k := ⟨vk, vn, vd, vl, vh⟩) own (by simp) (by simp [itsV, itV]) gr pl)
            refine wpAnyZ_one (i := 5) (by decide +kernel) ?_
            refine wpOpK_append (by simp only [List.getElem?_toArray, List.getElem?_cons_succ, List.getElem?_cons_zero]; rfl) rfl (.tmp 116) (.tmp 119) 62 rfl w0.heap.size 57 j0 _ 5 40 Try.underlying62 HJ.out.1 HJ.out.2.1 HJ.out.2.2.1 HJ.out.2.2.2 rfl (by decide) _ l.length _ (by rfl) OWN.out ⟨wa.heap.size, 0, none⟩ 1 1 [.int .i8 vk, .int .i64 vn, .int .i64 vd, .int .i64 vl, .int .i64 vh] (by rfl) rfl (World.news_of_block (cs := #[.int .i8 vk, .int .i64 vn, .int .i64 vd, .int .i64 vl, .int .i64 vh]) (t := 57) (fr := (0, 0)) (heap_alloc_new _ _)) HON.out (by omega) ?h6311 ?hby11 ?hbs11 ?_
            case h6311 => (unfold maxLen; omega)
            case hby11 => omega
            case hbs11 => first | omega | (simp; omega)
            intro g cap W2 own gr hg hlt
            have HS3 := Lib.hid (HPU.out _ W2 own gr (hg.imp (fun h => h.symm) (fun h => by rw [h]; rfl)))
            clear own gr hg hlt HPU OWN HON
            have xc2 := HS3.out.cell (j := 28) rfl
            have xf2 := HS3.out.free 28
            have xz2 := HS3.out.lt
            refine ⟨.inr xc2, ?_⟩
            (try simp only [Act.put, List.setIfInBounds_toArray, List.set_cons_zero, List.set_cons_succ])
            refine wpAnyZ_take [] (i := 6) (v := ?vp116) (by simp only [List.getElem?_toArray, List.getElem?_cons_succ, List.getElem?_cons_zero]; rfl) (by decide +kernel) (fun _ _ _ h => h) (by rfl) ?tp116 ?sp116 ?_
            case tp116 => (intro w' h; clear h; go_simp; try rfl)
            case sp116 => exact xc2
            (try simp only [Act.put, List.setIfInBounds_toArray, List.set_cons_zero, List.set_cons_succ])
            refine wpAnyZ_one (i := 7) (by decide +kernel) ?_
            refine wpOpK_skip (w' := W2.setCell ⟨xb, 28, none⟩ (.slice (some ⟨g, 0, none⟩) (l.length + 1) cap)) (by simp only [List.getElem?_toArray, List.getElem?_cons_succ, List.getElem?_cons_zero]; rfl) (by rfl) ?mp117 ⟨.inl rfl, ?_⟩
            case mp117 => (go_simp; try rfl)
            (try simp only [Act.put, List.setIfInBounds_toArray, List.set_cons_zero, List.set_cons_succ])
            refine wpAnyZ_done (by kernel_rfl) (NoPanic.normal ?_) _
            have HS4 := Lib.hid (HS3.out.store tyRr 28 (.slice (some ⟨g, 0, none⟩) (l.length + 1) cap))
            clear xc2 xf2 xz2 zx HS3 G D HS
            go_wp2
            go_roundw
            case rel => exact ⟨q + 1, l ++ [_], s3, _, by go_num, by omega, HS4, HE2, by rw [List.length_append]; simp; omega, Lib.hid (fun h => by rw [List.length_append]; simp; have := hadv h; omega)⟩
            case measure => simp [intOf]; omega
          · have ER := Lib.hid (show res = (l, s2) from by
              by_cases hq : q < n
              · exact manyR_stop HE.out (fun h => hgo ⟨hq, h⟩)
              · have := HE.out; rw [show n - q = 0 by omega] at this; exact manyR_zero this)
            have HG := Lib.hid hgo
            clear hgo HE HLC hll hat hleB
            go_upto_region 29 with (fail)
            go_cut [112] from 103 to 121 (fun sl wx => sl = .bool false ∧ wx = wr)
            case first =>
              by_cases hq : q < n
              · have hqi : (q : Int) < (n : Int) := by omega
                have hcb : (s2.code == 0) = false := beq_eq_false_iff_ne.2 (fun h => HG.out ⟨hq, h⟩)
                clear hq
                go_wp2
                go_meet
                exact ⟨rfl, rfl⟩
              · have hqi : ¬ (q : Int) < (n : Int) := by omega
                clear hq
                go_wp2
                go_meet
                exact ⟨rfl, rfl⟩
            case rest =>
              obtain ⟨rfl, hwc⟩ := hcut
              rw [hwc]
              clear hwc k2 k3 HG hqn
              obtain ⟨W12, rfl⟩ : ∃ x : World, x = wr := ⟨_, rfl⟩
              have EQ := Lib.hid EP.out
              rw [ER.out] at EQ
              obtain ⟨kv12, hkvn⟩ : ∃ v, v = kv1 := ⟨_, rfl⟩
              rw [← hkvn] at HS
              clear hkvn
              obtain ⟨y12, z12, e12, h12⟩ : ∃ y z, partsR 12 B s = (y, z) ∧ GetS 93 w0 W0 rb sv B xb (.slice none 0 0) (.slice none 0 0) z (ndV y kv5 kv12).toArray y.kids y.cols kv5 kv12 W12 := ⟨{ y11 with cols := l }, _, parts_next E11.out (EQ.out), HS.out⟩
              have E12 := Lib.hid e12
              have H12 := Lib.hid h12
              clear e12 h12 HS E11 EP ER EQ
              go_wp2
              refine wp_loop_rounds 5 ?_
              rw [rounds_succ]
              have HC := Lib.hid (rr_signed w0 W12 rb sv B z12 H12.out.rd)
              obtain ⟨ra, hra⟩ : ∃ r, r = sgnR B z12 := ⟨_, rfl⟩
              rw [← hra] at HC
              have hba : -2147483648 ≤ (sgnR B z12).1 ∧ (sgnR B z12).1 < 2147483648 := unS_range (numR_range hby z12).1 (numR_range hby z12).2
              rw [← hra] at hba
              have HRa := Lib.hid hra
              obtain ⟨va, sa⟩ := ra
              simp only at hba
              obtain ⟨hbaa, hbab⟩ := hba
              clear hra
              go_wp2_with fail
              refine HC.out.mono ?_
              clear HC
              rintro e wa ⟨rfl, hs⟩
              have Ga := Lib.hid (H12.out.next tyRr hs)
              clear hs
              simp only [itV] at Ga ⊢
              have c29 := Ga.out.cell (j := 29) rfl
              have f29 := Ga.out.free 29
              have zx := Ga.out.lt
              have HNa := Lib.hid (Ga.out.store tyRr 29 (.int .i64 va))
              go_wp2
              generalize hX : World.setCell _ _ _ = XXa at HNa ⊢
              clear hX zx Ga c29 f29 H12
              rw [rounds_succ]
              have HC := Lib.hid (rr_signed w0 XXa rb sv B sa HNa.out.rd)
              obtain ⟨rb, hrb⟩ : ∃ r, r = sgnR B sa := ⟨_, rfl⟩
              rw [← hrb] at HC
              have hbb : -2147483648 ≤ (sgnR B sa).1 ∧ (sgnR B sa).1 < 2147483648 := unS_range (numR_range hby sa).1 (numR_range hby sa).2
              rw [← hrb] at hbb
              have HRb := Lib.hid hrb
              obtain ⟨vb, sb⟩ := rb
              simp only at hbb
              obtain ⟨hbba, hbbb⟩ := hbb
              clear hrb
              go_wp2_with fail
              refine HC.out.mono ?_
              clear HC
              rintro e wb ⟨rfl, hs⟩
              have Gb := Lib.hid (HNa.out.next tyRr hs)
              clear hs
              simp only [itV] at Gb ⊢
              have c30 := Gb.out.cell (j := 30) rfl
              have f30 := Gb.out.free 30
              have zx := Gb.out.lt
              have HNb := Lib.hid (Gb.out.store tyRr 30 (.int .i64 vb))
              go_wp2
              generalize hX : World.setCell _ _ _ = XXb at HNb ⊢
              clear hX zx Gb c30 f30 HNa
              rw [rounds_succ]
              have HC := Lib.hid (rr_signed w0 XXb rb sv B sb HNb.out.rd)
              obtain ⟨rc, hrc⟩ : ∃ r, r = sgnR B sb := ⟨_, rfl⟩
              rw [← hrc] at HC
              have hbc : -2147483648 ≤ (sgnR B sb).1 ∧ (sgnR B sb).1 < 2147483648 := unS_range (numR_range hby sb).1 (numR_range hby sb).2
              rw [← hrc] at hbc
              have HRc := Lib.hid hrc
              obtain ⟨vc, sc⟩ := rc
              simp only at hbc
              obtain ⟨hbca, hbcb⟩ := hbc
              clear hrc
              go_wp2_with fail
              refine HC.out.mono ?_
              clear HC
              rintro e wc ⟨rfl, hs⟩
              have Gc := Lib.hid (HNb.out.next tyRr hs)
              clear hs
              simp only [itV] at Gc ⊢
              have c31 := Gc.out.cell (j := 31) rfl
              have f31 := Gc.out.free 31
              have zx := Gc.out.lt
              have HNc := Lib.hid (Gc.out.store tyRr 31 (.int .i64 vc))
              go_wp2
              generalize hX : World.setCell _ _ _ = XXc at HNc ⊢
              clear hX zx Gc c31 f31 HNb
              rw [rounds_succ]
              have HC := Lib.hid (rr_signed w0 XXc rb sv B sc HNc.out.rd)
              obtain ⟨rd, hrd⟩ : ∃ r, r = sgnR B sc := ⟨_, rfl⟩
              rw [← hrd] at HC
              have hbd : -2147483648 ≤ (sgnR B sc).1 ∧ (sgnR B sc).1 < 2147483648 := unS_range (numR_range hby sc).1 (numR_range hby sc).2
              rw [← hrd] at hbd
              have HRd := Lib.hid hrd
              obtain ⟨vd, sd⟩ := rd
              simp only at hbd
              obtain ⟨hbda, hbdb⟩ := hbd
              clear hrd
              go_wp2_with fail
              refine HC.out.mono ?_
              clear HC
              rintro e wd ⟨rfl, hs⟩
              have Gd := Lib.hid (HNc.out.next tyRr hs)
              clear hs
              simp only [itV] at Gd ⊢
              have c32 := Gd.out.cell (j := 32) rfl
              have f32 := Gd.out.free 32
              have zx := Gd.out.lt
              have HNd := Lib.hid (Gd.out.store tyRr 32 (.int .i64 vd))
              go_wp2
              generalize hX : World.setCell _ _ _ = XXd at HNd ⊢
              clear hX zx Gd c32 f32 HNc
              rw [rounds_succ]
              go_upto_region 36 with (fail)
              obtain ⟨y13, z13, e13, h13⟩ : ∃ y z, partsR 13 B s = (y, z) ∧ GetS 93 w0 W0 rb sv B xb (.slice none 0 0) (.slice none 0 0) z (ndV y kv5 kv12).toArray y.kids y.cols kv5 kv12 XXd := ⟨{ y12 with x0 := va, x1 := vb, x2 := vc, x3 := vd }, _, parts_next E12.out (by show (_, _) = _; rw [← HRa.out]; simp only; rw [← HRb.out]; simp only; rw [← HRc.out]; simp only; rw [← HRd.out]), HNd.out⟩
              have E13 := Lib.hid e13
              have H13 := Lib.hid h13
              clear e13 h13 HNd E12 HRa hbaa hbab HRb hbba hbbb HRc hbca hbcb HRd hbda hbdb
              have hRVb : XXd.heap[W.heap.size]? = some (.cells nodeZ 64 (0, 0)) := (H13.out.fr _ (lt_of_block HRV.out) (by have := HRB.out; omega) (by have := HXB.out; omega) (by simp [Value.ownBlock]) (by simp [Value.ownBlock])).trans HRV.out
              obtain ⟨cs, hcs⟩ : ∃ cs, cs = ndV y13 kv5 kv12 := ⟨_, rfl⟩
              have nn : XXd.heap[xb]? = some (.cells cs.toArray 64 (0, 0)) := by rw [hcs]; exact H13.out.nd.blk
              have LEN := Lib.hid (show cs.length = 34 by rw [hcs]; rfl)
              have RNG := Lib.hid (show XXd.rangeAt xb 0 cs from fun j u hu => by rw [Nat.zero_add]; exact blk_cell nn hu)
              have ONE := Lib.hid (show ∀ u ∈ cs, u.oneCell' = true by rw [hcs]; exact ndV_one (x := y13) (row_ints H13.out.nd.kown) (row_items H13.out.nd.cown))
              have RVB := Lib.hid hRVb
              obtain ⟨Wf, hWf⟩ : ∃ x, x = XXd.setRow W.heap.size cs.toArray := ⟨_, rfl⟩
              have rvf : Wf.heap[W.heap.size]? = some (.cells cs.toArray 64 (0, 0)) := by rw [hWf]; exact setRow_heap _ _ _ _ _ _ hRVb
              have oth : ∀ b, b ≠ W.heap.size → Wf.heap[b]? = XXd.heap[b]? := fun b hb => by rw [hWf]; exact setRow_other _ _ _ _ hb
              have GOT := Lib.hid (show NdGot 93 w0 W rb sv B z13 y13 kv5 kv12 Wf from by
                have h := H13.out
                have z0 : W0.heap.size = W.heap.size + 2 ∨ W.heap.size + 2 ≤ W0.heap.size := .inr (by have := HXB.out; have h1 := lt_of_block HRV.out; have := HZW0.out; omega)
                have hk : ∀ b, kv5.ownBlock = some b → W.heap.size + 2 ≤ b := fun b e => by
                  rcases h.kg b e with e' | e'
                  · cases e'
                  · omega
                have hc : ∀ b, kv12.ownBlock = some b → W.heap.size + 2 ≤ b := fun b e => by
                  rcases h.cg b e with e' | e'
                  · cases e'
                  · omega
                refine ⟨⟨(oth rb (by have := HRB.out; omega)).trans h.rd.blk, h.rd.zb, by rw [hWf]; exact below_setRow h.rd.be hzw _, h.rd.src, h.rd.at_, h.rd.len, h.rd.byte⟩, row_raise (row_kept h.nd.kown fun g e => oth g (by have := hk g e; omega)) (fun b e => by have := hk b e; omega), row_raise (row_kept h.nd.cown fun g e => oth g (by have := hc g e; omega)) (fun b e => by have := hc b e; omega), ?_, fun b h1 h2 => ?_⟩
                · rw [hWf]; have := h.sz; simp; omega
                · rw [oth b (by omega), h.fr b (by omega) h2 (by have := HXB.out; omega) (by simp [Value.ownBlock]) (by simp [Value.ownBlock])]
                  exact HB0.out.block b h1)
              have hres : (loadVar 64 ⟨W.heap.size, 0, none⟩).run Try.prog Wf = .ok (.agg cs.toArray) Wf := run_loadVar_mid Wf W.heap.size 0 _ cs _ (fun j u hu => by rw [Nat.zero_add]; exact blk_cell rvf hu) Try.underlying64 rfl (by rw [LEN.out]; exact infoN)
              have HRES := Lib.hid hres
              have EF := Lib.hid (show ndR B s = (y13, z13) from E13.out)
              have HWF := Lib.hid hWf
              have HCS := Lib.hid hcs
              have HZF := Lib.hid (lt_of_block rvf)
              clear hRVb hcs nn hWf rvf oth hres H13
              go_wp2_with (first | ((with_reducible refine wpList_load_node ?g1 (.tmp 3) ?g2 xb 0 ?g3 cs LEN.out RNG.out ?_); (case g1 => rfl); (case g2 => rfl); (case g3 => rfl); (with_reducible refine wpList_store_row ?f1 64 (.tmp 2) (.tmp 131) ?f2 W.heap.size cs.toArray ?f3 ?f4 64 nodeZ RVB.out ?f5 ?f6 ?f7 ?_); (case f1 => rfl); (case f2 => rfl); (case f3 => rfl); (case f4 => rfl); (case f5 => (rw [infoN]; simp [LEN.out])); (case f6 => (simp [LEN.out]; rfl)); (case f7 => exact all_oneCell_toArray ONE.out); (rw [← HWF.out]); refine wpList_nil ?_; simp only [Exit.then]; rename_i hK; refine hK _ _ ?_; clear hK; clear HWF; refine wp_ret ?_; refine bodyPost_ret (v := .agg cs.toArray) ?_ rfl ?_; rotate_left; exact (HP.out _ _ ⟨kv5, kv12, by rw [HCS.out, EF.out], by rw [EF.out]; exact GOT.out⟩); have hres := HRES.out; (with_reducible refine results_cell (a := 2) (t := 64) ⟨W.heap.size, 0, none⟩ ?k1 ?k2 hres); (case k1 => rfl); (case k2 => rfl)))
end Go.Proofs.Ytcihihncgpddfaa
