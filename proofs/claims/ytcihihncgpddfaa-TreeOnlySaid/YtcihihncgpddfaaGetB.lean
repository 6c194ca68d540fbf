/- Reading trees' bytes: the program's closures (but for the two lists). -/
import Derived.Test.YtcihihncgpddfaaGetA
namespace Go.Proofs.Ytcihihncgpddfaa
open Go.RowKit Go.Deep
set_option linter.unusedVariables false
set_option linter.unusedSimpArgs false

theorem tyRd : TyOk 100 := ⟨by decide, by decide, by decide⟩
/-- what a closure leaves -/
def GetPost (ty : TypeId) (w0 W : World) (rb : Nat) (sv : Value) (B : List Int) (xb : Nat) (kv cv : Value) (r : Nd × Rs) (e : Ending) (W' : World) : Prop := e = .returned (.tuple #[]) ∧ ∃ kv' cv', GetS ty w0 W rb sv B xb kv cv r.2 (ndV r.1 kv' cv').toArray r.1.kids r.1.cols kv' cv' W'
theorem get_mk {ty : TypeId} {w0 W W' : World} {rb xb : Nat} {sv kv cv kv' cv' : Value} {B : List Int} {r : Nd × Rs} {y : Nd} {s : Rs} (h : r = (y, s)) (hs : GetS ty w0 W rb sv B xb kv cv s (ndV y kv' cv').toArray y.kids y.cols kv' cv' W') : GetPost ty w0 W rb sv B xb kv cv r (.returned (.tuple #[])) W' := by subst h; exact ⟨rfl, kv', cv', hs⟩
theorem octR_u (m : Int) {B : List Int} (hB : Byte8 B) (s : Rs) (hm : 0 ≤ m) : 0 ≤ (octR m B s).1 ∧ (octR m B s).1 ≤ m ∧ (octR m B s).1 ≤ 255 := by
  rcases octR_sum m hB s with ⟨_, h⟩ | ⟨_, h1, h2, h3, _⟩
  · rw [h]; exact ⟨by omega, hm, by omega⟩
  · exact ⟨h1, h3, h2⟩
theorem unS_range {n : Int} (h : 0 ≤ n) (h' : n < 2147483648) : -2147483648 ≤ unS n ∧ unS n < 2147483648 := by unfold unS; split <;> omega
set_option maxRecDepth 100000 in
set_option maxHeartbeats 8000000 in
theorem get0 (w0 W : World) (rb : Nat) (sv : Value) (B : List Int) (s : Rs) (xb : Nat) (y : Nd) (kv cv : Value) (hr : RdAt 100 w0 W rb sv B s) (hn : NdO w0.heap.size W xb (ndV y kv cv).toArray y.kids y.cols kv cv) : Calls Try.prog 75 #[.pointer (some ⟨rb, 0, none⟩), .pointer (some ⟨xb, 0, none⟩)] W (GetPost 100 w0 W rb sv B xb kv cv (partR y 0 B s)) := by
  have hby := hr.byte
  have H0 := Lib.hid (GetS.refl hr hn)
  clear hr hn
  have HC := Lib.hid (rd_octet w0 W rb sv B s 127 H0.out.rd)
  obtain ⟨r1, hr1⟩ : ∃ r, r = octR 127 B s := ⟨_, rfl⟩
  rw [← hr1] at HC
  have hb1 := octR_u 127 hby s (by decide)
  rw [← hr1] at hb1
  have HR1 := Lib.hid hr1
  obtain ⟨v1, s1⟩ := r1
  simp only at hb1
  obtain ⟨hb1a, hb1b, hb1c⟩ := hb1
  clear hr1
  have E := Lib.hid (show partR y 0 B s = ({ y with kind := v1 }, s1) from by show (_, _) = _; rw [← HR1.out])
  go_enter Try.func75, Try.ntmps75
  go_wp2_with fail
  refine HC.out.mono ?_
  clear HC
  rintro e w1 ⟨rfl, hs⟩
  have H1 := Lib.hid (H0.out.next tyRd hs)
  clear hs
  simp only [itV] at H1 ⊢
  have c0 : w1.cell? ⟨xb, 0, none⟩ = some (.int .i8 y.kind) := H1.out.cell rfl
  have f0 := H1.out.free 0
  have zx := H1.out.lt
  have HF := Lib.hid ((H1.out.store tyRd 0 (.int .i8 v1)))
  clear H0 H1
  go_wp2
  first | exact bodyPost_end (v := .tuple #[]) (results_none rfl _ _ _) rfl (get_mk E.out HF.out) | exact bodyPost_ret (v := .tuple #[]) (results_none rfl _ _ _) rfl (get_mk E.out HF.out)
set_option maxRecDepth 100000 in
set_option maxHeartbeats 8000000 in
theorem get1 (w0 W : World) (rb : Nat) (sv : Value) (B : List Int) (s : Rs) (xb : Nat) (y : Nd) (kv cv : Value) (hr : RdAt 100 w0 W rb sv B s) (hn : NdO w0.heap.size W xb (ndV y kv cv).toArray y.kids y.cols kv cv) : Calls Try.prog 78 #[.pointer (some ⟨rb, 0, none⟩), .pointer (some ⟨xb, 0, none⟩)] W (GetPost 100 w0 W rb sv B xb kv cv (partR y 1 B s)) := by
  have hby := hr.byte
  have H0 := Lib.hid (GetS.refl hr hn)
  clear hr hn
  have HC := Lib.hid (rd_text w0 W rb sv B s H0.out.rd)
  obtain ⟨r1, hr1⟩ : ∃ r, r = txtR B s := ⟨_, rfl⟩
  rw [← hr1] at HC
  have HR1 := Lib.hid hr1
  obtain ⟨v1, s1⟩ := r1
  clear hr1
  have E := Lib.hid (show partR y 1 B s = ({ y with id := v1 }, s1) from by show (_, _) = _; rw [← HR1.out])
  go_enter Try.func78, Try.ntmps78
  go_wp2_with fail
  refine HC.out.mono ?_
  clear HC
  rintro e w1 ⟨rfl, hs⟩
  have H1 := Lib.hid (H0.out.next tyRd hs)
  clear hs
  simp only [itV] at H1 ⊢
  have c1 : w1.cell? ⟨xb, 1, none⟩ = some (.string y.id) := H1.out.cell rfl
  have f1 := H1.out.free 1
  have zx := H1.out.lt
  have HF := Lib.hid ((H1.out.store tyRd 1 (.string v1)))
  clear H0 H1
  go_wp2
  first | exact bodyPost_end (v := .tuple #[]) (results_none rfl _ _ _) rfl (get_mk E.out HF.out) | exact bodyPost_ret (v := .tuple #[]) (results_none rfl _ _ _) rfl (get_mk E.out HF.out)
set_option maxRecDepth 100000 in
set_option maxHeartbeats 8000000 in
theorem get2 (w0 W : World) (rb : Nat) (sv : Value) (B : List Int) (s : Rs) (xb : Nat) (y : Nd) (kv cv : Value) (hr : RdAt 100 w0 W rb sv B s) (hn : NdO w0.heap.size W xb (ndV y kv cv).toArray y.kids y.cols kv cv) : Calls Try.prog 81 #[.pointer (some ⟨rb, 0, none⟩), .pointer (some ⟨xb, 0, none⟩)] W (GetPost 100 w0 W rb sv B xb kv cv (partR y 2 B s)) := by
  have hby := hr.byte
  have H0 := Lib.hid (GetS.refl hr hn)
  clear hr hn
  have HC := Lib.hid (rd_text w0 W rb sv B s H0.out.rd)
  obtain ⟨r1, hr1⟩ : ∃ r, r = txtR B s := ⟨_, rfl⟩
  rw [← hr1] at HC
  have HR1 := Lib.hid hr1
  obtain ⟨v1, s1⟩ := r1
  clear hr1
  have E := Lib.hid (show partR y 2 B s = ({ y with cls := v1 }, s1) from by show (_, _) = _; rw [← HR1.out])
  go_enter Try.func81, Try.ntmps81
  go_wp2_with fail
  refine HC.out.mono ?_
  clear HC
  rintro e w1 ⟨rfl, hs⟩
  have H1 := Lib.hid (H0.out.next tyRd hs)
  clear hs
  simp only [itV] at H1 ⊢
  have c2 : w1.cell? ⟨xb, 2, none⟩ = some (.string y.cls) := H1.out.cell rfl
  have f2 := H1.out.free 2
  have zx := H1.out.lt
  have HF := Lib.hid ((H1.out.store tyRd 2 (.string v1)))
  clear H0 H1
  go_wp2
  first | exact bodyPost_end (v := .tuple #[]) (results_none rfl _ _ _) rfl (get_mk E.out HF.out) | exact bodyPost_ret (v := .tuple #[]) (results_none rfl _ _ _) rfl (get_mk E.out HF.out)
set_option maxRecDepth 100000 in
set_option maxHeartbeats 8000000 in
theorem get3 (w0 W : World) (rb : Nat) (sv : Value) (B : List Int) (s : Rs) (xb : Nat) (y : Nd) (kv cv : Value) (hr : RdAt 100 w0 W rb sv B s) (hn : NdO w0.heap.size W xb (ndV y kv cv).toArray y.kids y.cols kv cv) : Calls Try.prog 83 #[.pointer (some ⟨rb, 0, none⟩), .pointer (some ⟨xb, 0, none⟩)] W (GetPost 100 w0 W rb sv B xb kv cv (partR y 3 B s)) := by
  have hby := hr.byte
  have H0 := Lib.hid (GetS.refl hr hn)
  clear hr hn
  have HC := Lib.hid (rd_text w0 W rb sv B s H0.out.rd)
  obtain ⟨r1, hr1⟩ : ∃ r, r = txtR B s := ⟨_, rfl⟩
  rw [← hr1] at HC
  have HR1 := Lib.hid hr1
  obtain ⟨v1, s1⟩ := r1
  clear hr1
  have E := Lib.hid (show partR y 3 B s = ({ y with text := v1 }, s1) from by show (_, _) = _; rw [← HR1.out])
  go_enter Try.func83, Try.ntmps83
  go_wp2_with fail
  refine HC.out.mono ?_
  clear HC
  rintro e w1 ⟨rfl, hs⟩
  have H1 := Lib.hid (H0.out.next tyRd hs)
  clear hs
  simp only [itV] at H1 ⊢
  have c22 : w1.cell? ⟨xb, 22, none⟩ = some (.string y.text) := H1.out.cell rfl
  have f22 := H1.out.free 22
  have zx := H1.out.lt
  have HF := Lib.hid ((H1.out.store tyRd 22 (.string v1)))
  clear H0 H1
  go_wp2
  first | exact bodyPost_end (v := .tuple #[]) (results_none rfl _ _ _) rfl (get_mk E.out HF.out) | exact bodyPost_ret (v := .tuple #[]) (results_none rfl _ _ _) rfl (get_mk E.out HF.out)
set_option maxRecDepth 100000 in
set_option maxHeartbeats 8000000 in
theorem get5 (w0 W : World) (rb : Nat) (sv : Value) (B : List Int) (s : Rs) (xb : Nat) (y : Nd) (kv cv : Value) (hr : RdAt 100 w0 W rb sv B s) (hn : NdO w0.heap.size W xb (ndV y kv cv).toArray y.kids y.cols kv cv) : Calls Try.prog 88 #[.pointer (some ⟨rb, 0, none⟩), .pointer (some ⟨xb, 0, none⟩)] W (GetPost 100 w0 W rb sv B xb kv cv (partR y 5 B s)) := by
  have hby := hr.byte
  have H0 := Lib.hid (GetS.refl hr hn)
  clear hr hn
  have HC := Lib.hid (rd_item w0 W rb sv B s H0.out.rd)
  obtain ⟨r1, hr1⟩ : ∃ r, r = itR B s := ⟨_, rfl⟩
  rw [← hr1] at HC
  have HR1 := Lib.hid hr1
  obtain ⟨v1, s1⟩ := r1
  clear hr1
  obtain ⟨k1, n1, d1, l1, h1⟩ := v1
  have E := Lib.hid (show partR y 5 B s = ({ y with iw := ⟨k1, n1, d1, l1, h1⟩ }, s1) from by show (_, _) = _; rw [← HR1.out])
  go_enter Try.func88, Try.ntmps88
  go_wp2_with fail
  refine HC.out.mono ?_
  clear HC
  rintro e w1 ⟨rfl, hs⟩
  have H1 := Lib.hid (H0.out.next tyRd hs)
  clear hs
  simp only [itV] at H1 ⊢
  have c4 : w1.cell? ⟨xb, 4, none⟩ = some (.int .i8 y.iw.k) := H1.out.cell rfl
  have f4 := H1.out.free 4
  have c5 : w1.cell? ⟨xb, 5, none⟩ = some (.int .i64 y.iw.n) := H1.out.cell rfl
  have f5 := H1.out.free 5
  have c6 : w1.cell? ⟨xb, 6, none⟩ = some (.int .i64 y.iw.d) := H1.out.cell rfl
  have f6 := H1.out.free 6
  have c7 : w1.cell? ⟨xb, 7, none⟩ = some (.int .i64 y.iw.lo) := H1.out.cell rfl
  have f7 := H1.out.free 7
  have c8 : w1.cell? ⟨xb, 8, none⟩ = some (.int .i64 y.iw.hi) := H1.out.cell rfl
  have f8 := H1.out.free 8
  have zx := H1.out.lt
  have HF := Lib.hid ((((((H1.out.store tyRd 4 (.int .i8 k1)).store tyRd 5 (.int .i64 n1)).store tyRd 6 (.int .i64 d1)).store tyRd 7 (.int .i64 l1)).store tyRd 8 (.int .i64 h1)))
  clear H0 H1
  go_wp2
  first | exact bodyPost_end (v := .tuple #[]) (results_none rfl _ _ _) rfl (get_mk E.out HF.out) | exact bodyPost_ret (v := .tuple #[]) (results_none rfl _ _ _) rfl (get_mk E.out HF.out)
set_option maxRecDepth 100000 in
set_option maxHeartbeats 8000000 in
theorem get6 (w0 W : World) (rb : Nat) (sv : Value) (B : List Int) (s : Rs) (xb : Nat) (y : Nd) (kv cv : Value) (hr : RdAt 100 w0 W rb sv B s) (hn : NdO w0.heap.size W xb (ndV y kv cv).toArray y.kids y.cols kv cv) : Calls Try.prog 91 #[.pointer (some ⟨rb, 0, none⟩), .pointer (some ⟨xb, 0, none⟩)] W (GetPost 100 w0 W rb sv B xb kv cv (partR y 6 B s)) := by
  have hby := hr.byte
  have H0 := Lib.hid (GetS.refl hr hn)
  clear hr hn
  have HC := Lib.hid (rd_item w0 W rb sv B s H0.out.rd)
  obtain ⟨r1, hr1⟩ : ∃ r, r = itR B s := ⟨_, rfl⟩
  rw [← hr1] at HC
  have HR1 := Lib.hid hr1
  obtain ⟨v1, s1⟩ := r1
  clear hr1
  obtain ⟨k1, n1, d1, l1, h1⟩ := v1
  have E := Lib.hid (show partR y 6 B s = ({ y with ih := ⟨k1, n1, d1, l1, h1⟩ }, s1) from by show (_, _) = _; rw [← HR1.out])
  go_enter Try.func91, Try.ntmps91
  go_wp2_with fail
  refine HC.out.mono ?_
  clear HC
  rintro e w1 ⟨rfl, hs⟩
  have H1 := Lib.hid (H0.out.next tyRd hs)
  clear hs
  simp only [itV] at H1 ⊢
  have c9 : w1.cell? ⟨xb, 9, none⟩ = some (.int .i8 y.ih.k) := H1.out.cell rfl
  have f9 := H1.out.free 9
  have c10 : w1.cell? ⟨xb, 10, none⟩ = some (.int .i64 y.ih.n) := H1.out.cell rfl
  have f10 := H1.out.free 10
  have c11 : w1.cell? ⟨xb, 11, none⟩ = some (.int .i64 y.ih.d) := H1.out.cell rfl
  have f11 := H1.out.free 11
  have c12 : w1.cell? ⟨xb, 12, none⟩ = some (.int .i64 y.ih.lo) := H1.out.cell rfl
  have f12 := H1.out.free 12
  have c13 : w1.cell? ⟨xb, 13, none⟩ = some (.int .i64 y.ih.hi) := H1.out.cell rfl
  have f13 := H1.out.free 13
  have zx := H1.out.lt
  have HF := Lib.hid ((((((H1.out.store tyRd 9 (.int .i8 k1)).store tyRd 10 (.int .i64 n1)).store tyRd 11 (.int .i64 d1)).store tyRd 12 (.int .i64 l1)).store tyRd 13 (.int .i64 h1)))
  clear H0 H1
  go_wp2
  first | exact bodyPost_end (v := .tuple #[]) (results_none rfl _ _ _) rfl (get_mk E.out HF.out) | exact bodyPost_ret (v := .tuple #[]) (results_none rfl _ _ _) rfl (get_mk E.out HF.out)
set_option maxRecDepth 100000 in
set_option maxHeartbeats 8000000 in
theorem get7 (w0 W : World) (rb : Nat) (sv : Value) (B : List Int) (s : Rs) (xb : Nat) (y : Nd) (kv cv : Value) (hr : RdAt 100 w0 W rb sv B s) (hn : NdO w0.heap.size W xb (ndV y kv cv).toArray y.kids y.cols kv cv) : Calls Try.prog 93 #[.pointer (some ⟨rb, 0, none⟩), .pointer (some ⟨xb, 0, none⟩)] W (GetPost 100 w0 W rb sv B xb kv cv (partR y 7 B s)) := by
  have hby := hr.byte
  have H0 := Lib.hid (GetS.refl hr hn)
  clear hr hn
  have HC := Lib.hid (rd_number w0 W rb sv B s H0.out.rd)
  obtain ⟨r1, hr1⟩ : ∃ r, r = numR B s := ⟨_, rfl⟩
  rw [← hr1] at HC
  have hb1 := numR_range hby s
  rw [← hr1] at hb1
  have HR1 := Lib.hid hr1
  obtain ⟨v1, s1⟩ := r1
  simp only at hb1
  obtain ⟨hb1a, hb1b⟩ := hb1
  clear hr1
  have E := Lib.hid (show partR y 7 B s = ({ y with gap := v1 }, s1) from by show (_, _) = _; rw [← HR1.out])
  go_enter Try.func93, Try.ntmps93
  go_wp2_with fail
  refine HC.out.mono ?_
  clear HC
  rintro e w1 ⟨rfl, hs⟩
  have H1 := Lib.hid (H0.out.next tyRd hs)
  clear hs
  simp only [itV] at H1 ⊢
  have c14 : w1.cell? ⟨xb, 14, none⟩ = some (.int .i64 y.gap) := H1.out.cell rfl
  have f14 := H1.out.free 14
  have zx := H1.out.lt
  have HF := Lib.hid ((H1.out.store tyRd 14 (.int .i64 v1)))
  clear H0 H1
  go_wp2
  first | exact bodyPost_end (v := .tuple #[]) (results_none rfl _ _ _) rfl (get_mk E.out HF.out) | exact bodyPost_ret (v := .tuple #[]) (results_none rfl _ _ _) rfl (get_mk E.out HF.out)
set_option maxRecDepth 100000 in
set_option maxHeartbeats 8000000 in
theorem get9 (w0 W : World) (rb : Nat) (sv : Value) (B : List Int) (s : Rs) (xb : Nat) (y : Nd) (kv cv : Value) (hr : RdAt 100 w0 W rb sv B s) (hn : NdO w0.heap.size W xb (ndV y kv cv).toArray y.kids y.cols kv cv) : Calls Try.prog 97 #[.pointer (some ⟨rb, 0, none⟩), .pointer (some ⟨xb, 0, none⟩)] W (GetPost 100 w0 W rb sv B xb kv cv (partR y 9 B s)) := by
  have hby := hr.byte
  have H0 := Lib.hid (GetS.refl hr hn)
  clear hr hn
  go_enter Try.func97, Try.ntmps97
  have HC := Lib.hid (rd_octet w0 W rb sv B s 127 H0.out.rd)
  obtain ⟨r1, hr1⟩ : ∃ r, r = octR 127 B s := ⟨_, rfl⟩
  rw [← hr1] at HC
  have hb1 := octR_u 127 hby s (by decide)
  rw [← hr1] at hb1
  have HR1 := Lib.hid hr1
  obtain ⟨v1, s1⟩ := r1
  simp only at hb1
  obtain ⟨hb1a, hb1b, hb1c⟩ := hb1
  clear hr1
  go_wp2_with fail
  refine HC.out.mono ?_
  clear HC
  rintro e w1 ⟨rfl, hs⟩
  have G1 := Lib.hid (H0.out.next tyRd hs)
  clear hs
  simp only [itV] at G1 ⊢
  have c19 := G1.out.cell (j := 19) rfl
  have f19 := G1.out.free 19
  have zx1 := G1.out.lt
  obtain ⟨x1, hx1⟩ : ∃ x, x = w1.setCell ⟨xb, 19, none⟩ (.int .i8 v1) := ⟨_, rfl⟩
  have H1 := Lib.hid (G1.out.store tyRd 19 (.int .i8 v1))
  rw [← hx1] at H1
  have hxs1 := Lib.hid hx1.symm
  clear hx1
  have HC := Lib.hid (rd_octet w0 x1 rb sv B s1 127 H1.out.rd)
  obtain ⟨r2, hr2⟩ : ∃ r, r = octR 127 B s1 := ⟨_, rfl⟩
  rw [← hr2] at HC
  have hb2 := octR_u 127 hby s1 (by decide)
  rw [← hr2] at hb2
  have HR2 := Lib.hid hr2
  obtain ⟨v2, s2⟩ := r2
  simp only at hb2
  obtain ⟨hb2a, hb2b, hb2c⟩ := hb2
  clear hr2
  go_wp2_with fail
  simp only [hxs1.out]
  clear c19 f19 zx1
  refine HC.out.mono ?_
  clear HC
  rintro e w2 ⟨rfl, hs⟩
  have G2 := Lib.hid (H1.out.next tyRd hs)
  clear hs
  simp only [itV] at G2 ⊢
  have c20 := G2.out.cell (j := 20) rfl
  have f20 := G2.out.free 20
  have zx2 := G2.out.lt
  obtain ⟨x2, hx2⟩ : ∃ x, x = w2.setCell ⟨xb, 20, none⟩ (.int .i8 v2) := ⟨_, rfl⟩
  have H2 := Lib.hid (G2.out.store tyRd 20 (.int .i8 v2))
  rw [← hx2] at H2
  have hxs2 := Lib.hid hx2.symm
  clear hx2
  have HC := Lib.hid (rd_octet w0 x2 rb sv B s2 127 H2.out.rd)
  obtain ⟨r3, hr3⟩ : ∃ r, r = octR 127 B s2 := ⟨_, rfl⟩
  rw [← hr3] at HC
  have hb3 := octR_u 127 hby s2 (by decide)
  rw [← hr3] at hb3
  have HR3 := Lib.hid hr3
  obtain ⟨v3, s3⟩ := r3
  simp only at hb3
  obtain ⟨hb3a, hb3b, hb3c⟩ := hb3
  clear hr3
  go_wp2_with fail
  simp only [hxs2.out]
  clear c20 f20 zx2
  refine HC.out.mono ?_
  clear HC
  rintro e w3 ⟨rfl, hs⟩
  have G3 := Lib.hid (H2.out.next tyRd hs)
  clear hs
  simp only [itV] at G3 ⊢
  have c21 := G3.out.cell (j := 21) rfl
  have f21 := G3.out.free 21
  have zx3 := G3.out.lt
  obtain ⟨x3, hx3⟩ : ∃ x, x = w3.setCell ⟨xb, 21, none⟩ (.int .i8 v3) := ⟨_, rfl⟩
  have H3 := Lib.hid (G3.out.store tyRd 21 (.int .i8 v3))
  rw [← hx3] at H3
  have hxs3 := Lib.hid hx3.symm
  clear hx3
  have HC := Lib.hid (rd_octet w0 x3 rb sv B s3 127 H3.out.rd)
  obtain ⟨r4, hr4⟩ : ∃ r, r = octR 127 B s3 := ⟨_, rfl⟩
  rw [← hr4] at HC
  have hb4 := octR_u 127 hby s3 (by decide)
  rw [← hr4] at hb4
  have HR4 := Lib.hid hr4
  obtain ⟨v4, s4⟩ := r4
  simp only at hb4
  obtain ⟨hb4a, hb4b, hb4c⟩ := hb4
  clear hr4
  go_wp2_with fail
  simp only [hxs3.out]
  clear c21 f21 zx3
  refine HC.out.mono ?_
  clear HC
  rintro e w4 ⟨rfl, hs⟩
  have G4 := Lib.hid (H3.out.next tyRd hs)
  clear hs
  simp only [itV] at G4 ⊢
  have c23 := G4.out.cell (j := 23) rfl
  have f23 := G4.out.free 23
  have zx4 := G4.out.lt
  obtain ⟨x4, hx4⟩ : ∃ x, x = w4.setCell ⟨xb, 23, none⟩ (.int .i8 v4) := ⟨_, rfl⟩
  have H4 := Lib.hid (G4.out.store tyRd 23 (.int .i8 v4))
  rw [← hx4] at H4
  have hxs4 := Lib.hid hx4.symm
  clear hx4
  have HC := Lib.hid (rd_octet w0 x4 rb sv B s4 255 H4.out.rd)
  obtain ⟨r5, hr5⟩ : ∃ r, r = octR 255 B s4 := ⟨_, rfl⟩
  rw [← hr5] at HC
  have hb5 := octR_u 255 hby s4 (by decide)
  rw [← hr5] at hb5
  have HR5 := Lib.hid hr5
  obtain ⟨v5, s5⟩ := r5
  simp only at hb5
  obtain ⟨hb5a, hb5b, hb5c⟩ := hb5
  clear hr5
  go_wp2_with fail
  simp only [hxs4.out]
  clear c23 f23 zx4
  refine HC.out.mono ?_
  clear HC
  rintro e w5 ⟨rfl, hs⟩
  have G5 := Lib.hid (H4.out.next tyRd hs)
  clear hs
  simp only [itV] at G5 ⊢
  have c33 := G5.out.cell (j := 33) rfl
  have f33 := G5.out.free 33
  have zx5 := G5.out.lt
  obtain ⟨x5, hx5⟩ : ∃ x, x = w5.setCell ⟨xb, 33, none⟩ (.int .u8 v5) := ⟨_, rfl⟩
  have H5 := Lib.hid (G5.out.store tyRd 33 (.int .u8 v5))
  rw [← hx5] at H5
  have hxs5 := Lib.hid hx5.symm
  have E := Lib.hid (show partR y 9 B s = ({ y with border := v1, align := v2, cross := v3, wrap := v4, flags := v5 }, s5) from by show (_, _) = _; rw [← HR1.out]; simp only; rw [← HR2.out]; simp only; rw [← HR3.out]; simp only; rw [← HR4.out]; simp only; rw [← HR5.out])
  have HF := Lib.hid (H5.out)
  subst hx5
  go_wp2
  first | exact bodyPost_end (v := .tuple #[]) (results_none rfl _ _ _) rfl (get_mk E.out HF.out) | exact bodyPost_ret (v := .tuple #[]) (results_none rfl _ _ _) rfl (get_mk E.out HF.out)
set_option maxRecDepth 100000 in
set_option maxHeartbeats 8000000 in
theorem get10 (w0 W : World) (rb : Nat) (sv : Value) (B : List Int) (s : Rs) (xb : Nat) (y : Nd) (kv cv : Value) (hr : RdAt 100 w0 W rb sv B s) (hn : NdO w0.heap.size W xb (ndV y kv cv).toArray y.kids y.cols kv cv) : Calls Try.prog 99 #[.pointer (some ⟨rb, 0, none⟩), .pointer (some ⟨xb, 0, none⟩)] W (GetPost 100 w0 W rb sv B xb kv cv (partR y 10 B s)) := by
  have hby := hr.byte
  have H0 := Lib.hid (GetS.refl hr hn)
  clear hr hn
  go_enter Try.func99, Try.ntmps99
  have HC := Lib.hid (rd_number w0 W rb sv B s H0.out.rd)
  obtain ⟨r1, hr1⟩ : ∃ r, r = numR B s := ⟨_, rfl⟩
  rw [← hr1] at HC
  have hb1 := numR_range hby s
  rw [← hr1] at hb1
  have HR1 := Lib.hid hr1
  obtain ⟨v1, s1⟩ := r1
  simp only at hb1
  obtain ⟨hb1a, hb1b⟩ := hb1
  clear hr1
  go_wp2_with fail
  refine HC.out.mono ?_
  clear HC
  rintro e w1 ⟨rfl, hs⟩
  have G1 := Lib.hid (H0.out.next tyRd hs)
  clear hs
  simp only [itV] at G1 ⊢
  have c24 := G1.out.cell (j := 24) rfl
  have f24 := G1.out.free 24
  have zx1 := G1.out.lt
  obtain ⟨x1, hx1⟩ : ∃ x, x = w1.setCell ⟨xb, 24, none⟩ (.int .i32 v1) := ⟨_, rfl⟩
  have H1 := Lib.hid (G1.out.store tyRd 24 (.int .i32 v1))
  rw [← hx1] at H1
  have hxs1 := Lib.hid hx1.symm
  clear hx1
  have HC := Lib.hid (rd_number w0 x1 rb sv B s1 H1.out.rd)
  obtain ⟨r2, hr2⟩ : ∃ r, r = numR B s1 := ⟨_, rfl⟩
  rw [← hr2] at HC
  have hb2 := numR_range hby s1
  rw [← hr2] at hb2
  have HR2 := Lib.hid hr2
  obtain ⟨v2, s2⟩ := r2
  simp only at hb2
  obtain ⟨hb2a, hb2b⟩ := hb2
  clear hr2
  go_wp2_with fail
  simp only [hxs1.out]
  clear c24 f24 zx1
  refine HC.out.mono ?_
  clear HC
  rintro e w2 ⟨rfl, hs⟩
  have G2 := Lib.hid (H1.out.next tyRd hs)
  clear hs
  simp only [itV] at G2 ⊢
  have c25 := G2.out.cell (j := 25) rfl
  have f25 := G2.out.free 25
  have zx2 := G2.out.lt
  obtain ⟨x2, hx2⟩ : ∃ x, x = w2.setCell ⟨xb, 25, none⟩ (.int .i32 v2) := ⟨_, rfl⟩
  have H2 := Lib.hid (G2.out.store tyRd 25 (.int .i32 v2))
  rw [← hx2] at H2
  have hxs2 := Lib.hid hx2.symm
  clear hx2
  have HC := Lib.hid (rd_octet w0 x2 rb sv B s2 255 H2.out.rd)
  obtain ⟨r3, hr3⟩ : ∃ r, r = octR 255 B s2 := ⟨_, rfl⟩
  rw [← hr3] at HC
  have hb3 := octR_u 255 hby s2 (by decide)
  rw [← hr3] at hb3
  have HR3 := Lib.hid hr3
  obtain ⟨v3, s3⟩ := r3
  simp only at hb3
  obtain ⟨hb3a, hb3b, hb3c⟩ := hb3
  clear hr3
  go_wp2_with fail
  simp only [hxs2.out]
  clear c25 f25 zx2
  refine HC.out.mono ?_
  clear HC
  rintro e w3 ⟨rfl, hs⟩
  have G3 := Lib.hid (H2.out.next tyRd hs)
  clear hs
  simp only [itV] at G3 ⊢
  have c26 := G3.out.cell (j := 26) rfl
  have f26 := G3.out.free 26
  have zx3 := G3.out.lt
  obtain ⟨x3, hx3⟩ : ∃ x, x = w3.setCell ⟨xb, 26, none⟩ (.int .u8 v3) := ⟨_, rfl⟩
  have H3 := Lib.hid (G3.out.store tyRd 26 (.int .u8 v3))
  rw [← hx3] at H3
  have hxs3 := Lib.hid hx3.symm
  clear hx3
  have HC := Lib.hid (rd_octet w0 x3 rb sv B s3 255 H3.out.rd)
  obtain ⟨r4, hr4⟩ : ∃ r, r = octR 255 B s3 := ⟨_, rfl⟩
  rw [← hr4] at HC
  have hb4 := octR_u 255 hby s3 (by decide)
  rw [← hr4] at hb4
  have HR4 := Lib.hid hr4
  obtain ⟨v4, s4⟩ := r4
  simp only at hb4
  obtain ⟨hb4a, hb4b, hb4c⟩ := hb4
  clear hr4
  go_wp2_with fail
  simp only [hxs3.out]
  clear c26 f26 zx3
  refine HC.out.mono ?_
  clear HC
  rintro e w4 ⟨rfl, hs⟩
  have G4 := Lib.hid (H3.out.next tyRd hs)
  clear hs
  simp only [itV] at G4 ⊢
  have c27 := G4.out.cell (j := 27) rfl
  have f27 := G4.out.free 27
  have zx4 := G4.out.lt
  obtain ⟨x4, hx4⟩ : ∃ x, x = w4.setCell ⟨xb, 27, none⟩ (.int .u8 v4) := ⟨_, rfl⟩
  have H4 := Lib.hid (G4.out.store tyRd 27 (.int .u8 v4))
  rw [← hx4] at H4
  have hxs4 := Lib.hid hx4.symm
  have E := Lib.hid (show partR y 10 B s = ({ y with fg := v1, bg := v2, add := v3, drop := v4 }, s4) from by show (_, _) = _; rw [← HR1.out]; simp only; rw [← HR2.out]; simp only; rw [← HR3.out]; simp only; rw [← HR4.out])
  have HF := Lib.hid (H4.out)
  subst hx4
  go_wp2
  first | exact bodyPost_end (v := .tuple #[]) (results_none rfl _ _ _) rfl (get_mk E.out HF.out) | exact bodyPost_ret (v := .tuple #[]) (results_none rfl _ _ _) rfl (get_mk E.out HF.out)
end Go.Proofs.Ytcihihncgpddfaa
