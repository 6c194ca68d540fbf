/- Trees: contract of tree.Parents. -/
import Derived.Test.YtihjefncjkdnpaaDwn
import Derived.Test.YtihjefncjkdnpaaLntO
namespace Go.Proofs.Ytihjefncjkdnpaa
open Go.RowKit Go.Deep
set_option linter.unusedVariables false
set_option linter.unusedSimpArgs false

/-- the kids of n are told their parent -/
def setK (n : Nat) (ks : List Int) (f : Nat → Int) : Nat → Int := ks.foldl (fun f k => upd f k.toNat (n : Int)) f
def iniP : Nat → Int := upd (fun _ => 0) 0 (-1)
def stepP (T : List Nd) (g : Option (Nat → Int)) (n d : Nat) : Option (Nat → Int) × Bool := (some (setK n (T.getD n zNd).kids (g.getD iniP)), true)
/-- what Parents tells -/
def parL (T : List Nd) : List Int := match walkS (stepP T) T none with
  | none => []
  | some f => (List.range T.length).map f
structure InvR (w0 : World) (p : Option Addr) (c : Nat) (T : List Nd) (bl bt br : Nat) (f : Nat → Int) (W : World) : Prop where
  be : Below w0.heap.size w0 W
  tb : W.heap[bt]? = some (.cells #[.slice p T.length c] 24 (0, 0))
  lb : W.heap[bl]? = some (.cells #[.slice (some ⟨br, 0, none⟩) T.length T.length] 25 (0, 0))
  row : W.rowIs br 3 T.length (fun i => .int .i64 (f i))
  lt : bl ≠ bt
  rl : br ≠ bl
  rt : br ≠ bt
  zl : w0.heap.size ≤ bl
  zr : w0.heap.size ≤ br
theorem InvR.later {w0 W W' : World} {p : Option Addr} {c : Nat} {T : List Nd} {bl bt br : Nat} {f : Nat → Int} (h : InvR w0 p c T bl bt br f W) (hb : Below W.heap.size W W') : InvR w0 p c T bl bt br f W' :=
  ⟨below_via hb h.be, (hb.block _ (lt_of_block h.tb)).trans h.tb, (hb.block _ (lt_of_block h.lb)).trans h.lb, h.row.of_block (hb.block _ h.row.lt), h.lt, h.rl, h.rt, h.zl, h.zr⟩
theorem InvR.set {w0 W : World} {p : Option Addr} {c : Nat} {T : List Nd} {bl bt br : Nat} {f : Nat → Int} (h : InvR w0 p c T bl bt br f W) (q : Nat) (v : Int) : InvR w0 p c T bl bt br (upd f q v) (W.setCell ⟨br, q, none⟩ (.int .i64 v)) := by
  have g : ∀ b, b ≠ br → (W.setCell ⟨br, q, none⟩ (.int .i64 v)).heap[b]? = W.heap[b]? := fun b hb => blk_setCell_other _ _ _ _ (by simpa using hb)
  exact ⟨h.be.setCell h.zr _, (g _ h.rt.symm).trans h.tb, (g _ h.rl.symm).trans h.lb, (h.row.set q _).congr (fun i _ => by unfold upd; split <;> rfl), h.lt, h.rl, h.rt, h.zl, h.zr⟩
def InvP (w0 : World) (p : Option Addr) (c : Nat) (T : List Nd) (bl bt : Nat) (g : Option (Nat → Int)) (O : Nat → Prop) (W : World) : Prop := match g with
  | none => (Below w0.heap.size w0 W ∧ W.heap[bt]? = some (.cells #[.slice p T.length c] 24 (0, 0)) ∧ W.heap[bl]? = some (.cells #[.slice none 0 0] 25 (0, 0)) ∧ bl ≠ bt ∧ w0.heap.size ≤ bl) ∧ ∀ b, O b ↔ b = bl
  | some f => ∃ br, InvR w0 p c T bl bt br f W ∧ ∀ b, O b ↔ (b = bl ∨ b = br)
set_option maxRecDepth 100000 in
set_option maxHeartbeats 16000000 in
theorem parents_visitor (w0 : World) (p : Option Addr) (c : Nat) (T : List Nd) (bl bt : Nat) (hT : TreeAt w0 (.slice p T.length c) T) : Visitor (InvP w0 p c T bl bt) (stepP T) T w0 75 #[.pointer (some ⟨bl, 0, none⟩), .pointer (some ⟨bt, 0, none⟩)] := by
  refine ⟨fun args w => by rfl, fun {g O W} h => ?_, fun {g O W W'} h hb => ?_, fun {g O W} h b hO => ?_, fun {g O W} n d hck hn h => ?_⟩
  · cases g with
    | none => exact h.1.1
    | some f => obtain ⟨br, h, _⟩ := h; exact h.be
  · cases g with
    | none =>
      obtain ⟨⟨h1, h2, h3, h4, h5⟩, h6⟩ := h
      exact ⟨⟨below_via hb h1, (hb.block _ (lt_of_block h2)).trans h2, (hb.block _ (lt_of_block h3)).trans h3, h4, h5⟩, h6⟩
    | some f => obtain ⟨br, h, ho⟩ := h; exact ⟨br, h.later hb, ho⟩
  · cases g with
    | none => rw [(h.2 b).1 hO]; exact lt_of_block h.1.2.2.1
    | some f =>
      obtain ⟨br, h, ho⟩ := h
      rcases (ho b).1 hO with rfl | rfl
      · exact lt_of_block h.lb
      · exact h.row.lt
  · have hkids := check_kids hck n hn
    have hN := check_len hck
    obtain ⟨_, _, p', c', e, _, _, hnd⟩ := hT
    injection e with e1 _ e2
    subst e1 e2
    obtain ⟨b, off, rfl, hb, hnd⟩ := hnd (by omega)
    obtain ⟨kv, cv, hkv, _, hc⟩ := hnd n hn
    obtain ⟨pk, ck, rfl, _, _, _, hkc⟩ := hkv
    have c3e := hc 3 (by omega)
    have HK := Lib.hid hkids
    have HC3 := Lib.hid (show w0.cell? ⟨b, off + n * 34 + 3, none⟩ = some (.slice pk (T.getD n zNd).kids.length ck) from c3e)
    have HKC := Lib.hid hkc
    have hst : (stepP T g n d).1 = some (setK n (T.getD n zNd).kids (g.getD iniP)) := rfl
    rw [hst]
    clear hkids hc hkc hnd c3e hst hck
    generalize (T.getD n zNd).kids = ks at *
    have hni : (n : Int) < (T.length : Int) := by omega
    have hn4 : (n : Int) < 4096 := by omega
    have qT : ∀ (w : World) (a : Option Addr) (n c n' c' : Nat), (binOp .eql 25 (.slice a n c) (.slice none n' c')).run Try.prog w = .ok (.bool a.isNone) w := fun w a n c n' c' => Lib.run_eql_slice_nil w _ _ a n c n' c' Try.underlying25
    cases g with
    | none =>
      obtain ⟨⟨BW, ht, hl, hlt, hzl⟩, hO⟩ := h
      have x0 := cell_of_one hl
      have xf := free_of_one hl
      have t0 := cell_of_one ht
      have zl := lt_of_block hl
      have zt := lt_of_block ht
      have nlt : ¬ bl = bt := hlt
      have mk := run_make_row' (P := Try.prog) 25 3 (.int .i64 0) 8 Try.underlying25 (by kernel_rfl) rfl .i64 .i64 T.length (by omega) (by omega)
      have HL := Lib.hid hl
      have HTB := Lib.hid ht
      have HO := Lib.hid hO
      clear hl ht hO
      go_enter Try.func75, Try.ntmps75
      go_upto_region 3 with (fail)
      generalize hw1 : World.alloc (World.setCell _ _ _) _ = w1
      obtain ⟨br, hbr⟩ : ∃ br, br = W.heap.size := ⟨_, rfl⟩
      have R1 : InvR w0 (some ⟨b, off, none⟩) c T bl bt br (fun _ => 0) w1 := by
        rw [← hw1, hbr]
        have z := BW.size
        have l1 := one_setCell (u := .slice (some ⟨W.heap.size, 0, none⟩) T.length T.length) HL.out
        have r1 := World.rowIs_made (W.setCell ⟨bl, 0, none⟩ (.slice (some ⟨W.heap.size, 0, none⟩) T.length T.length)) (.int .i64 0) T.length 3
        rw [World.size_setCell] at r1
        have ze : (W.setCell ⟨bl, 0, none⟩ (.slice (some ⟨W.heap.size, 0, none⟩) T.length T.length)).heap.size = W.heap.size := World.size_setCell _ _ _
        exact ⟨below_al (BW.setCell hzl _) _, (heap_alloc_old _ _ (by rw [ze]; exact zt)).trans ((blk_setCell_other _ _ _ _ (by simpa using fun e => hlt e.symm)).trans HTB.out), (heap_alloc_old _ _ (by rw [ze]; exact zl)).trans l1, r1, hlt, by omega, by omega, hzl, z⟩
      have FR1 : RowKit.Hid (W.heap.size ≤ w1.heap.size ∧ ∀ b, b < W.heap.size → b ≠ bl → b ≠ br → w1.heap[b]? = W.heap[b]?) := Lib.hid (by
        rw [← hw1]
        refine ⟨by simp, fun b hb h1 _ => ?_⟩
        rw [heap_alloc_old _ _ (by simpa using hb)]
        exact blk_setCell_other _ _ _ _ (by simpa using h1))
      have HR1 := Lib.hid R1
      rw [← hbr]
      have hbr1 : W.heap.size ≤ br := by omega
      have y0 := cell_of_one R1.lb
      have y1 := R1.row.cell (show 0 < T.length by omega)
      have y2 := R1.row.frozen 0
      have y3 := lt_of_block R1.lb
      have y4 := R1.row.lt
      have hT0 : (0 : Int) < (T.length : Int) := by omega
      clear hw1 R1 HL x0 xf t0 mk zl zt nlt hbr
      go_upto_region 4 with (fail)
      generalize hw2 : World.setCell _ _ _ = w2
      have HR : RowKit.Hid (InvR w0 (some ⟨b, off, none⟩) c T bl bt br iniP w2) := Lib.hid (by rw [← hw2]; exact HR1.out.set 0 (-1))
      have FR : RowKit.Hid (W.heap.size ≤ w2.heap.size ∧ ∀ b, b < W.heap.size → b ≠ bl → b ≠ br → w2.heap[b]? = W.heap[b]?) := Lib.hid (by
        rw [← hw2]
        refine ⟨by simpa using FR1.out.1, fun b hb h1 h2 => ?_⟩
        rw [blk_setCell_other _ _ _ _ (by simpa using h2)]
        exact FR1.out.2 b hb h1 h2)
      have HOB : RowKit.Hid (∀ b, b < W.heap.size → ¬ O b → b ≠ bl ∧ b ≠ br) := Lib.hid (fun b hb hO => ⟨fun e => hO ((HO.out b).2 e), by omega⟩)
      have HGB : RowKit.Hid (∀ b, b = bl ∨ b = br → O b ∨ W.heap.size ≤ b) := Lib.hid (fun b hb => hb.imp (fun e => (HO.out b).2 e) (fun e => by omega))
      obtain ⟨f0, hf0⟩ : ∃ f0, f0 = iniP := ⟨_, rfl⟩
      have HF0 := Lib.hid (show some (setK n ks f0) = some (setK n ks ((none : Option (Nat → Int)).getD iniP)) by rw [hf0]; rfl)
      rw [← hf0] at HR
      clear hw2 HR1 FR1 y0 y1 y2 y3 y4 hf0
      have t0 := cell_of_one HR.out.tb
      have zt := lt_of_block HR.out.tb
      have c3 : w2.cell? ⟨b, off + n * 34 + 3, none⟩ = some (.slice pk ks.length ck) := by rw [(bcell HR.out.be).1 _ _ hb]; exact HC3.out
      have hbw : b < w2.heap.size := by have := HR.out.be.size; omega
      have hkl : ks.length ≤ 9223372036854775807 := by omega
      go_wp2
      go_loopw [24] (fun i wr => ∃ j : Nat, j ≤ ks.length ∧ i = .int .i64 j ∧ RowKit.Hid (InvR w0 (some ⟨b, off, none⟩) c T bl bt br (setK n (ks.take j) f0) wr) ∧ RowKit.Hid (W.heap.size ≤ wr.heap.size ∧ ∀ b, b < W.heap.size → b ≠ bl → b ≠ br → wr.heap[b]? = W.heap[b]?)) (fun i _ => ks.length - (intOf i).toNat)
      case atStart => exact ⟨0, Nat.zero_le _, rfl, HR, FR⟩
      case round =>
        clear HR FR t0 zt c3 hbw
        obtain ⟨j, hj, rfl, HR, FR⟩ := hrel
        by_cases hlt : j < ks.length
        · have hji : (j : Int) < (ks.length : Int) := by omega
          obtain ⟨bk, ok, rfl, hbk, hkc⟩ := HKC.out (by omega)
          have ck0 := hkc j hlt
          rw [← (bcell HR.out.be).1 _ _ hbk] at ck0
          have hbkw : bk < wr.heap.size := by have := HR.out.be.size; omega
          have hqr := HK.out (ks.getD j 0) (by rw [List.getD_eq_getElem?_getD, List.getElem?_eq_getElem hlt]; exact List.getElem_mem hlt)
          obtain ⟨q, hq⟩ : ∃ q : Nat, ks.getD j 0 = (q : Int) := ⟨(ks.getD j 0).toNat, by omega⟩
          rw [hq] at ck0 hqr
          have HQ := Lib.hid hq
          have hqN : q < T.length := by omega
          have hqi : (q : Int) < (T.length : Int) := by omega
          have y0 := cell_of_one HR.out.lb
          have y1 := HR.out.row.cell hqN
          have y2 := HR.out.row.frozen q
          have y3 := lt_of_block HR.out.lb
          have y4 := HR.out.row.lt
          have HR' := Lib.hid (show InvR w0 (some ⟨b, off, none⟩) c T bl bt br (setK n (ks.take (j + 1)) f0) (wr.setCell ⟨br, q, none⟩ (.int .i64 (n : Int))) by
            have e : setK n (ks.take (j + 1)) f0 = upd (setK n (ks.take j) f0) q (n : Int) := by
              unfold setK
              rw [List.take_succ_eq_append_getElem hlt, List.foldl_append, List.foldl_cons, List.foldl_nil]
              have := HQ.out
              rw [List.getD_eq_getElem?_getD, List.getElem?_eq_getElem hlt] at this
              simp only [Option.getD_some] at this
              rw [this, Int.toNat_natCast]
            rw [e]
            exact HR.out.set q (n : Int))
          have FR' : RowKit.Hid (W.heap.size ≤ (wr.setCell ⟨br, q, none⟩ (.int .i64 (n : Int))).heap.size ∧ ∀ b, b < W.heap.size → b ≠ bl → b ≠ br → (wr.setCell ⟨br, q, none⟩ (.int .i64 (n : Int))).heap[b]? = W.heap[b]?) := Lib.hid ⟨by simpa using FR.out.1, fun b hb h1 h2 => by
            rw [blk_setCell_other _ _ _ _ (by simpa using h2)]
            exact FR.out.2 b hb h1 h2⟩
          clear HR FR hkc hq
          go_wp2
          go_roundw
          case rel => exact ⟨j + 1, by omega, by go_num, HR', FR'⟩
          case measure => simp [intOf]; omega
        · obtain rfl : j = ks.length := by omega
          have HP := Lib.hid (show DPost (InvP w0 (some ⟨b, off, none⟩) c T bl bt) (some (setK n ks f0)) O W wr by
            have h := HR.out
            rw [List.take_length] at h
            exact ⟨fun b => b = bl ∨ b = br, ⟨br, h, fun _ => Iff.rfl⟩, FR.out.1, fun b hb hO => FR.out.2 b hb (HOB.out b hb hO).1 (HOB.out b hb hO).2, HGB.out⟩)
          clear hlt hj HR FR
          go_wp2
          go_ret
          exact ⟨rfl, by rw [← HF0.out]; exact HP.out⟩
    | some f =>
      obtain ⟨br, hR, hO⟩ := h
      have x0 := cell_of_one hR.lb
      have t0 := cell_of_one hR.tb
      have zl := lt_of_block hR.lb
      have zt := lt_of_block hR.tb
      have HR := Lib.hid hR
      have FR : RowKit.Hid (W.heap.size ≤ W.heap.size ∧ ∀ b, b < W.heap.size → b ≠ bl → b ≠ br → W.heap[b]? = W.heap[b]?) := Lib.hid ⟨Nat.le_refl _, fun _ _ _ _ => rfl⟩
      have HOB : RowKit.Hid (∀ b, b < W.heap.size → ¬ O b → b ≠ bl ∧ b ≠ br) := Lib.hid (fun b hb h => ⟨fun e => h ((hO b).2 (.inl e)), fun e => h ((hO b).2 (.inr e))⟩)
      have HGB : RowKit.Hid (∀ b, b = bl ∨ b = br → O b ∨ W.heap.size ≤ b) := Lib.hid (fun b hb => .inl ((hO b).2 hb))
      obtain ⟨f0, hf0⟩ : ∃ f0, f0 = f := ⟨_, rfl⟩
      have HF0 := Lib.hid (show some (setK n ks f0) = some (setK n ks ((some f).getD iniP)) by rw [hf0]; rfl)
      rw [← hf0] at HR
      clear hR hO hf0
      go_enter Try.func75, Try.ntmps75
      go_upto_region 4 with (fail)
      obtain ⟨w2, hw2⟩ : ∃ w2, w2 = W := ⟨_, rfl⟩
      have FR2 : RowKit.Hid (W.heap.size ≤ w2.heap.size ∧ ∀ b, b < W.heap.size → b ≠ bl → b ≠ br → w2.heap[b]? = W.heap[b]?) := Lib.hid (by rw [hw2]; exact FR.out)
      have HR2 : RowKit.Hid (InvR w0 (some ⟨b, off, none⟩) c T bl bt br f0 w2) := Lib.hid (by rw [hw2]; exact HR.out)
      rw [← hw2]
      clear hw2 FR HR x0 t0 zl zt
      have FR := FR2
      have HR := HR2
      clear FR2 HR2
      have t0 := cell_of_one HR.out.tb
      have zt := lt_of_block HR.out.tb
      have c3 : w2.cell? ⟨b, off + n * 34 + 3, none⟩ = some (.slice pk ks.length ck) := by rw [(bcell HR.out.be).1 _ _ hb]; exact HC3.out
      have hbw : b < w2.heap.size := by have := HR.out.be.size; omega
      have hkl : ks.length ≤ 9223372036854775807 := by omega
      go_wp2
      go_loopw [24] (fun i wr => ∃ j : Nat, j ≤ ks.length ∧ i = .int .i64 j ∧ RowKit.Hid (InvR w0 (some ⟨b, off, none⟩) c T bl bt br (setK n (ks.take j) f0) wr) ∧ RowKit.Hid (W.heap.size ≤ wr.heap.size ∧ ∀ b, b < W.heap.size → b ≠ bl → b ≠ br → wr.heap[b]? = W.heap[b]?)) (fun i _ => ks.length - (intOf i).toNat)
      case atStart => exact ⟨0, Nat.zero_le _, rfl, HR, FR⟩
      case round =>
        clear HR FR t0 zt c3 hbw
        obtain ⟨j, hj, rfl, HR, FR⟩ := hrel
        by_cases hlt : j < ks.length
        · have hji : (j : Int) < (ks.length : Int) := by omega
          obtain ⟨bk, ok, rfl, hbk, hkc⟩ := HKC.out (by omega)
          have ck0 := hkc j hlt
          rw [← (bcell HR.out.be).1 _ _ hbk] at ck0
          have hbkw : bk < wr.heap.size := by have := HR.out.be.size; omega
          have hqr := HK.out (ks.getD j 0) (by rw [List.getD_eq_getElem?_getD, List.getElem?_eq_getElem hlt]; exact List.getElem_mem hlt)
          obtain ⟨q, hq⟩ : ∃ q : Nat, ks.getD j 0 = (q : Int) := ⟨(ks.getD j 0).toNat, by omega⟩
          rw [hq] at ck0 hqr
          have HQ := Lib.hid hq
          have hqN : q < T.length := by omega
          have hqi : (q : Int) < (T.length : Int) := by omega
          have y0 := cell_of_one HR.out.lb
          have y1 := HR.out.row.cell hqN
          have y2 := HR.out.row.frozen q
          have y3 := lt_of_block HR.out.lb
          have y4 := HR.out.row.lt
          have HR' := Lib.hid (show InvR w0 (some ⟨b, off, none⟩) c T bl bt br (setK n (ks.take (j + 1)) f0) (wr.setCell ⟨br, q, none⟩ (.int .i64 (n : Int))) by
            have e : setK n (ks.take (j + 1)) f0 = upd (setK n (ks.take j) f0) q (n : Int) := by
              unfold setK
              rw [List.take_succ_eq_append_getElem hlt, List.foldl_append, List.foldl_cons, List.foldl_nil]
              have := HQ.out
              rw [List.getD_eq_getElem?_getD, List.getElem?_eq_getElem hlt] at this
              simp only [Option.getD_some] at this
              rw [this, Int.toNat_natCast]
            rw [e]
            exact HR.out.set q (n : Int))
          have FR' : RowKit.Hid (W.heap.size ≤ (wr.setCell ⟨br, q, none⟩ (.int .i64 (n : Int))).heap.size ∧ ∀ b, b < W.heap.size → b ≠ bl → b ≠ br → (wr.setCell ⟨br, q, none⟩ (.int .i64 (n : Int))).heap[b]? = W.heap[b]?) := Lib.hid ⟨by simpa using FR.out.1, fun b hb h1 h2 => by
            rw [blk_setCell_other _ _ _ _ (by simpa using h2)]
            exact FR.out.2 b hb h1 h2⟩
          clear HR FR hkc hq
          go_wp2
          go_roundw
          case rel => exact ⟨j + 1, by omega, by go_num, HR', FR'⟩
          case measure => simp [intOf]; omega
        · obtain rfl : j = ks.length := by omega
          have HP := Lib.hid (show DPost (InvP w0 (some ⟨b, off, none⟩) c T bl bt) (some (setK n ks f0)) O W wr by
            have h := HR.out
            rw [List.take_length] at h
            exact ⟨fun b => b = bl ∨ b = br, ⟨br, h, fun _ => Iff.rfl⟩, FR.out.1, fun b hb hO => FR.out.2 b hb (HOB.out b hb hO).1 (HOB.out b hb hO).2, HGB.out⟩)
          clear hlt hj HR FR
          go_wp2
          go_ret
          exact ⟨rfl, by rw [← HF0.out]; exact HP.out⟩
theorem parL_none {T : List Nd} (h : walkS (stepP T) T none = none) : parL T = [] := by unfold parL; rw [h]
theorem parL_some {T : List Nd} {f : Nat → Int} (h : walkS (stepP T) T none = some f) : parL T = (List.range T.length).map f := by unfold parL; rw [h]
theorem rowIs_own {w : World} {b N base : Nat} {f : Nat → Int} (h : w.rowIs b 3 N (fun i => .int .i64 (f i))) (hb : base ≤ b) (hN : N ≤ maxLen) : w.ownsRow base 3 1 (.slice (some ⟨b, 0, none⟩) N N) N (((List.range N).map f).map (Value.int .i64)) := by
  obtain ⟨c, h1, h2, h3⟩ := h
  refine ⟨by simp, .inr ⟨b, N, c, rfl, hb, h1, Nat.le_refl _, hN, by omega, ?_⟩⟩
  apply List.ext_getElem?
  intro i
  by_cases hi : i < N
  · rw [List.getElem?_take_of_lt (by omega), Array.getElem?_toList, h3 i hi]
    simp [hi]
  · rw [List.getElem?_eq_none (by simp; omega), List.getElem?_eq_none (by simp; omega)]
set_option maxRecDepth 100000 in
set_option maxHeartbeats 16000000 in
theorem tree_Parents_any (p : Option Addr) (c : Nat) (T : List Nd) (w : World) (hT : TreeAt w (.slice p T.length c) T) : Calls Try.prog 49 #[.agg #[.slice p T.length c]] w fun e w' => ∃ v, e = .returned v ∧ w'.ownsRow w.heap.size 3 1 v (parL T).length ((parL T).map (Value.int .i64)) ∧ Below w.heap.size w w' := by
  have V := parents_visitor w p c T (w.heap.size + 1) w.heap.size hT
  have hlen := hT.len
  have HI : InvP w p c T (w.heap.size + 1) w.heap.size none (fun b => b = w.heap.size + 1) ((w.alloc (.cells #[.slice p T.length c] 24)).alloc (.cells #[.slice none 0 0] 25)) := by
    refine ⟨⟨below_al (below_al (Below.refl _ _) _) _, ?_, ?_, by omega, by omega⟩, fun b => Iff.rfl⟩
    · exact (heap_alloc_old _ _ (by simp)).trans (heap_alloc_new _ _)
    · have := heap_alloc_new (w.alloc (.cells #[.slice p T.length c] 24)) (.cells #[.slice none 0 0] 25)
      rwa [World.size_alloc] at this
  have HW := Lib.hid (walk_any V p c hT none _ _ HI)
  have hmf : ∀ (fn : Fn) (first cap : Array Value) (w : World), (Instr.makeFunc fn first cap).run Try.prog w = .ok (.func fn first cap) w := fun _ _ _ _ => rfl
  clear V HI hT
  go_enter Try.func49, Try.ntmps49
  go_wp2_with fail
  refine HW.out.mono ?_
  clear HW
  rintro e w1 ⟨rfl, O', hI, hz, hfr, hg⟩
  obtain ⟨R, hR⟩ : ∃ R, R = walkS (stepP T) T none := ⟨_, rfl⟩
  rw [← hR] at hI
  cases R with
  | none =>
    have HP := Lib.hid (parL_none hR.symm)
    obtain ⟨⟨B1, _, hl, _, _⟩, _⟩ := hI
    have x0 := cell_of_one hl
    have z0 := lt_of_block hl
    clear hR hz hfr hg hl
    go_wp2
    go_ret
    exact ⟨_, rfl, by rw [HP.out]; exact ⟨rfl, .inl ⟨rfl, rfl⟩⟩, B1⟩
  | some f =>
    have HP := Lib.hid (parL_some hR.symm)
    obtain ⟨br, hI, _⟩ := hI
    have x0 := cell_of_one hI.lb
    have z0 := lt_of_block hI.lb
    have HI := Lib.hid hI
    clear hR hz hfr hg hI
    go_wp2
    go_ret
    exact ⟨_, rfl, by rw [HP.out]; simpa using rowIs_own HI.out.row HI.out.zr (by unfold maxLen; omega), HI.out.be⟩
end Go.Proofs.Ytihjefncjkdnpaa
