/- TreeWalk: its visitor; the walk. -/
import Derived.Test.YtcihihncgpddfaaLwA
import Derived.Test.YtcihihncgpddfaaOdD
namespace Go.Proofs.Ytcihihncgpddfaa
open Go.RowKit Go.Deep
set_option linter.unusedVariables false
set_option linter.unusedSimpArgs false

theorem infoVisit2_ : (Try.prog.info? 50).map (fun i => (i.zero, i.size, i.bytes)) = some (some (.agg #[.int .i64 0, .int .i64 0]), 2, 16) := by kernel_rfl
structure InvWs (w0 : World) (bl : Nat) (v : Value) (g : List (Int × Int)) (W : World) : Prop where
  be : Below w0.heap.size w0 W
  lb : W.heap[bl]? = some (.cells #[v] 46 (0, 0))
  own : W.ownsRow w0.heap.size 50 2 v g.length (cellsO g)
  zl : w0.heap.size ≤ bl
def InvW (w0 : World) (bl : Nat) (g : List (Int × Int)) (O : Nat → Prop) (W : World) : Prop := ∃ v, InvWs w0 bl v g W ∧ ∀ b, O b ↔ (b = bl ∨ v.ownBlock = some b)
theorem InvWs.later {w0 W W' : World} {bl : Nat} {v : Value} {g : List (Int × Int)} (h : InvWs w0 bl v g W) (hb : Below W.heap.size W W') : InvWs w0 bl v g W' :=
  ⟨below_via hb h.be, (hb.block _ (lt_of_block h.lb)).trans h.lb, row_later h.own hb, h.zl⟩
theorem InvWs.push {w0 W W1 W2 : World} {bl : Nat} {v v' : Value} {g : List (Int × Int)} {a b : Int} {m : Nat} {xs : List Value} (h : InvWs w0 bl v g W) (hb : Below W.heap.size W W1) (own : W2.ownsRow w0.heap.size 50 2 v' m xs) (hm : m = g.length + 1) (hxs : xs = cellsO g ++ [.int .i64 a, .int .i64 b]) (gr : W1.grownBy W2 v.ownBlock) (pl : v'.ownBlock = v.ownBlock ∨ v'.ownBlock = some W1.heap.size) :
    W2.heap[bl]? = some (.cells #[v] 46 (0, 0)) ∧ InvWs w0 bl v' (g ++ [(a, b)]) (W2.setCell ⟨bl, 0, none⟩ v') ∧ W.heap.size ≤ W2.heap.size ∧ (∀ b, b < W.heap.size → b ≠ bl → v.ownBlock ≠ some b → (W2.setCell ⟨bl, 0, none⟩ v').heap[b]? = W.heap[b]?) ∧ (∀ b, v'.ownBlock = some b → v.ownBlock = some b ∨ W.heap.size ≤ b) := by
  have h1 := h.later hb
  have zl := lt_of_block h.lb
  have z0 := h.be.size
  have z1 := hb.size
  have z2 := gr.size
  subst hm hxs
  have hbk : W2.heap[bl]? = some (.cells #[v] 46 (0, 0)) := keep_blk gr (row_kind h1.own) h1.lb (by decide)
  have hBe : Below w0.heap.size w0 W2 := Below.grown h1.be gr (by omega) (fun k hk => (row_lt h1.own k hk).2)
  refine ⟨hbk, ⟨hBe.setCell (p := ⟨bl, 0, none⟩) h.zl _, one_set hbk, ?_, h.zl⟩, by omega, fun b hb1 hb2 hb3 => ?_, fun b hb' => ?_⟩
  · have ks : ∀ q, some bl = some q → ∃ cur fr, W2.heap[q]? = some (.cells cur 46 fr) := fun q e => by injection e with e; exact ⟨_, _, e ▸ hbk⟩
    have := keep_row (setCell_grown W2 ⟨bl, 0, none⟩ v') ks own (by decide)
    rw [cellsO_snoc, List.length_append]
    exact this
  · rw [heap_setCell_other W2 ⟨bl, 0, none⟩ b v' (by simpa using hb2), gr.block b (by omega) (fun e => hb3 e.symm), hb.block b hb1]
  · rcases pl with e | e
    · left; rw [← e]; exact hb'
    · right; rw [e] at hb'; injection hb' with hb'; omega
theorem DPost.later {γ : Type} {Inv : γ → (Nat → Prop) → World → Prop} {g : γ} {O : Nat → Prop} {W W1 W2 : World} (hl : ∀ g O W W', Inv g O W → Below W.heap.size W W' → Inv g O W') (h : DPost Inv g O W W1) (hb : Below W1.heap.size W1 W2) : DPost Inv g O W W2 := by
  obtain ⟨O', h1, h2, h3, h4⟩ := h
  have z := hb.size
  exact ⟨O', hl _ _ _ _ h1 hb, by omega, fun b hb' hO => (hb.block b (by omega)).trans (h3 b hb' hO), h4⟩
theorem InvW.later {w0 : World} {bl : Nat} {g : List (Int × Int)} {O : Nat → Prop} {W W' : World} (h : InvW w0 bl g O W) (hb : Below W.heap.size W W') : InvW w0 bl g O W' := by
  obtain ⟨v, h, hO⟩ := h
  exact ⟨v, h.later hb, hO⟩
set_option maxRecDepth 100000 in
set_option maxHeartbeats 8000000 in
theorem walk_visitor (w0 : World) (bl bs : Nat) (sv : Value) (stop : List Int) (T : List Nd) (hs : w0.heap[bs]? = some (.cells #[sv] 45 (0, 0))) (hS : IntsAt w0 sv stop) : VisitorO (InvW w0 bl) (stepV stop) T (fun g _ _ => g.length < 4096) w0 27 #[.pointer (some ⟨bl, 0, none⟩), .pointer (some ⟨bs, 0, none⟩)] := by
  refine ⟨fun args w => by rfl, fun {g O W} h => ?_, fun {g O W W'} h hb => h.later hb, fun {g O W} h b hO => ?_, fun {g O W} n d hck hn hg h => ?_⟩
  · obtain ⟨v, h, _⟩ := h; exact h.be
  · obtain ⟨v, h, hO'⟩ := h
    rcases (hO' b).1 hO with rfl | e
    · exact lt_of_block h.lb
    · exact (row_lt h.own b e).1
  · obtain ⟨v, h, hO⟩ := h
    obtain ⟨ps, cs, rfl, hl, hm, _, hsc⟩ := hS
    obtain ⟨s2, hs2⟩ : ∃ b, b = (stepV stop g n d).2 := ⟨_, rfl⟩
    rw [← hs2]
    have HS2 := Lib.hid hs2
    obtain ⟨i0, hi, hz0, hz1, hz2⟩ := info_parts infoVisit2_
    have HI := Lib.hid (And.intro hi (And.intro hz0 (And.intro hz1 hz2)))
    have x0 := cell_of_one h.lb
    have zl := lt_of_block h.lb
    have z0 := h.be.size
    have HO := Lib.hid hO
    have BA : Below W.heap.size W (W.alloc (.cells [[.int .i64 (n : Int), .int .i64 (d : Int)]].flatten.toArray 50)) := below_al (Below.refl _ _) _
    have HBA := Lib.hid BA
    have HOWN := Lib.hid (row_later h.own BA)
    have SR := Lib.hid (src_new W [[.int .i64 (n : Int), .int .i64 (d : Int)]].flatten.toArray 50 1 2 rfl)
    have HH := Lib.hid h
    have HON := Lib.hid (show ∀ u ∈ [Value.int .i64 (n : Int), .int .i64 (d : Int)], u.oneCell' = true from fun u hu => by simp at hu; rcases hu with rfl | rfl <;> rfl)
    have h63 : g.length + 1 ≤ maxLen := by unfold maxLen; omega
    have HSC := Lib.hid hsc
    have HSB := Lib.hid hs
    have hsl : stop.length ≤ 9223372036854775807 := by omega
    clear hi hz0 hz1 hz2 h hO hs2 hsc hs BA hl hm
    go_enter Try.func27, Try.ntmps27
    go_wp2_with (first | ((with_reducible refine wpList_buildSlice_all _ ?b1 46 50 1 #[(0, .tmp 11)] ?b2 i0 _ 2 Try.underlying46 HI.out.1 HI.out.2.1 HI.out.2.2.1 ?b6 [[.int .i64 (n : Int), .int .i64 (d : Int)]] ?b7 ?b3 ?b4 ?b5 ?_); (case b1 => rfl); (case b2 => rfl); (case b6 => decide); (case b7 => rfl); (case b3 => rfl); (case b4 => (intro a ha; rw [List.mem_singleton] at ha; rw [ha]; rfl)); (case b5 => (show 1 * 2 ≤ 16777216; decide))) | (at_builtin; go_must (refine wpList_append_src _ rfl (.tmp 8) (.tmp 12) 46 rfl w0.heap.size 50 i0 _ 2 16 Try.underlying46 HI.out.1 HI.out.2.1 HI.out.2.2.1 HI.out.2.2.2 rfl (by decide) _ g.length _ rfl HOWN.out (some ⟨W.heap.size, 0, none⟩) 1 1 _ rfl SR.out ?n1 h63 ?n2 ?n3 ?_)))
    case n1 => first | exact ⟨rfl, rfl⟩ | exact HON.out | (intro u hu; exact HON.out u (by simpa using hu))
    case n2 => omega
    case n3 => first | omega | (simp; omega)
    intro v' W1 own gr pl
    obtain ⟨hb, HI', hsz, hfr, hgr⟩ := HH.out.push HBA.out own rfl rfl (by simpa using gr) (by simpa using pl)
    obtain ⟨gv, cv, rfl⟩ : ∃ q c, v' = .slice (some ⟨q, 0, none⟩) (g.length + 1) c := by
      rcases row_form own with ⟨_, h0, _⟩ | ⟨g, c, h1, _⟩
      · omega
      · exact ⟨g, c, h1⟩
    have HP := Lib.hid (show DPost (InvW w0 bl) (stepV stop g n d).1 O W (W1.setCell ⟨bl, 0, none⟩ (.slice (some ⟨gv, 0, none⟩) (g.length + 1) cv)) from ⟨fun b => b = bl ∨ (Value.slice (some ⟨gv, 0, none⟩) (g.length + 1) cv).ownBlock = some b, ⟨_, HI', fun _ => Iff.rfl⟩, by simpa using hsz, fun b hb hO => hfr b hb (fun e => hO ((HO.out b).2 (.inl e))) (fun e => hO ((HO.out b).2 (.inr e))), fun b hb => by
      rcases hb with e | e
      · exact .inl ((HO.out b).2 (.inl e))
      · exact (hgr b e).imp (fun e => (HO.out b).2 (.inr e)) id⟩)
    have BE2 := Lib.hid HI'.be
    have x1 := cell_of_one hb
    have f1 := free_of_one hb
    have z1 := lt_of_block hb
    clear hb HI' hsz hfr hgr own gr pl HH HO HOWN HON x0 SR HBA
    go_upto_region 2 with (fail)
    generalize hW2 : World.setCell _ _ _ = W2
    rw [hW2] at HP BE2
    have y0 : W2.cell? ⟨bs, 0, none⟩ = some (.slice ps stop.length cs) := cell_of_one ((BE2.out.block _ (lt_of_block HSB.out)).trans HSB.out)
    have y0z : bs < W2.heap.size := lt_of_block ((BE2.out.block _ (lt_of_block HSB.out)).trans HSB.out)
    have Y0 := Lib.hid y0
    clear x1 f1 z1 hW2 zl
    go_wp2
    go_loopw [7] (fun iv wr => ∃ k : Nat, k ≤ stop.length ∧ iv = .int .i64 k ∧ RowKit.Hid (∀ j, j < k → stop.getD j 0 ≠ (n : Int)) ∧ RowKit.Hid (Below W2.heap.size W2 wr)) (fun iv _ => stop.length - (intOf iv).toNat)
    case atStart => exact ⟨0, Nat.zero_le _, rfl, Lib.hid (fun j hj => absurd hj (Nat.not_lt_zero _)), Lib.hid (Below.refl _ _)⟩
    case round =>
      clear y0 
      obtain ⟨k, hk, rfl, HA, BW⟩ := hrel
      have SW := BW.out.size
      have y0 : wr.cell? ⟨bs, 0, none⟩ = some (.slice ps stop.length cs) := by rw [(bcell BW.out).1 _ _ y0z]; exact Y0.out
      have y1z : bs < wr.heap.size := by omega
      by_cases hlt : k < stop.length
      · have hki : (k : Int) < (stop.length : Int) := by omega
        obtain ⟨b, off, rfl, hb, hcc⟩ := HSC.out (by omega)
        have c1 : wr.cell? ⟨b, off + k, none⟩ = some (.int .i64 (stop.getD k 0)) := by rw [(bcell (below_via BW.out BE2.out)).1 _ _ hb]; exact hcc k hlt
        have hbw : b < wr.heap.size := by have := (below_via BW.out BE2.out).size; omega
        clear hcc
        by_cases he : stop.getD k 0 = (n : Int)
        · have HS3 := Lib.hid (show s2 = false by
            rw [HS2.out]
            show (!(stop.any fun s => decide (s = (n : Int)))) = false
            rw [Bool.not_eq_false', List.any_eq_true]
            refine ⟨stop.getD k 0, ?_, by rw [decide_eq_true_eq]; exact he⟩
            rw [List.getD_eq_getElem?_getD, List.getElem?_eq_getElem hlt]
            exact List.getElem_mem hlt)
          rw [he] at c1
          have hbq : ((n : Int) == (n : Int)) = true := by rw [beq_iff_eq]
          have HF := Lib.hid (DPost.later (Inv := InvW w0 bl) (fun _ _ _ _ h hb => InvW.later h hb) HP.out BW.out)
          clear he HA HP
          go_wp2
          go_ret
          exact ⟨ret_bool HS3.out.symm, HF.out⟩
        · have hbq : (stop.getD k 0 == (n : Int)) = false := beq_eq_false_iff_ne.2 he
          have HA' := Lib.hid (show ∀ j, j < k + 1 → stop.getD j 0 ≠ (n : Int) from fun j hj => by
            by_cases e : j = k
            · subst e; exact he
            · exact HA.out j (by omega))
          generalize stop.getD k 0 = x at c1 hbq
          clear he HA
          go_wp2
          go_roundw
          case rel => exact ⟨k + 1, by omega, by go_num, HA', BW⟩
          case measure => simp [intOf]; omega
      · obtain rfl : k = stop.length := by omega
        have HS3 := Lib.hid (show s2 = true by
          rw [HS2.out]
          show (!(stop.any fun s => decide (s = (n : Int)))) = true
          rw [Bool.not_eq_true', List.any_eq_false]
          intro s hs
          obtain ⟨i, hi, rfl⟩ := List.getElem_of_mem hs
          have := HA.out i hi
          rw [List.getD_eq_getElem?_getD, List.getElem?_eq_getElem hi] at this
          simpa using this)
        have HF := Lib.hid (DPost.later (Inv := InvW w0 bl) (fun _ _ _ _ h hb => InvW.later h hb) HP.out BW.out)
        clear hlt hk HA HP
        go_wp2
        go_ret
        exact ⟨ret_bool HS3.out.symm, HF.out⟩
set_option maxRecDepth 100000 in
set_option maxHeartbeats 8000000 in
theorem tree_Walk_nil (p : Option Addr) (c : Nat) (T : List Nd) (w : World) (hT : TreeAt w (.slice p T.length c) T) : Calls Try.prog 26 #[.agg #[.slice p T.length c], .nilFunc] w fun e w' => e = .returned (.tuple #[]) ∧ Below w.heap.size w w' := by
  have hnil : ∀ w : World, (binOp .eql 51 .nilFunc .nilFunc).run Try.prog w = .ok (.bool true) w := fun w => rfl
  obtain ⟨w1, hw1⟩ : ∃ x, x = w.alloc (.cells #[.slice p T.length c] 24) := ⟨_, rfl⟩
  have B1 : Below w.heap.size w w1 := by rw [hw1]; exact below_al (Below.refl _ _) _
  have HB1 := Lib.hid B1
  have HT1 := Lib.hid (hT.later B1)
  clear B1 hT
  go_enter Try.func26, Try.ntmps26
  go_wp2_with fail
  rw [← hw1]
  clear hw1
  refine (tree_Check_any p c T w1 HT1.out).mono ?_
  generalize (checkT T).1 = cd
  generalize (checkT T).2 = c2
  rintro e w2 ⟨rfl, hb2⟩
  have HB2 := Lib.hid (below_via hb2 HB1.out)
  clear hb2 HB1 HT1
  cases hcd : (cd != 0)
  all_goals
    go_wp2
    exact bodyPost_ret (v := .tuple #[]) (results_none rfl _ _ _) rfl ⟨rfl, HB2.out⟩
end Go.Proofs.Ytcihihncgpddfaa
