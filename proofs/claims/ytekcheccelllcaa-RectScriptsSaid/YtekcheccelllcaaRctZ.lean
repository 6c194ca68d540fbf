/- Contract of the reference's Minus. -/
import Derived.Test.YtekcheccelllcaaRctV
import Derived.Test.YtekcheccelllcaaRctS
namespace Go.Proofs.Ytekcheccelllcaa
open Go.RowKit
set_option linter.unusedVariables false
set_option linter.unusedSimpArgs false

theorem getD_map (L : List R4) (k : Nat) (h : k < L.length) : (L.map mkB).getD k zR = mkB (L.getD k zR) := by
  simp [List.getD_eq_getElem?_getD, h]

set_option maxRecDepth 100000 in
set_option maxHeartbeats 16000000 in
theorem ref_Minus_any (ax ay aw ah bx b2 bw bh : Int) (w : World) (hax : -9223372036854775808 ≤ ax ∧ ax ≤ 9223372036854775807) (hay : -9223372036854775808 ≤ ay ∧ ay ≤ 9223372036854775807) (haw : -9223372036854775808 ≤ aw ∧ aw ≤ 9223372036854775807) (hah : -9223372036854775808 ≤ ah ∧ ah ≤ 9223372036854775807) (hbx : -9223372036854775808 ≤ bx ∧ bx ≤ 9223372036854775807) (hb2 : -9223372036854775808 ≤ b2 ∧ b2 ≤ 9223372036854775807) (hbw : -9223372036854775808 ≤ bw ∧ bw ≤ 9223372036854775807) (hbh : -9223372036854775808 ≤ bh ∧ bh ≤ 9223372036854775807) : Calls Try.prog 20 #[.agg #[.int .i64 ax, .int .i64 ay, .int .i64 aw, .int .i64 ah], .agg #[.int .i64 bx, .int .i64 b2, .int .i64 bw, .int .i64 bh]] w fun e w' => ∃ v, e = .returned v ∧ OwnR w' w.heap.size v (minusR ⟨ax, ay, aw, ah⟩ ⟨bx, b2, bw, bh⟩) ∧ Below w.heap.size w w' := by
  have im := isR_meet ⟨ax, ay, aw, ah⟩ ⟨bx, b2, bw, bh⟩
  cases ok1 : okB ax ay aw ah
  · rw [show minusR ⟨ax, ay, aw, ah⟩ ⟨bx, b2, bw, bh⟩ = [] by unfold minusR okR4; rw [ok1]; rfl]
    obtain ⟨i0, hi, hz0, hz1, hz2⟩ := info_parts infoRect
    go_enter Try.func20, Try.ntmps20
    go_wp2_with fail
    refine (ref_Ends_any _ _ _ _ _ hax hay haw hah).mono ?_
    rw [ok_same, ok1]
    rintro e w1 ⟨rfl, hb1⟩
    have B1 : Below w.heap.size w w1 := below_via hb1 (below_al (below_al (Below.refl _ _) _) _)
    have S1 := B1.size
    have F1 : w.heap.size < w1.heap.size ∧ w.heap.size + 1 < w1.heap.size ∧ w1.cell? ⟨w.heap.size, 0, none⟩ = some (.int .i64 ax) ∧ w1.cell? ⟨w.heap.size, 1, none⟩ = some (.int .i64 ay) ∧ w1.cell? ⟨w.heap.size, 2, none⟩ = some (.int .i64 aw) ∧ w1.cell? ⟨w.heap.size, 3, none⟩ = some (.int .i64 ah) ∧ w1.cell? ⟨w.heap.size + 1, 0, none⟩ = some (.int .i64 bx) ∧ w1.cell? ⟨w.heap.size + 1, 1, none⟩ = some (.int .i64 b2) ∧ w1.cell? ⟨w.heap.size + 1, 2, none⟩ = some (.int .i64 bw) ∧ w1.cell? ⟨w.heap.size + 1, 3, none⟩ = some (.int .i64 bh) := by
      obtain ⟨hc, hf⟩ := bcell hb1
      have hz := hb1.size
      (try simp only [World.size_alloc, World.size_drew, World.size_setCell] at hz)
      (repeat' apply And.intro) <;> (first | omega | (rw [hc _ _ (by first | omega | (simp only [World.size_alloc, World.size_drew, World.size_setCell]; omega))]; first | (simp [go_sem]; done) | (simp [*]; done)) | (rw [hf _ _ (by first | omega | (simp only [World.size_alloc, World.size_drew, World.size_setCell]; omega))]; first | (simp [go_sem]; done) | (simp [*]; done)))
    clear hb1
    go_wp2
    go_ret
    exact ⟨_, rfl, World.ownsRow_nil _ _ _ _, by go_grown⟩
  · cases ok2 : okB (meetR ⟨ax, ay, aw, ah⟩ ⟨bx, b2, bw, bh⟩).x (meetR ⟨ax, ay, aw, ah⟩ ⟨bx, b2, bw, bh⟩).y (meetR ⟨ax, ay, aw, ah⟩ ⟨bx, b2, bw, bh⟩).w (meetR ⟨ax, ay, aw, ah⟩ ⟨bx, b2, bw, bh⟩).h
    · rw [show minusR ⟨ax, ay, aw, ah⟩ ⟨bx, b2, bw, bh⟩ = [mkB (endsR ⟨ax, ay, aw, ah⟩)] by unfold minusR okR4; rw [ok1, ok2]; rfl]
      have s1 := side_same ax aw (okB_spec.1 ok1).1; have s2 := side_same ay ah (okB_spec.1 ok1).2
      obtain ⟨i0, hi, hz0, hz1, hz2⟩ := info_parts infoRect
      go_enter Try.func20, Try.ntmps20
      go_wp2_with fail
      refine (ref_Ends_any _ _ _ _ _ hax hay haw hah).mono ?_
      rw [ok_same, ok1, s1.1, s1.2, s2.1, s2.2]
      rintro e w1 ⟨rfl, hb1⟩
      have B1 : Below w.heap.size w w1 := below_via hb1 (below_al (below_al (Below.refl _ _) _) _)
      have S1 := B1.size
      have F1 : w.heap.size < w1.heap.size ∧ w.heap.size + 1 < w1.heap.size ∧ w1.cell? ⟨w.heap.size, 0, none⟩ = some (.int .i64 ax) ∧ w1.cell? ⟨w.heap.size, 1, none⟩ = some (.int .i64 ay) ∧ w1.cell? ⟨w.heap.size, 2, none⟩ = some (.int .i64 aw) ∧ w1.cell? ⟨w.heap.size, 3, none⟩ = some (.int .i64 ah) ∧ w1.cell? ⟨w.heap.size + 1, 0, none⟩ = some (.int .i64 bx) ∧ w1.cell? ⟨w.heap.size + 1, 1, none⟩ = some (.int .i64 b2) ∧ w1.cell? ⟨w.heap.size + 1, 2, none⟩ = some (.int .i64 bw) ∧ w1.cell? ⟨w.heap.size + 1, 3, none⟩ = some (.int .i64 bh) := by
        obtain ⟨hc, hf⟩ := bcell hb1
        have hz := hb1.size
        (try simp only [World.size_alloc, World.size_drew, World.size_setCell] at hz)
        (repeat' apply And.intro) <;> (first | omega | (rw [hc _ _ (by first | omega | (simp only [World.size_alloc, World.size_drew, World.size_setCell]; omega))]; first | (simp [go_sem]; done) | (simp [*]; done)) | (rw [hf _ _ (by first | omega | (simp only [World.size_alloc, World.size_drew, World.size_setCell]; omega))]; first | (simp [go_sem]; done) | (simp [*]; done)))
      clear hb1
      clear s1 s2
      go_wp2_with fail
      refine (ref_Meet_any _ _ _ _ _ _ _ _ _ hax hay haw hah hbx hb2 hbw hbh).mono ?_
      rintro e w2 ⟨rfl, hb2⟩
      have B2 : Below w.heap.size w w2 := below_via hb2 B1
      have S2 := B2.size
      clear hb2 F1
      go_wp2_with fail
      refine (ref_Ends_any _ _ _ _ _ im.x im.y im.w im.h).mono ?_
      rw [ok_same, ok2]
      rintro e w3 ⟨rfl, hb3⟩
      have B3 : Below w.heap.size w w3 := below_via hb3 B2
      have S3 := B3.size
      clear hb3
      go_wp2_with fail
      refine (ref_Rect_any _ _ _ _ _).mono ?_
      rintro e w4 ⟨rfl, hb4⟩
      have B4 : Below w.heap.size w w4 := below_via hb4 B3
      have S4 := B4.size
      clear hb4
      go_wp2
      go_ret
      exact ⟨_, rfl, ⟨by simp [cellsR], .inr ⟨w4.heap.size, 1, _, rfl, S4, heap_alloc_new w4 _, by simp, by decide, by simp, by simp [cellsR, mkB, endsR]⟩⟩, by go_grown⟩
    · rw [show minusR ⟨ax, ay, aw, ah⟩ ⟨bx, b2, bw, bh⟩ = partsR (endsR ⟨ax, ay, aw, ah⟩) (endsR (meetR ⟨ax, ay, aw, ah⟩ ⟨bx, b2, bw, bh⟩)) 4 by unfold minusR okR4; rw [ok1, ok2]; rfl]
      have s3 := side_same (meetR ⟨ax, ay, aw, ah⟩ ⟨bx, b2, bw, bh⟩).x (meetR ⟨ax, ay, aw, ah⟩ ⟨bx, b2, bw, bh⟩).w (okB_spec.1 ok2).1; have s4 := side_same (meetR ⟨ax, ay, aw, ah⟩ ⟨bx, b2, bw, bh⟩).y (meetR ⟨ax, ay, aw, ah⟩ ⟨bx, b2, bw, bh⟩).h (okB_spec.1 ok2).2
      have s1 := side_same ax aw (okB_spec.1 ok1).1; have s2 := side_same ay ah (okB_spec.1 ok1).2
      obtain ⟨i0, hi, hz0, hz1, hz2⟩ := info_parts infoRect
      go_enter Try.func20, Try.ntmps20
      go_wp2_with fail
      refine (ref_Ends_any _ _ _ _ _ hax hay haw hah).mono ?_
      rw [ok_same, ok1, s1.1, s1.2, s2.1, s2.2]
      rintro e w1 ⟨rfl, hb1⟩
      have B1 : Below w.heap.size w w1 := below_via hb1 (below_al (below_al (Below.refl _ _) _) _)
      have S1 := B1.size
      have F1 : w.heap.size < w1.heap.size ∧ w.heap.size + 1 < w1.heap.size ∧ w1.cell? ⟨w.heap.size, 0, none⟩ = some (.int .i64 ax) ∧ w1.cell? ⟨w.heap.size, 1, none⟩ = some (.int .i64 ay) ∧ w1.cell? ⟨w.heap.size, 2, none⟩ = some (.int .i64 aw) ∧ w1.cell? ⟨w.heap.size, 3, none⟩ = some (.int .i64 ah) ∧ w1.cell? ⟨w.heap.size + 1, 0, none⟩ = some (.int .i64 bx) ∧ w1.cell? ⟨w.heap.size + 1, 1, none⟩ = some (.int .i64 b2) ∧ w1.cell? ⟨w.heap.size + 1, 2, none⟩ = some (.int .i64 bw) ∧ w1.cell? ⟨w.heap.size + 1, 3, none⟩ = some (.int .i64 bh) := by
        obtain ⟨hc, hf⟩ := bcell hb1
        have hz := hb1.size
        (try simp only [World.size_alloc, World.size_drew, World.size_setCell] at hz)
        (repeat' apply And.intro) <;> (first | omega | (rw [hc _ _ (by first | omega | (simp only [World.size_alloc, World.size_drew, World.size_setCell]; omega))]; first | (simp [go_sem]; done) | (simp [*]; done)) | (rw [hf _ _ (by first | omega | (simp only [World.size_alloc, World.size_drew, World.size_setCell]; omega))]; first | (simp [go_sem]; done) | (simp [*]; done)))
      clear hb1
      clear s1 s2
      go_wp2_with fail
      refine (ref_Meet_any _ _ _ _ _ _ _ _ _ hax hay haw hah hbx hb2 hbw hbh).mono ?_
      rintro e w2 ⟨rfl, hb2⟩
      have B2 : Below w.heap.size w w2 := below_via hb2 B1
      have S2 := B2.size
      clear hb2 F1
      go_wp2_with fail
      refine (ref_Ends_any _ _ _ _ _ im.x im.y im.w im.h).mono ?_
      rw [ok_same, ok2, s3.1, s3.2, s4.1, s4.2]
      rintro e w3 ⟨rfl, hb3⟩
      have B3 : Below w.heap.size w w3 := below_via hb3 B2
      have S3 := B3.size
      clear hb3
      clear s3 s4
      go_wp2_with fail
      refine (ref_Rect_any _ _ _ _ _).mono ?_
      rintro e w4 ⟨rfl, hb4⟩
      have B4 : Below w.heap.size w w4 := below_via hb4 B3
      have S4 := B4.size
      clear hb4
      go_wp2_with fail
      refine (ref_Rect_any _ _ _ _ _).mono ?_
      rintro e w5 ⟨rfl, hb5⟩
      have B5 : Below w.heap.size w w5 := below_via hb5 B4
      have S5 := B5.size
      clear hb5
      go_wp2_with fail
      refine (ref_Rect_any _ _ _ _ _).mono ?_
      rintro e w6 ⟨rfl, hb6⟩
      have B6 : Below w.heap.size w w6 := below_via hb6 B5
      have S6 := B6.size
      clear hb6
      go_wp2_with fail
      refine (ref_Rect_any _ _ _ _ _).mono ?_
      rintro e w7 ⟨rfl, hb7⟩
      have B7 : Below w.heap.size w w7 := below_via hb7 B6
      have S7 := B7.size
      clear hb7 B1 B2 B3 B4 B5 B6 S1 S2 S3 S4 S5 S6
      go_wp2
      go_loopw [16, 17] (fun v i wr => ∃ k : Nat, k ≤ 4 ∧ i = .int .i64 k ∧ OwnR wr (w7.heap.size + 1) v (partsR (endsR ⟨ax, ay, aw, ah⟩) (endsR (meetR ⟨ax, ay, aw, ah⟩ ⟨bx, b2, bw, bh⟩)) k) ∧ w7.heap.size < wr.heap.size ∧ BoxAt wr w7.heap.size ((bxs (endsR ⟨ax, ay, aw, ah⟩) (endsR (meetR ⟨ax, ay, aw, ah⟩ ⟨bx, b2, bw, bh⟩))).map mkB) ∧ Below w.heap.size w wr) (fun _ i _ => 4 - (intOf i).toNat)
      case atStart =>
        refine ⟨0, by omega, rfl, World.ownsRow_nil _ _ _ _, by simp, ?_, by go_grown⟩
        intro i hi
        rcases i with _ | _ | _ | _ | i
        · simp [go_sem, bxs, endsR, mkB]
        · simp [go_sem, bxs, endsR, mkB]
        · simp [go_sem, bxs, endsR, mkB]
        · simp [go_sem, bxs, endsR, mkB]
        · simp [bxs] at hi; omega
      case round =>
        obtain ⟨k, hk, rfl, hown, hs, hbx, BW⟩ := hrel
        have S4 := BW.size
        by_cases hlt : k < 4
        · obtain ⟨c0, c1, c2, c3⟩ := hbx k (by simpa [bxs] using hlt)
          have hn := parts_le (endsR ⟨ax, ay, aw, ah⟩) (endsR (meetR ⟨ax, ay, aw, ah⟩ ⟨bx, b2, bw, bh⟩)) k
          have HK := Lib.hid (parts_keep (endsR ⟨ax, ay, aw, ah⟩) (endsR (meetR ⟨ax, ay, aw, ah⟩ ⟨bx, b2, bw, bh⟩)) k hlt)
          have HD := Lib.hid (parts_drop (endsR ⟨ax, ay, aw, ah⟩) (endsR (meetR ⟨ax, ay, aw, ah⟩ ⟨bx, b2, bw, bh⟩)) k hlt)
          have HB := Lib.hid hbx
          have HO := Lib.hid hown
          rw [getD_map _ _ (by simpa [bxs] using hlt)] at c0 c1 c2 c3
          clear hbx hown
          generalize mkB ((bxs (endsR ⟨ax, ay, aw, ah⟩) (endsR (meetR ⟨ax, ay, aw, ah⟩ ⟨bx, b2, bw, bh⟩))).getD k zR) = r at *
          cases kp : keepR r
          · have kq : ¬ 0 < r.w := of_decide_eq_false kp
            have e2 := Lib.hid (HD.out kp)
            clear kp HK HD
            go_wp2
            go_roundw
            case rel => exact ⟨k + 1, by omega, by go_num, by rw [e2.out]; exact HO.out, hs, HB.out, BW⟩
            case measure => simp [intOf]; omega
          · have kq : 0 < r.w := of_decide_eq_true kp
            have e2 := Lib.hid (HK.out kp)
            clear kp HK HD
            go_wp2_with (at_builtin; go_must (refine wpList_append_own _ rfl (.tmp 79) (.tmp 84) 26 rfl (w7.heap.size + 1) 23 i0 (.agg #[.int .i64 0, .int .i64 0, .int .i64 0, .int .i64 0]) 4 32 Try.underlying26 hi hz0 hz1 hz2 rfl (by decide) _ _ _ rfl (HO.out.alloc _) ⟨wr.heap.size, 0, none⟩ 1 1 [.int .i64 r.x, .int .i64 r.y, .int .i64 r.w, .int .i64 r.h] rfl rfl ?c1 ?c2 ?c3 ?c4 ?c5 ?_))
            case c1 =>
              intro j u hj
              match j, hj with
              | 0, hj => simp at hj; subst hj; simp [Addr.add, go_sem]
              | 1, hj => simp at hj; subst hj; simp [Addr.add, go_sem]
              | 2, hj => simp at hj; subst hj; simp [Addr.add, go_sem]
              | 3, hj => simp at hj; subst hj; simp [Addr.add, go_sem]
            case c2 => intro u hu; simp at hu; rcases hu with rfl | rfl | rfl | rfl <;> rfl
            case c3 => unfold maxLen; omega
            case c4 => omega
            case c5 => simp; omega
            intro v' w5 own5 gr5 _
            have own5' := Lib.hid own5
            have B5 : Below w.heap.size w w5 := Below.grown (below_al BW _) gr5 (by simp; omega) (fun k hk => by have := (HO.out.lt k hk).1; omega)
            have S7' := gr5.size
            simp only [World.size_alloc] at S7'
            have box5 := Lib.hid (show BoxAt w5 w7.heap.size ((bxs (endsR ⟨ax, ay, aw, ah⟩) (endsR (meetR ⟨ax, ay, aw, ah⟩ ⟨bx, b2, bw, bh⟩))).map mkB) from fun i hi => by
              obtain ⟨d0, d1, d2, d3⟩ := (HB.out.later (below_al (Below.refl wr.heap.size wr) _) hs) i hi
              exact ⟨gr5.cell d0 (by intro h; have := (HO.out.lt _ h.symm).1; simp at this; omega), gr5.cell d1 (by intro h; have := (HO.out.lt _ h.symm).1; simp at this; omega), gr5.cell d2 (by intro h; have := (HO.out.lt _ h.symm).1; simp at this; omega), gr5.cell d3 (by intro h; have := (HO.out.lt _ h.symm).1; simp at this; omega)⟩)
            clear own5 gr5
            go_wp2
            go_roundw
            case rel => exact ⟨k + 1, by omega, by go_num, by rw [e2.out]; unfold OwnR; rw [cellsR_snoc, List.length_append]; exact own5'.out, by omega, box5.out, B5⟩
            case measure => simp [intOf]; omega
        · have hk4 : k = 4 := by omega
          subst hk4
          go_wp2
          go_ret
          exact ⟨_, rfl, own_mono hown (by omega), BW⟩

end Go.Proofs.Ytekcheccelllcaa
