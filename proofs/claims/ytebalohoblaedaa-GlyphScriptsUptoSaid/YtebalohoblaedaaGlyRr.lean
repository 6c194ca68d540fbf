/- Layer 13: the reference's Rows. -/
import Derived.Test.YtebalohoblaedaaGlyRq
import Derived.Laws.BytesArg
import Derived.Laws.IdiomStrings
import Derived.Lib.AppendStr
namespace Go.Proofs.Ytebalohoblaedaa
open Go.RowKit
set_option linter.unusedVariables false
set_option linter.unusedSimpArgs false

theorem infoByte_ : (Try.prog.info? 5).map (fun i => (i.zero, i.size, i.bytes)) = some (some (.int .u8 0), 1, 1) := by kernel_rfl
set_option maxRecDepth 1000000 in
theorem rune_val5 : ∀ a b c d : Fin 5, (decide (runeC ⟨f5 a, f5 b, f5 c, f5 d⟩ = 32) || (decide (9472 ≤ runeC ⟨f5 a, f5 b, f5 c, f5 d⟩) && decide (runeC ⟨f5 a, f5 b, f5 c, f5 d⟩ ≤ 9599))) = true := by decide +kernel
theorem rune_val (a : A4) : runeA a = 32 ∨ (9472 ≤ runeA a ∧ runeA a ≤ 9599) := by
  unfold runeA cntA
  obtain ⟨i, hi⟩ := cnt_f5 a.u
  obtain ⟨j, hj⟩ := cnt_f5 a.r
  obtain ⟨k, hk⟩ := cnt_f5 a.d
  obtain ⟨l, hl⟩ := cnt_f5 a.l
  rw [hi, hj, hk, hl]
  have := rune_val5 i j k l
  simpa using this
set_option maxRecDepth 1000000 in
theorem enc_in : ∀ n : Fin 128, (Utf8.encode (9472 + (n.val : Int))).data.toList = Lib.encodeRune (9472 + (n.val : Int)) := by decide +kernel
theorem enc_32 : (Utf8.encode 32).data.toList = Lib.encodeRune 32 := by decide +kernel
theorem enc_rune (a : A4) : (Utf8.encode (runeA a)).data.toList = Lib.encodeRune (runeA a) := by
  rcases rune_val a with h | ⟨h1, h2⟩
  · rw [h]; exact enc_32
  · have := enc_in ⟨(runeA a - 9472).toNat, by omega⟩
    simp only [] at this
    rwa [show 9472 + (((runeA a - 9472).toNat : Nat) : Int) = runeA a by omega] at this
theorem rune_none (a : A4) (h : noArms a = true) : runeA a = 32 := by
  obtain ⟨a0, a1, a2, a3⟩ := a
  unfold noArms at h
  simp only [Bool.and_eq_true, beq_iff_eq] at h
  obtain ⟨⟨⟨rfl, rfl⟩, rfl⟩, rfl⟩ := h
  decide +kernel
theorem ba_size (S : ByteArray) : S.size = S.data.toList.length := by rw [Array.length_toList]; rfl
set_option maxRecDepth 100000 in
theorem conv_own {w : World} {base n c : Nat} {p : Option Addr} {l : List UInt8} (h : w.ownsRow base 5 1 (.slice p n c) n (Lib.byteCells l)) : (convert 95 9 (.slice p n c)).run Try.prog w = .ok (.string ⟨l.toArray⟩) w := by
  have hl : l.length = n := by have := h.1; rw [Lib.byteCells_length] at this; omega
  rcases row_form h with ⟨e, h0, h1⟩ | ⟨g, c', e, _⟩
  · injection e with e1 e2 e3
    subst e1 e2 e3
    have : l = [] := List.eq_nil_of_length_eq_zero (by omega)
    subst this
    exact run_convert_bytes_nil w 95 5 Try.underlying95 Try.underlying5 0 0 9 Try.underlying9
  · injection e with e1 e2 e3
    subst e1 e3
    rw [← hl]
    refine run_convert_bytes_back w 95 9 5 ⟨g, 0, none⟩ c l Try.underlying95 Try.underlying5 Try.underlying9 (fun j hj => ?_)
    have := row_cells h j (.int .u8 (l[j].toNat : Int)) (by unfold Lib.byteCells; simp [hj])
    rw [Addr.add_mid]
    exact this
set_option maxRecDepth 100000 in
set_option maxHeartbeats 16000000 in
theorem rrows_any (base g W H : Nat) (lv : Value) (ts : List Ln) (M : List A4) (hM : ∀ y, y < H → ∀ x, x < W → M.getD (y * W + x) zA = mergeA (ts.flatMap (con x y))) (hW : W ≤ 4096) (hH : H ≤ 4096) (hN : ∀ t ∈ ts, Nrm t) (hn : ts.length ≤ 1073741824) (w : World) (hp : RPl base w g W H lv ts) : Calls Try.prog 49 #[.pointer (some ⟨g, 0, none⟩)] w fun e w' => ∃ v, e = .returned v ∧ w'.ownsRow w.heap.size 9 1 v H (rowsN W M H) ∧ Below w.heap.size w w' := by
  obtain ⟨i0, hi, hz0, hz1, hz2⟩ := info_parts infoStr_
  have HI := Lib.hid (And.intro hi (And.intro hz0 (And.intro hz1 hz2)))
  clear hi hz0 hz1 hz2
  obtain ⟨j0, hi, hz0, hz1, hz2⟩ := info_parts infoByte_
  have HJ := Lib.hid (And.intro hi (And.intro hz0 (And.intro hz1 hz2)))
  clear hi hz0 hz1 hz2
  have HP := Lib.hid (show ∀ w', Below w.heap.size w w' → RPl base w' g W H lv ts from fun w' h => hp.later h)
  have HMM := Lib.hid hM
  have HN := Lib.hid hN
  clear hp hM hN
  go_enter Try.func49, Try.ntmps49
  go_wp2
  go_loopw [4, 3] (fun iv sv wr => ∃ y : Nat, iv = .int .i64 y ∧ y ≤ H ∧ RowKit.Hid (wr.ownsRow w.heap.size 9 1 sv y (rowsN W M y) ∧ Below w.heap.size w wr)) (fun iv _ _ => H - (intOf iv).toNat)
  case atStart => exact ⟨0, rfl, Nat.zero_le _, Lib.hid ⟨⟨rfl, .inl ⟨rfl, rfl⟩⟩, Below.refl _ _⟩⟩
  case round =>
    obtain ⟨y, rfl, hy, HR⟩ := hrel
    obtain ⟨wo, rfl⟩ : ∃ wo : World, wo = wr := ⟨_, rfl⟩
    obtain ⟨zg, -, c1, -, -⟩ := (HP.out wo HR.out.2).cells
    by_cases hyH : y < H
    · have hyi : (y : Int) < (H : Int) := by omega
      obtain ⟨sv, hsv⟩ : ∃ v, v = u3 := ⟨_, rfl⟩
      subst hsv
      go_wp2
      clear zg c1
      go_loopw [6, 5] (fun iv bv wr => ∃ x : Nat, iv = .int .i64 x ∧ x ≤ W ∧ RowKit.Hid (wr.ownsRow w.heap.size 5 1 bv (rowB W M y x).length (Lib.byteCells (rowB W M y x)) ∧ wr.ownsRow w.heap.size 9 1 sv y (rowsN W M y) ∧ Below w.heap.size w wr)) (fun iv _ _ => W - (intOf iv).toNat)
      case atStart => exact ⟨0, rfl, Nat.zero_le _, Lib.hid ⟨⟨rfl, .inl ⟨rfl, rfl⟩⟩, HR.out.1, HR.out.2⟩⟩
      case round =>
        clear HR
        obtain ⟨x, rfl, hx, HQ⟩ := hrel
        obtain ⟨zg, c0, -, -, -⟩ := (HP.out wr HQ.out.2.2).cells
        have zw : w.heap.size ≤ wr.heap.size := HQ.out.2.2.size
        by_cases hxW : x < W
        · have hxi : (x : Int) < (W : Int) := by omega
          have HA := Lib.hid (rat_in base g W H lv ts x y hxW hyH hW hH HN.out hn wr (HP.out wr HQ.out.2.2))
          have HE := HMM.out y hyH x hxW
          have hsu := rowB_succ W M y x
          have hln := rowB_len W M y x
          rw [HE] at hsu
          rw [at_tuple2] at HA
          generalize mergeA (ts.flatMap (con x y)) = m at HA hsu
          obtain ⟨S, hS⟩ : ∃ S, S = Utf8.encode (runeA m) := ⟨_, rfl⟩
          have hSd : S.data.toList = Lib.encodeRune (runeA m) := by rw [hS]; exact enc_rune m
          have hSs : S.size ≤ 4 := by
            have h1 := ba_size S
            have h2 := Lib.runeCells_le (runeA m)
            rw [Lib.runeCells_length, ← hSd] at h2
            omega
          have HSU := Lib.hid (show rowB W M y (x + 1) = rowB W M y x ++ S.data.toList by rw [hSd]; exact hsu)
          have HSC := Lib.hid (ba_size S)
          have h32 := rune_none m
          obtain ⟨rr, hrr⟩ : ∃ r, r = runeA m := ⟨_, rfl⟩
          rw [← hrr] at HA hS h32
          clear hrr hsu hSd HE
          have eS := hS.symm
          clear hS
          have HL := Lib.hid hln
          clear hln
          cases nb : noArms m
          · rw [nb] at HA
            simp only [Bool.false_eq_true, if_false, if_true, Bool.not_false, Bool.not_true] at HA
            skip
            clear h32 nb
            go_wp2_with fail
            refine HA.out.mono ?_
            rintro e w3 ⟨rfl, hb3⟩
            have OB := Lib.hid (row_later HQ.out.1 hb3)
            have OS := Lib.hid (row_later HQ.out.2.1 hb3)
            have T3 := Lib.hid (show Below w.heap.size w w3 from HQ.out.2.2.trans (hb3.mono zw))
            have z3 : w.heap.size ≤ w3.heap.size := T3.out.size
            have hl := HL.out
            clear hb3 HQ HA zg c0
            go_wp2_with (at_builtin; go_must (refine Lib.wpList_append_own_string _ rfl (.tmp 36) (.tmp 38) 95 9 rfl w.heap.size 5 j0 Try.underlying95 Try.underlying9 HJ.out.1 HJ.out.2.1 HJ.out.2.2.1 HJ.out.2.2.2 _ (rowB W M y x).length _ rfl OB.out S ?hx ?q1 ?q2 ?q3 ?_))
            (try case hx => first | rfl | (rw [← eS]; rfl) | (simp only [eS]; rfl))
            (try case q1 => unfold maxLen; omega)
            (try case q2 => omega)
            (try case q3 => exact z3)
            intro v4 w4 own4 gr4 pl4
            have HG := Lib.hid (show w4.ownsRow w.heap.size 5 1 v4 (rowB W M y (x + 1)).length (Lib.byteCells (rowB W M y (x + 1))) ∧ w4.ownsRow w.heap.size 9 1 sv y (rowsN W M y) ∧ Below w.heap.size w w4 from by
              rw [HSU.out, Lib.byteCells_append, List.length_append, ← HSC.out]
              exact ⟨own4, OS.out.kept gr4 (row_ne OS.out OB.out (by decide)), Below.grown T3.out gr4 z3 (fun k hk => (row_lt OB.out k hk).2)⟩)
            clear own4 gr4 pl4 OB OS
            go_wp2
            go_roundw
            case rel => exact ⟨x + 1, by go_num, by omega, HG⟩
            case measure => simp [intOf] <;> omega
          · rw [nb] at HA
            simp only [Bool.false_eq_true, if_false, if_true, Bool.not_false, Bool.not_true] at HA
            obtain rfl := h32 nb
            clear h32 nb
            go_wp2_with fail
            refine HA.out.mono ?_
            rintro e w3 ⟨rfl, hb3⟩
            have OB := Lib.hid (row_later HQ.out.1 hb3)
            have OS := Lib.hid (row_later HQ.out.2.1 hb3)
            have T3 := Lib.hid (show Below w.heap.size w w3 from HQ.out.2.2.trans (hb3.mono zw))
            have z3 : w.heap.size ≤ w3.heap.size := T3.out.size
            have hl := HL.out
            clear hb3 HQ HA zg c0
            go_wp2_with (at_builtin; go_must (refine Lib.wpList_append_own_string _ rfl (.tmp 36) (.tmp 38) 95 9 rfl w.heap.size 5 j0 Try.underlying95 Try.underlying9 HJ.out.1 HJ.out.2.1 HJ.out.2.2.1 HJ.out.2.2.2 _ (rowB W M y x).length _ rfl OB.out S ?hx ?q1 ?q2 ?q3 ?_))
            (try case hx => first | rfl | (rw [← eS]; rfl) | (simp only [eS]; rfl))
            (try case q1 => unfold maxLen; omega)
            (try case q2 => omega)
            (try case q3 => exact z3)
            intro v4 w4 own4 gr4 pl4
            have HG := Lib.hid (show w4.ownsRow w.heap.size 5 1 v4 (rowB W M y (x + 1)).length (Lib.byteCells (rowB W M y (x + 1))) ∧ w4.ownsRow w.heap.size 9 1 sv y (rowsN W M y) ∧ Below w.heap.size w w4 from by
              rw [HSU.out, Lib.byteCells_append, List.length_append, ← HSC.out]
              exact ⟨own4, OS.out.kept gr4 (row_ne OS.out OB.out (by decide)), Below.grown T3.out gr4 z3 (fun k hk => (row_lt OB.out k hk).2)⟩)
            clear own4 gr4 pl4 OB OS
            go_wp2
            go_roundw
            case rel => exact ⟨x + 1, by go_num, by omega, HG⟩
            case measure => simp [intOf] <;> omega
        · have hxi : ¬ (x : Int) < (W : Int) := by omega
          obtain rfl : x = W := by omega
          obtain ⟨pb, cb, hbv⟩ := row_slice HQ.out.1
          subst hbv
          have hcv := conv_own HQ.out.1
          have hl := rowB_len x M y x
          have OS := Lib.hid HQ.out.2.1
          have T3 := Lib.hid HQ.out.2.2
          clear hxW hx HQ
          go_wp2_with (at_builtin; go_must (refine append_keep rfl (.tmp 40) (.tmp 43) 67 rfl w.heap.size 9 i0 _ 1 16 Try.underlying67 HI.out.1 HI.out.2.1 HI.out.2.2.1 HI.out.2.2.2 rfl (by decide) _ y _ rfl (OS.out.alloc _) ⟨wr.heap.size, 0, none⟩ 1 1 [.string ⟨(rowB x M y x).toArray⟩] rfl rfl ?b1 ?b2 ?b3 ?b4 ?b5 ?_))
          (try case b1 => exact World.news_of_block (cs := #[.string ⟨(rowB x M y x).toArray⟩]) (t := 9) (fr := (0, 0)) (heap_alloc_new _ _))
          (try case b2 => first | rfl | (intro u hu; rw [List.mem_singleton] at hu; subst hu; rfl))
          case b3 => unfold maxLen; omega
          case b4 => omega
          case b5 => first | omega | (simp; omega)
          intro v4 w4 own4 gr4 pl4
          have HG4 := Lib.hid (show w4.ownsRow w.heap.size 9 1 v4 (y + 1) (rowsN x M (y + 1)) ∧ Below w.heap.size w w4 from by
            rw [rowsN_succ]
            exact ⟨own4, Below.grown (T3.out.trans ((below_al (Below.refl wr.heap.size wr) _).mono zw)) gr4 (by simp; omega) (fun k hk => (row_lt OS.out k hk).2)⟩)
          clear own4 gr4 pl4 OS hcv zg c0
          go_wp2
          go_roundw
          case rel => exact ⟨y + 1, by go_num, by omega, HG4⟩
          case measure => simp [intOf] <;> omega
    · have hyi : ¬ (y : Int) < (H : Int) := by omega
      obtain rfl : y = H := by omega
      go_wp2
      go_ret
      exact ⟨_, rfl, HR.out.1, HR.out.2⟩
end Go.Proofs.Ytebalohoblaedaa
