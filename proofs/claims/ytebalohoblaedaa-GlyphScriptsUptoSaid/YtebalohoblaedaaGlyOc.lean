/- Layer 13: laid. -/
import Derived.Test.YtebalohoblaedaaGlyOb
namespace Go.Proofs.Ytebalohoblaedaa
open Go.RowKit
set_option linter.unusedVariables false
set_option linter.unusedSimpArgs false

theorem infoBool_ : (Try.prog.info? 4).map (fun i => (i.zero, i.size, i.bytes)) = some (some (.bool false), 1, 1) := by kernel_rfl
theorem infoInt_ : (Try.prog.info? 3).map (fun i => (i.zero, i.size, i.bytes)) = some (some (.int .i64 0), 1, 8) := by kernel_rfl
/-- which are in a list -/
def inA (n : Nat) (A : List Nat) : List Value := (List.range n).map fun j => .bool (decide (j ∈ A))
def natV (A : List Nat) : List Value := A.map fun (j : Nat) => .int .i64 (j : Int)
theorem inA_nil (n : Nat) : inA n [] = List.replicate n (.bool false) := by
  unfold inA
  apply List.ext_getElem (by simp)
  intro i h1 h2
  simp
theorem inA_set (n : Nat) (A : List Nat) (j : Nat) (hj : j < n) : (inA n A).set j (.bool true) = inA n (A ++ [j]) := by
  unfold inA
  apply List.ext_getElem (by simp)
  intro i h1 h2
  rw [List.getElem_set]
  simp only [List.getElem_map, List.getElem_range, List.mem_append, List.mem_singleton]
  by_cases h : j = i
  · subst h; simp
  · rw [if_neg h]
    have : ¬ i = j := fun e => h e.symm
    simp [this]
theorem inA_get (n : Nat) (A : List Nat) (j : Nat) (hj : j < n) : (inA n A)[j]? = some (.bool (decide (j ∈ A))) := by
  unfold inA
  simp [hj]
theorem natV_get (A : List Nat) (j : Nat) (hj : j < A.length) : (natV A)[j]? = some (.int .i64 ((A.getD j 0 : Nat) : Int)) := by
  unfold natV
  simp [hj]
theorem natV_app (A : List Nat) (j : Nat) : natV A ++ [.int .i64 (j : Int)] = natV (A ++ [j]) := by simp [natV]
/-- the rows that laid owns: what is done, and all -/
structure Rws (w w1 : World) (dv av : Value) (n : Nat) (D A : List Nat) : Prop where
  d : w1.ownsRow w.heap.size 4 1 dv n (inA n D)
  a : w1.ownsRow w.heap.size 3 1 av A.length (natV A)
theorem Rws.ne {w w1 : World} {dv av : Value} {n : Nat} {D A : List Nat} (h : Rws w w1 dv av n D A) : dv.ownBlock = none ∨ dv.ownBlock ≠ av.ownBlock := row_ne h.d h.a (by decide)
theorem Rws.ne' {w w1 : World} {dv av : Value} {n : Nat} {D A : List Nat} (h : Rws w w1 dv av n D A) : av.ownBlock = none ∨ av.ownBlock ≠ dv.ownBlock := row_ne h.a h.d (by decide)
theorem Rws.later {w w1 w2 : World} {dv av : Value} {n : Nat} {D A : List Nat} (h : Rws w w1 dv av n D A) (hb : Below w1.heap.size w1 w2) : Rws w w2 dv av n D A := ⟨row_later h.d hb, row_later h.a hb⟩

/-- what laid tells -/
def LaidR (w : World) (W H : Nat) (L : List StV) (how : Int) (e : Ending) (w' : World) : Prop := ∃ (g gc : Nat) (A : List Nat), e = .returned (.pointer (some ⟨g, 0, none⟩)) ∧ (∀ j : Nat, j ∈ A ↔ j < L.length) ∧ PlanAt w' g gc W H (layL W H (A.flatMap fun j => ln2 how (L.getD j zSt)) (List.replicate (W * H) zA)) ∧ Below w.heap.size w w' ∧ w.heap.size ≤ g ∧ w.heap.size ≤ gc
theorem half_rng {x : Int} (h : i64B x) : -4611686018427387904 ≤ x.tdiv 2 ∧ x.tdiv 2 ≤ 4611686018427387903 := by
  unfold i64B at h
  rw [Int.tdiv_eq_ediv]
  split
  · omega
  · have : Int.sign 2 = 1 := rfl
    rw [this]; omega
set_option maxRecDepth 100000 in
set_option maxHeartbeats 16000000 in
theorem laid_any (W H : Nat) (hW : W ≤ 64) (hH : H ≤ 64) (ps po : Option Addr) (cs co : Nat) (L : List StV) (O : List Int) (how : Int) (w : World) (hs : StepsAt w ps L) (hok : ∀ s ∈ L, StOk s) (ho : OrdAt w po O) (hL : L.length ≤ 1048576) (hO : O.length ≤ 1048576) : Calls Try.prog 31 #[.int .i64 (W : Int), .int .i64 (H : Int), .slice ps L.length cs, .slice po O.length co, .int .i64 how] w fun e w' => LaidR w W H L how e w' := by
  obtain ⟨i0, hi, hz0, hz1, hz2⟩ := info_parts infoBool_
  have HI := Lib.hid (And.intro hi (And.intro hz0 (And.intro hz1 hz2)))
  clear hi hz0 hz1 hz2
  obtain ⟨j0, hi, hz0, hz1, hz2⟩ := info_parts infoInt_
  have HJ := Lib.hid (And.intro hi (And.intro hz0 (And.intro hz1 hz2)))
  clear hi hz0 hz1 hz2
  have HS := Lib.hid hs
  have HOK := Lib.hid hok
  have HO := Lib.hid ho
  have hWH : W * H ≤ 1048576 := by have := Nat.mul_le_mul hW hH; omega
  have HWH := Lib.hid hWH
  clear hs hok ho hWH
  go_enter Try.func31, Try.ntmps31
  go_wp2_with fail
  refine (new_yes W H (by omega) (by omega) HWH.out w).mono ?_
  rintro e w1 ⟨rfl, hb1, hp1⟩
  have HP1 := Lib.hid hp1
  have HB1 := Lib.hid hb1
  have zg : w.heap.size + 1 < w1.heap.size := heap_lt hp1.pl
  have hs1 := hb1.size
  clear hp1 hb1
  go_wp2
  go_loopw [14, 13] (fun iv dv wr => ∃ i : Nat, iv = .int .i64 i ∧ i ≤ L.length ∧ RowKit.Hid (wr.ownsRow w1.heap.size 4 1 dv i (List.replicate i (.bool false)) ∧ Below w1.heap.size w1 wr)) (fun iv _ _ => L.length - (intOf iv).toNat)
  case atStart => exact ⟨0, rfl, Nat.zero_le _, Lib.hid ⟨⟨rfl, .inl ⟨rfl, rfl⟩⟩, Below.refl _ _⟩⟩
  case round =>
    obtain ⟨i, rfl, hi, HR⟩ := hrel
    have zr : w1.heap.size ≤ wr.heap.size := HR.out.2.size
    by_cases hlt : i < L.length
    · have hii : (i : Int) < (L.length : Int) := by omega
      go_wp2_with (at_builtin; go_must (refine append_keep rfl (.tmp 39) (.tmp 40) 106 rfl w1.heap.size 4 i0 _ 1 1 Try.underlying106 HI.out.1 HI.out.2.1 HI.out.2.2.1 HI.out.2.2.2 rfl (by decide) _ i _ rfl (HR.out.1.alloc _) ⟨wr.heap.size, 0, none⟩ 1 1 [.bool false] rfl rfl ?b1 ?b2 ?b3 ?b4 ?b5 ?_))
      case b1 => exact World.news_of_block (cs := #[.bool false]) (t := 4) (fr := (0, 0)) (heap_alloc_new _ _)
      case b2 => intro u hu; rw [List.mem_singleton] at hu; subst hu; rfl
      case b3 => unfold maxLen; omega
      case b4 => omega
      case b5 => first | omega | (simp; omega)
      intro v4 w4 own4 gr4 pl4
      have HG4 := Lib.hid (show w4.ownsRow w1.heap.size 4 1 v4 (i + 1) (List.replicate (i + 1) (.bool false)) ∧ Below w1.heap.size w1 w4 from by
        rw [List.replicate_succ']
        exact ⟨own4, Below.grown (HR.out.2.trans ((below_al (Below.refl wr.heap.size wr) _).mono zr)) gr4 (by simp; omega) (fun k hk => (row_lt HR.out.1 k hk).2)⟩)
      clear own4 gr4 pl4 HR
      go_wp2
      go_roundw
      case rel => exact ⟨i + 1, by go_num, by omega, HG4⟩
      case measure => simp [intOf] <;> omega
    · have hii : ¬ (i : Int) < (L.length : Int) := by omega
      obtain rfl : i = L.length := by omega
      obtain ⟨w2, rfl⟩ : ∃ w2 : World, w2 = wr := ⟨_, rfl⟩
      obtain ⟨dv, hdv⟩ : ∃ v, v = u13 := ⟨_, rfl⟩
      subst hdv
      have HR2 := Lib.hid (show Rws w1 w2 dv (.slice none 0 0) L.length [] [] from ⟨by rw [inA_nil]; exact HR.out.1, ⟨rfl, .inl ⟨rfl, rfl⟩⟩⟩)
      have HB2 := Lib.hid (show Below w1.heap.size w1 w2 from HR.out.2)
      clear HR hlt hi hii
      go_wp2
      go_loopw [16, 15] (fun iv av wr => ∃ (i : Nat) (A : List Nat), iv = .int .i64 i ∧ i ≤ O.length ∧ A.length ≤ i ∧ (∀ j ∈ A, j < L.length) ∧ RowKit.Hid (Rws w1 wr dv av L.length A A ∧ Below w1.heap.size w1 wr)) (fun iv _ _ => O.length - (intOf iv).toNat)
      case atStart => exact ⟨0, [], rfl, Nat.zero_le _, Nat.le_refl _, (fun j hj => by cases hj), Lib.hid ⟨HR2.out, HB2.out⟩⟩
      case round =>
        obtain ⟨i, A, rfl, hi, hA, hin, HR⟩ := hrel
        clear HR2 HB2
        have zr : w1.heap.size ≤ wr.heap.size := HR.out.2.size
        by_cases hlt : i < O.length
        · have hii : (i : Int) < (O.length : Int) := by omega
          obtain ⟨ob, off, rfl, hob, hoc⟩ := HO.out (by omega)
          have co0 := hoc i hlt
          rw [← (bcell HB1.out).1 _ _ hob, ← (bcell HR.out.2).1 _ _ (by omega)] at co0
          have zo : ob < wr.heap.size := by omega
          have HIN := Lib.hid hin
          clear hoc hin
          generalize O.getD i 0 = q at co0
          by_cases hq0 : 0 ≤ q
          · by_cases hqL : q < (L.length : Int)
            · obtain ⟨j, rfl⟩ : ∃ j : Nat, q = (j : Int) := ⟨q.toNat, by omega⟩
              have hj : j < L.length := by omega
              go_wp2_with (at_builtin; go_must (refine append_keep rfl (.tmp 62) (.tmp 67) 69 rfl w1.heap.size 3 j0 _ 1 8 Try.underlying69 HJ.out.1 HJ.out.2.1 HJ.out.2.2.1 HJ.out.2.2.2 rfl (by decide) _ A.length _ rfl (HR.out.1.a.alloc _) ⟨wr.heap.size, 0, none⟩ 1 1 [.int .i64 (j : Int)] rfl rfl ?b1 ?b2 ?b3 ?b4 ?b5 ?_))
              case b1 => exact World.news_of_block (cs := #[.int .i64 (j : Int)]) (t := 3) (fr := (0, 0)) (heap_alloc_new _ _)
              case b2 => intro u hu; rw [List.mem_singleton] at hu; subst hu; rfl
              case b3 => unfold maxLen; omega
              case b4 => omega
              case b5 => first | omega | (simp; omega)
              intro v4 w4 own4 gr4 pl4
              have Ba : Below wr.heap.size wr (wr.alloc (.cells #[.int .i64 (j : Int)] 3)) := below_al (Below.refl _ _) _
              have HG4 := Lib.hid (show Rws w1 w4 dv v4 L.length A (A ++ [j]) ∧ Below w1.heap.size w1 w4 from by
                refine ⟨⟨(row_later HR.out.1.d Ba).kept gr4 HR.out.1.ne, by rw [← natV_app, List.length_append]; exact own4⟩, Below.grown (HR.out.2.trans (Ba.mono zr)) gr4 (by simp; omega) (fun k hk => (row_lt HR.out.1.a k hk).2)⟩)
              have zw4 : ob < w4.heap.size := by have := gr4.size; simp at this; omega
              have co4 : w4.cell? ⟨ob, off + i, none⟩ = some (.int .i64 (j : Int)) := by rw [(bcell HG4.out.2).1 _ _ (by omega), ← (bcell HR.out.2).1 _ _ (by omega)]; exact co0
              obtain ⟨gd, cd, hde, hcd⟩ : ∃ g c, dv = .slice (some ⟨g, 0, none⟩) L.length c ∧ L.length ≤ c := by
                rcases row_form HG4.out.1.d with ⟨_, h, _⟩ | ⟨g, c, h, h2, _⟩
                · omega
                · exact ⟨g, c, h, h2⟩
              subst hde
              obtain ⟨ST1, ST2⟩ := HG4.out.1.d.stored j (.bool true)
              have hfz := HG4.out.1.d.frozenAt j
              have hcq := row_cells HG4.out.1.d j _ (inA_get L.length A j hj)
              rw [Nat.zero_add] at hcq
              have zd : gd < w4.heap.size := (row_lt HG4.out.1.d gd rfl).1
              rw [inA_set _ _ _ hj] at ST1
              have HG5 := Lib.hid (show Rws w1 (w4.setCell ⟨gd, j, none⟩ (.bool true)) (.slice (some ⟨gd, 0, none⟩) L.length cd) v4 L.length (A ++ [j]) (A ++ [j]) ∧ Below w1.heap.size w1 (w4.setCell ⟨gd, j, none⟩ (.bool true)) from
                ⟨⟨ST1, HG4.out.1.a.kept ST2 HG4.out.1.ne'⟩, Below.grown HG4.out.2 ST2 HG4.out.2.size (fun k hk => by injection hk with hk; subst hk; exact (row_lt HG4.out.1.d gd rfl).2)⟩)
              have HIN5 := Lib.hid (show ∀ x ∈ A ++ [j], x < L.length from fun x hx => by
                rcases List.mem_append.1 hx with h | h
                · exact HIN.out x h
                · rw [List.mem_singleton] at h; omega)
              have hjL : (j : Int) < (L.length : Int) := by omega
              clear own4 gr4 pl4 HR HG4 Ba co0 zo ST1 ST2 HIN
              go_wp2
              go_roundw
              case rel => exact ⟨i + 1, A ++ [j], by go_num, by omega, by rw [List.length_append]; exact Nat.add_le_add_right hA 1, HIN5.out, HG5⟩
              case measure => simp [intOf] <;> omega
            · go_wp2
              go_roundw
              case rel => exact ⟨i + 1, A, by go_num, by omega, by omega, HIN.out, HR⟩
              case measure => simp [intOf] <;> omega
          · go_wp2
            go_roundw
            case rel => exact ⟨i + 1, A, by go_num, by omega, by omega, HIN.out, HR⟩
            case measure => simp [intOf] <;> omega
        · have hii : ¬ (i : Int) < (O.length : Int) := by omega
          obtain ⟨w3, rfl⟩ : ∃ w3 : World, w3 = wr := ⟨_, rfl⟩
          have HIN := Lib.hid hin
          have HAL := Lib.hid (show A.length ≤ O.length from by omega)
          clear hin hA hlt hi
          have h63 : IntKind.i64.wrap ((L.length : Int) - 1) = (L.length : Int) - 1 := IntWalk.i64_in _ (by omega)
          obtain ⟨av0, hav⟩ : ∃ v, v = u15 := ⟨_, rfl⟩
          subst hav
          go_wp2
          go_loopw [17, 15] (fun iv av wr => ∃ (m : Nat) (A' : List Nat), iv = .int .i64 ((m : Int) - 1) ∧ m ≤ L.length ∧ A'.length ≤ O.length + (L.length - m) ∧ RowKit.Hid ((∀ j ∈ A', j < L.length) ∧ (∀ j ∈ A, j ∈ A') ∧ (∀ j, m ≤ j → j < L.length → j ∈ A') ∧ Rws w1 wr dv av L.length A A' ∧ Below w1.heap.size w1 wr)) (fun iv _ _ => (intOf iv + 1).toNat)
          case atStart => exact ⟨L.length, A, rfl, Nat.le_refl _, by have := HAL.out; omega, Lib.hid ⟨HIN.out, fun j h => h, fun j h1 h2 => absurd h2 (by omega), HR.out⟩⟩
          case round =>
            clear HR
            obtain ⟨m, A', rfl, hm, hA', HR⟩ := hrel
            have zr : w1.heap.size ≤ wr.heap.size := HR.out.2.2.2.2.size
            obtain rfl | ⟨k, rfl⟩ : m = 0 ∨ ∃ k, m = k + 1 := by cases m with | zero => exact .inl rfl | succ k => exact .inr ⟨k, rfl⟩
            · have hneg : ¬ (0 : Int) ≤ ((0 : Nat) : Int) - 1 := by omega
              obtain ⟨w4, rfl⟩ : ∃ w4 : World, w4 = wr := ⟨_, rfl⟩
              obtain ⟨av, hav⟩ : ∃ v, v = u15 := ⟨_, rfl⟩
              subst hav
              have zw4 : w1.heap.size ≤ w4.heap.size := zr
              have HA := Lib.hid (show ∀ j : Nat, j ∈ A' ↔ j < L.length from fun j => ⟨HR.out.1 j, fun h => HR.out.2.2.1 j (Nat.zero_le _) h⟩)
              have HRW := Lib.hid (show Rws w1 w4 dv av L.length A A' from HR.out.2.2.2.1)
              have HB4 := Lib.hid (show Below w1.heap.size w1 w4 from HR.out.2.2.2.2)
              have hAl : A'.length ≤ 2097152 := by omega
              clear HR HIN HAL hA' hm zr
              go_wp2
              go_loopw [18] (fun iv wr => ∃ i : Nat, iv = .int .i64 i ∧ i ≤ A'.length ∧ RowKit.Hid (PlanAt wr (w.heap.size + 1) w.heap.size W H (layL W H ((A'.take i).flatMap fun j => ln2 how (L.getD j zSt)) (List.replicate (W * H) zA)) ∧ wr.ownsRow w1.heap.size 3 1 av A'.length (natV A') ∧ Below w.heap.size w wr)) (fun iv _ => A'.length - (intOf iv).toNat)
              case atStart => exact ⟨0, rfl, Nat.zero_le _, Lib.hid ⟨by rw [List.take_zero]; exact HP1.out.later HB4.out (by omega) (by omega), HRW.out.a, HB1.out.trans (HB4.out.mono hs1)⟩⟩
              case round =>
                obtain ⟨i, rfl, hi, HR⟩ := hrel
                clear HB4 HRW
                obtain ⟨pa, ca, hav⟩ : ∃ p c, av = .slice p A'.length c := by
                  rcases row_form HR.out.2.1 with ⟨h, h2, _⟩ | ⟨g, c, h, _⟩
                  · exact ⟨none, 0, by rw [h, h2]⟩
                  · exact ⟨_, _, h⟩
                subst hav
                by_cases hlt : i < A'.length
                · have hii : (i : Int) < (A'.length : Int) := by omega
                  obtain ⟨ga, rfl, hca⟩ : ∃ g, pa = some ⟨g, 0, none⟩ ∧ A'.length ≤ ca := by
                    rcases row_form HR.out.2.1 with ⟨_, h, _⟩ | ⟨g, c, h, h2, _⟩
                    · omega
                    · injection h with e1 e2 e3
                      exact ⟨g, e1, by omega⟩
                  obtain ⟨jj, hjj⟩ : ∃ jj, jj = A'.getD i 0 := ⟨_, rfl⟩
                  have hjL : jj < L.length := (HA.out jj).1 (by rw [hjj, List.getD_eq_getElem?_getD, List.getElem?_eq_getElem hlt]; exact List.getElem_mem hlt)
                  have hca := row_cells HR.out.2.1 i _ (natV_get A' i hlt)
                  rw [Nat.zero_add, ← hjj] at hca
                  have zga : ga < wr.heap.size := (row_lt HR.out.2.1 ga rfl).1
                  have HT := Lib.hid (show (A'.take (i + 1)).flatMap (fun j => ln2 how (L.getD j zSt)) = (A'.take i).flatMap (fun j => ln2 how (L.getD j zSt)) ++ ln2 how (L.getD jj zSt) by
                    rw [List.take_succ_eq_append_getElem hlt, List.flatMap_append]
                    simp [hjj, List.getD_eq_getElem?_getD, List.getElem?_eq_getElem hlt])
                  have HSO := Lib.hid (HOK.out (L.getD jj zSt) (by rw [List.getD_eq_getElem?_getD, List.getElem?_eq_getElem hjL]; exact List.getElem_mem hjL))
                  obtain ⟨sb, so, rfl, hsb, hsc⟩ := HS.out (by omega)
                  have hsc := hsc jj hjL
                  generalize L.getD jj zSt = s at hsc HT HSO
                  obtain ⟨so_, x0, y0, x1, y1, ra, rb, rc, rd, kk⟩ := s
                  have zsb : sb < wr.heap.size := by have := HR.out.2.2.size; omega
                  have k0 := hsc 0 (by omega); have k1 := hsc 1 (by omega); have k2 := hsc 2 (by omega); have k3 := hsc 3 (by omega); have k4 := hsc 4 (by omega)
                  have k5 := hsc 5 (by omega); have k6 := hsc 6 (by omega); have k7 := hsc 7 (by omega); have k8 := hsc 8 (by omega); have k9 := hsc 9 (by omega)
                  rw [← (bcell HR.out.2.2).1 _ _ hsb] at k0 k1 k2 k3 k4 k5 k6 k7 k8 k9
                  simp only [stV, List.getElem?_cons_zero, List.getElem?_cons_succ, ← Nat.add_assoc, Nat.add_zero] at k0 k1 k2 k3 k4 k5 k6 k7 k8 k9
                  have hjI : (jj : Int) < (L.length : Int) := by omega
                  clear hsc hjj
                  go_upto_region 25 with (fail)
                  obtain ⟨w5, hw5⟩ : ∃ x, x = wr.alloc (.cells #[.int .i64 so_, .int .i64 x0, .int .i64 y0, .int .i64 x1, .int .i64 y1, .int .i64 ra, .int .i64 rb, .int .i64 rc, .int .i64 rd, .int .i8 kk] 64) := ⟨_, rfl⟩
                  have B5 : Below wr.heap.size wr w5 := by rw [hw5]; exact below_al (Below.refl _ _) _
                  have x5 : w5.heap[wr.heap.size]? = some (.cells #[.int .i64 so_, .int .i64 x0, .int .i64 y0, .int .i64 x1, .int .i64 y1, .int .i64 ra, .int .i64 rb, .int .i64 rc, .int .i64 rd, .int .i8 kk] 64 (0, 0)) := by rw [hw5]; exact heap_alloc_new _ _
                  rw [← hw5]
                  clear hw5 k0 k1 k2 k3 k4 k5 k6 k7 k8 k9 zsb hca zga
                  have HX5 := Lib.hid x5
                  have HP5 := Lib.hid (HR.out.1.later B5 (heap_lt HR.out.1.pl) (heap_lt HR.out.1.ce))
                  have HA5 := Lib.hid (row_later HR.out.2.1 B5)
                  have HB5 := Lib.hid (show Below w.heap.size w w5 from HR.out.2.2.trans (B5.mono HR.out.2.2.size))
                  have HC := Lib.hid (show ∀ w' : World, w'.heap[wr.heap.size]? = w5.heap[wr.heap.size]? → (wr.heap.size < w'.heap.size ∧ w'.cell? ⟨wr.heap.size, 0, none⟩ = some (.int .i64 so_) ∧ w'.cell? ⟨wr.heap.size, 1, none⟩ = some (.int .i64 x0) ∧ w'.cell? ⟨wr.heap.size, 2, none⟩ = some (.int .i64 y0) ∧ w'.cell? ⟨wr.heap.size, 3, none⟩ = some (.int .i64 x1) ∧ w'.cell? ⟨wr.heap.size, 4, none⟩ = some (.int .i64 y1) ∧ w'.cell? ⟨wr.heap.size, 5, none⟩ = some (.int .i64 ra) ∧ w'.cell? ⟨wr.heap.size, 6, none⟩ = some (.int .i64 rb) ∧ w'.cell? ⟨wr.heap.size, 7, none⟩ = some (.int .i64 rc) ∧ w'.cell? ⟨wr.heap.size, 8, none⟩ = some (.int .i64 rd) ∧ w'.cell? ⟨wr.heap.size, 9, none⟩ = some (.int .i8 kk)) from fun w' h => by
                    rw [x5] at h
                    refine ⟨lt_of_block h, ?_, ?_, ?_, ?_, ?_, ?_, ?_, ?_, ?_, ?_⟩ <;> (rw [cell_of_row _ _ _ _ _ _ h]; rfl))
                  have hgc : w.heap.size ≠ wr.heap.size := by have := heap_lt HR.out.1.ce; omega
                  obtain ⟨z5, c0, c1, c2, c3, c4, c5, c6, c7, c8, c9⟩ := HC.out w5 rfl
                  clear x5 B5 HR
                  have FIN := Lib.hid (show ∀ (w6 : World) (ts : List Ln), ts = ln2 how ⟨so_, x0, y0, x1, y1, ra, rb, rc, rd, kk⟩ → LaidAt w5 w6 (w.heap.size + 1) w.heap.size W H (layL W H ((A'.take i).flatMap fun j => ln2 how (L.getD j zSt)) (List.replicate (W * H) zA)) ts → PlanAt w6 (w.heap.size + 1) w.heap.size W H (layL W H ((A'.take (i + 1)).flatMap fun j => ln2 how (L.getD j zSt)) (List.replicate (W * H) zA)) ∧ w6.ownsRow w1.heap.size 3 1 (.slice (some ⟨ga, 0, none⟩) A'.length ca) A'.length (natV A') ∧ Below w.heap.size w w6 from fun w6 ts hts h => by
                    obtain ⟨h1, h2⟩ := h
                    refine ⟨by rw [HT.out, layL_append, ← hts]; exact h2, HA5.out.kept h1 (.inr fun e => ?_), Below.grown HB5.out h1 HB5.out.size (fun k hk => by injection hk with hk; omega)⟩
                    have e' : ga = w.heap.size := by simpa [Value.ownBlock] using e
                    have := (row_lt HA5.out ga rfl).2
                    omega)
                  clear HT
                  obtain ⟨mid, hmid⟩ : ∃ m, m = midS ⟨so_, x0, y0, x1, y1, ra, rb, rc, rd, kk⟩ := ⟨_, rfl⟩
                  have hh0 := half_rng HSO.out.x0
                  have hh1 := half_rng HSO.out.x1
                  have q18 : IntKind.i64.wrap (x0.tdiv 2) = x0.tdiv 2 := IntWalk.i64_in _ (by simp only at hh0; omega)
                  have q19 : IntKind.i64.wrap (x1.tdiv 2) = x1.tdiv 2 := IntWalk.i64_in _ (by simp only at hh1; omega)
                  have q20 : IntKind.i64.wrap (x0.tdiv 2 + x1.tdiv 2) = mid := by rw [hmid]; exact IntWalk.i64_in _ (by simp only at hh0 hh1; omega)
                  have HMID := Lib.hid hmid
                  clear hh0 hh1 hmid
                  by_cases h2 : so_ = 2
                  · subst h2
                    go_wp2_with fail
                    refine (box_gen (w.heap.size + 1) w.heap.size W H _ ra rb rc rd kk w5 HSO.out.a HSO.out.b HSO.out.c HSO.out.d HP5.out).mono ?_
                    rintro e w6 ⟨⟨v, rfl⟩, hl⟩
                    have HG := Lib.hid (FIN.out w6 _ (by unfold ln2; rw [if_pos rfl]) hl)
                    clear hl c0 c1 c2 c3 c4 c5 c6 c7 c8 c9 z5
                    go_wp2
                    go_roundw
                    case rel => exact ⟨i + 1, by go_num, by omega, HG⟩
                    case measure => simp [intOf] <;> omega
                  · by_cases h3 : how.tmod 2 ≠ 0 ∧ y0 = y1 ∧ x0 ≤ mid ∧ mid ≤ x1
                    · obtain ⟨d1, rfl, d3, d4⟩ := h3
                      have d1' : (how.tmod 2 == 0) = false := by simpa using d1
                      have HG0 := Lib.hid (show ln2 how ⟨so_, x0, y0, x1, y0, ra, rb, rc, rd, kk⟩ = lnsL x0 y0 mid y0 kk ++ lnsL x1 y0 mid y0 kk by
                        unfold ln2
                        rw [if_neg h2, ← HMID.out, if_pos ⟨d1, rfl, d3, d4⟩]
                        rfl)
                      go_wp2_with fail
                      refine (line_gen (w.heap.size + 1) w.heap.size W H _ x0 y0 mid y0 kk w5 HP5.out).mono ?_
                      rintro e w6 ⟨⟨v, rfl⟩, hl⟩
                      have HL6 := Lib.hid hl
                      obtain ⟨z6, e0, e1, e2, e3, e4, e5, e6, e7, e8, e9⟩ := HC.out w6 (hl.1.block _ z5 (fun e => by injection e with e; exact hgc e.symm))
                      clear hl c0 c1 c2 c3 c4 c5 c6 c7 c8 c9 z5
                      go_wp2_with fail
                      refine (line_gen (w.heap.size + 1) w.heap.size W H _ x1 y0 mid y0 kk w6 HL6.out.2).mono ?_
                      rintro e w7 ⟨⟨v, rfl⟩, hl⟩
                      have HG := Lib.hid (FIN.out w7 _ HG0.out.symm ⟨grown_trans HL6.out.1 hl.1, by rw [layL_append]; exact hl.2⟩)
                      clear hl e0 e1 e2 e3 e4 e5 e6 e7 e8 e9 z6
                      go_wp2
                      go_roundw
                      case rel => exact ⟨i + 1, by go_num, by omega, HG⟩
                      case measure => simp [intOf] <;> omega
                    · have HG0 := Lib.hid (show ln2 how ⟨so_, x0, y0, x1, y1, ra, rb, rc, rd, kk⟩ = lnsL x1 y1 x0 y0 kk by
                        unfold ln2
                        rw [if_neg h2, ← HMID.out, if_neg h3])
                      rcases (show how.tmod 2 = 0 ∨ (how.tmod 2 ≠ 0 ∧ y0 ≠ y1) ∨ (how.tmod 2 ≠ 0 ∧ y0 = y1 ∧ ¬ x0 ≤ mid) ∨ (how.tmod 2 ≠ 0 ∧ y0 = y1 ∧ x0 ≤ mid ∧ ¬ mid ≤ x1) from by
                        by_cases a1 : how.tmod 2 = 0
                        · exact .inl a1
                        · by_cases a2 : y0 = y1
                          · by_cases a3 : x0 ≤ mid
                            · exact .inr (.inr (.inr ⟨a1, a2, a3, fun a4 => h3 ⟨a1, a2, a3, a4⟩⟩))
                            · exact .inr (.inr (.inl ⟨a1, a2, a3⟩))
                          · exact .inr (.inl ⟨a1, a2⟩)) with d1 | ⟨d1, d2⟩ | ⟨d1, d2, d3⟩ | ⟨d1, d2, d3, d4⟩
                      · clear h3
                        have d1' : (how.tmod 2 == 0) = true := by simpa using d1
                        go_wp2_with fail
                        refine (line_gen (w.heap.size + 1) w.heap.size W H _ x1 y1 x0 y0 kk w5 HP5.out).mono ?_
                        rintro e w6 ⟨⟨v, rfl⟩, hl⟩
                        have HG := Lib.hid (FIN.out w6 _ HG0.out.symm hl)
                        clear hl c0 c1 c2 c3 c4 c5 c6 c7 c8 c9 z5
                        go_wp2
                        go_roundw
                        case rel => exact ⟨i + 1, by go_num, by omega, HG⟩
                        case measure => simp [intOf] <;> omega
                      · clear h3
                        have d1' : (how.tmod 2 == 0) = false := by simpa using d1
                        have d2' : (y0 == y1) = false := by simpa using d2
                        go_wp2_with fail
                        refine (line_gen (w.heap.size + 1) w.heap.size W H _ x1 y1 x0 y0 kk w5 HP5.out).mono ?_
                        rintro e w6 ⟨⟨v, rfl⟩, hl⟩
                        have HG := Lib.hid (FIN.out w6 _ HG0.out.symm hl)
                        clear hl c0 c1 c2 c3 c4 c5 c6 c7 c8 c9 z5
                        go_wp2
                        go_roundw
                        case rel => exact ⟨i + 1, by go_num, by omega, HG⟩
                        case measure => simp [intOf] <;> omega
                      · clear h3
                        have d1' : (how.tmod 2 == 0) = false := by simpa using d1
                        subst d2
                        go_wp2_with fail
                        refine (line_gen (w.heap.size + 1) w.heap.size W H _ x1 y0 x0 y0 kk w5 HP5.out).mono ?_
                        rintro e w6 ⟨⟨v, rfl⟩, hl⟩
                        have HG := Lib.hid (FIN.out w6 _ HG0.out.symm hl)
                        clear hl c0 c1 c2 c3 c4 c5 c6 c7 c8 c9 z5
                        go_wp2
                        go_roundw
                        case rel => exact ⟨i + 1, by go_num, by omega, HG⟩
                        case measure => simp [intOf] <;> omega
                      · clear h3
                        have d1' : (how.tmod 2 == 0) = false := by simpa using d1
                        subst d2
                        go_wp2_with fail
                        refine (line_gen (w.heap.size + 1) w.heap.size W H _ x1 y0 x0 y0 kk w5 HP5.out).mono ?_
                        rintro e w6 ⟨⟨v, rfl⟩, hl⟩
                        have HG := Lib.hid (FIN.out w6 _ HG0.out.symm hl)
                        clear hl c0 c1 c2 c3 c4 c5 c6 c7 c8 c9 z5
                        go_wp2
                        go_roundw
                        case rel => exact ⟨i + 1, by go_num, by omega, HG⟩
                        case measure => simp [intOf] <;> omega
                · have hii : ¬ (i : Int) < (A'.length : Int) := by omega
                  obtain rfl : i = A'.length := by omega
                  have HZ := Lib.hid (show PlanAt wr (w.heap.size + 1) w.heap.size W H (layL W H (A'.flatMap fun j => ln2 how (L.getD j zSt)) (List.replicate (W * H) zA)) from by have := HR.out.1; rwa [List.take_length] at this)
                  go_wp2
                  go_ret
                  exact ⟨w.heap.size + 1, w.heap.size, A', rfl, HA.out, HZ.out, HR.out.2.2, by omega, Nat.le_refl _⟩
            · have e : ((k + 1 : Nat) : Int) - 1 = (k : Int) := by omega
              rw [e]
              have hk : k < L.length := by omega
              obtain ⟨gd, cd, rfl, hcd⟩ : ∃ g c, dv = .slice (some ⟨g, 0, none⟩) L.length c ∧ L.length ≤ c := by
                rcases row_form HR.out.2.2.2.1.d with ⟨_, h, _⟩ | ⟨g, c, h, h2, _⟩
                · omega
                · exact ⟨g, c, h, h2⟩
              have hcq := row_cells HR.out.2.2.2.1.d k _ (inA_get L.length A k hk)
              rw [Nat.zero_add] at hcq
              have zd : gd < wr.heap.size := (row_lt HR.out.2.2.2.1.d gd rfl).1
              have hkL : (k : Int) < (L.length : Int) := by omega
              have hk1 : IntKind.i64.wrap ((k : Int) - 1) = (k : Int) - 1 := IntWalk.i64_in _ (by omega)
              by_cases hin : k ∈ A
              · rw [decide_eq_true hin] at hcq
                have HG := Lib.hid (show (∀ j ∈ A', j < L.length) ∧ (∀ j ∈ A, j ∈ A') ∧ (∀ j, k ≤ j → j < L.length → j ∈ A') ∧ _ ∧ _ from ⟨HR.out.1, HR.out.2.1, fun j h1 h2 => by
                  rcases Nat.lt_or_ge k j with h | h
                  · exact HR.out.2.2.1 j h h2
                  · obtain rfl : j = k := by omega
                    exact HR.out.2.1 _ hin, HR.out.2.2.2.1, HR.out.2.2.2.2⟩)
                clear HR hin
                go_wp2
                go_roundw
                case rel => exact ⟨k, A', rfl, by omega, by omega, HG⟩
                case measure => simp [intOf] <;> omega
              · rw [decide_eq_false hin] at hcq
                go_wp2_with (at_builtin; go_must (refine append_keep rfl (.tmp 87) (.tmp 89) 69 rfl w1.heap.size 3 j0 _ 1 8 Try.underlying69 HJ.out.1 HJ.out.2.1 HJ.out.2.2.1 HJ.out.2.2.2 rfl (by decide) _ A'.length _ rfl (HR.out.2.2.2.1.a.alloc _) ⟨wr.heap.size, 0, none⟩ 1 1 [.int .i64 (k : Int)] rfl rfl ?b1 ?b2 ?b3 ?b4 ?b5 ?_))
                case b1 => exact World.news_of_block (cs := #[.int .i64 (k : Int)]) (t := 3) (fr := (0, 0)) (heap_alloc_new _ _)
                case b2 => intro u hu; rw [List.mem_singleton] at hu; subst hu; rfl
                case b3 => unfold maxLen; omega
                case b4 => omega
                case b5 => first | omega | (simp; omega)
                intro v4 w4 own4 gr4 pl4
                have Ba : Below wr.heap.size wr (wr.alloc (.cells #[.int .i64 (k : Int)] 3)) := below_al (Below.refl _ _) _
                have HG := Lib.hid (show (∀ j ∈ A' ++ [k], j < L.length) ∧ (∀ j ∈ A, j ∈ A' ++ [k]) ∧ (∀ j, k ≤ j → j < L.length → j ∈ A' ++ [k]) ∧ Rws w1 w4 (.slice (some ⟨gd, 0, none⟩) L.length cd) v4 L.length A (A' ++ [k]) ∧ Below w1.heap.size w1 w4 from
                  ⟨fun x hx => by
                    rcases List.mem_append.1 hx with h | h
                    · exact HR.out.1 x h
                    · rw [List.mem_singleton] at h; omega, fun j h => List.mem_append_left _ (HR.out.2.1 j h), fun j h1 h2 => by
                    rcases Nat.lt_or_ge k j with h | h
                    · exact List.mem_append_left _ (HR.out.2.2.1 j h h2)
                    · obtain rfl : j = k := by omega
                      exact List.mem_append_right _ (List.mem_singleton.2 rfl),
                   ⟨(row_later HR.out.2.2.2.1.d Ba).kept gr4 HR.out.2.2.2.1.ne, by rw [← natV_app, List.length_append]; exact own4⟩, Below.grown (HR.out.2.2.2.2.trans (Ba.mono zr)) gr4 (by simp; omega) (fun k hk => (row_lt HR.out.2.2.2.1.a k hk).2)⟩)
                have hlen : (A' ++ [k]).length ≤ O.length + (L.length - k) := by rw [List.length_append]; simp only [List.length_singleton]; omega
                clear own4 gr4 pl4 Ba HR hcq zd hin hA'
                go_wp2
                go_roundw
                case rel => exact ⟨k, A' ++ [k], rfl, by omega, hlen, HG⟩
                case measure => simp [intOf] <;> omega
end Go.Proofs.Ytebalohoblaedaa
