/- Trees: contract of scroll.Carry. -/
import Derived.Test.YtegdokchkblpiaaTreN
import Derived.Test.YtegdokchkblpiaaTreE
import Derived.Test.YtegdokchkblpiaaTrePa
import Derived.Outline
import Derived.Deep.CutBlock
import Derived.StillTailTactics
namespace Go.Proofs.Ytegdokchkblpiaa
open Go.RowKit Go.Deep
set_option linter.unusedVariables false
set_option linter.unusedSimpArgs false

/-- offsets lie in memory -/
def OffsAt (w : World) (p : Option Addr) (O : List (Int × Int)) : Prop := 0 < O.length → ∃ b off, p = some ⟨b, off, none⟩ ∧ b < w.heap.size ∧ ∀ i, i < O.length → w.cell? ⟨b, off + i * 2, none⟩ = some (.int .i64 (O.getD i (0, 0)).1) ∧ w.cell? ⟨b, off + i * 2 + 1, none⟩ = some (.int .i64 (O.getD i (0, 0)).2)
theorem OffsAt.later {w wr : World} {p : Option Addr} {O : List (Int × Int)} {B : Nat} (h : OffsAt w p O) (hb : Below B w wr) (hB : w.heap.size ≤ B) : OffsAt wr p O := by
  intro h0
  obtain ⟨b, off, e, hz, hc⟩ := h h0
  exact ⟨b, off, e, Nat.lt_of_lt_of_le hz hb.size, fun i hi => by rw [(bcell hb).1 _ _ (Nat.lt_of_lt_of_le hz hB), (bcell hb).1 _ _ (Nat.lt_of_lt_of_le hz hB)]; exact hc i hi⟩
theorem cell_same {w w' : World} {row : Option Nat} (h : w.grownBy w' row) {b : Nat} (hb : b < w.heap.size) (hr : row ≠ some b) (o : Nat) : w'.cell? ⟨b, o, none⟩ = w.cell? ⟨b, o, none⟩ := World.cell?_of_block (h.block b hb (fun e => hr e.symm))
def keeps (x : Nd) (v : Int × Int) : Bool := decide (x.kind = 6 ∧ 0 < x.id.size ∧ (v.1 ≠ 0 ∨ v.2 ≠ 0))
/-- the offsets that are kept, by name -/
def keptF : List Nd → List (Int × Int) → (List UInt8 → Int × Int) → List UInt8 → Int × Int
  | x :: l, v :: o, f => keptF l o (if keeps x v = true then putF f x.id.data.toList v else f)
  | _, _, f => f
def outF (f : List UInt8 → Int × Int) (x : Nd) : Int × Int := if x.kind = 6 then f x.id.data.toList else (0, 0)
def noF : List UInt8 → Int × Int := fun _ => (0, 0)
def heldF (old : List Nd) (O : List (Int × Int)) : List UInt8 → Int × Int := if (checkT old).1 = 0 ∧ O.length = old.length then keptF old O noF else noF
/-- what Carry tells -/
def carryR (old now : List Nd) (O : List (Int × Int)) : List (Int × Int) := if (checkT now).1 = 0 then now.map (outF (heldF old O)) else []
/-- the state of Carry: the two trees' boxes, the map -/
structure CrW (w wr : World) (bm m : Nat) (f : List UInt8 → Int × Int) (vo vn : Value) : Prop where
  be : Below w.heap.size w wr
  bo : wr.cell? ⟨w.heap.size, 0, none⟩ = some vo
  bn : wr.cell? ⟨w.heap.size + 1, 0, none⟩ = some vn
  lm : w.heap.size + 1 < bm
  mp : OffsMap wr bm m f
theorem CrW.below {w wr w' : World} {bm m : Nat} {f : List UInt8 → Int × Int} {vo vn : Value} (h : CrW w wr bm m f vo vn) (hb : Below wr.heap.size wr w') : CrW w w' bm m f vo vn := by
  have z := h.mp.lt
  have l := h.lm
  exact ⟨below_via hb h.be, by rw [(bcell hb).1 _ _ (by omega)]; exact h.bo, by rw [(bcell hb).1 _ _ (by omega)]; exact h.bn, h.lm, h.mp.of_block (below_block hb z)⟩
theorem CrW.put {w wr w' : World} {bm m m' : Nat} {f f' : List UInt8 → Int × Int} {vo vn : Value} (h : CrW w wr bm m f vo vn) (hm : OffsMap w' bm m' f') (hg : wr.grownBy w' (some bm)) : CrW w w' bm m' f' vo vn := by
  have z := h.mp.lt
  have l := h.lm
  exact ⟨Below.grown h.be hg h.be.size (fun k hk => by injection hk with hk; omega), by rw [cell_same hg (by omega) (by intro e; injection e with e; omega)]; exact h.bo, by rw [cell_same hg (by omega) (by intro e; injection e with e; omega)]; exact h.bn, h.lm, hm⟩
theorem CrW.more {w wr : World} {bm m m' : Nat} {f : List UInt8 → Int × Int} {vo vn : Value} (h : CrW w wr bm m f vo vn) (hm : m ≤ m') : CrW w wr bm m' f vo vn := ⟨h.be, h.bo, h.bn, h.lm, h.mp.mono hm⟩
theorem CrW.drew {w wr : World} {bm m : Nat} {f : List UInt8 → Int × Int} {vo vn : Value} (h : CrW w wr bm m f vo vn) : CrW w wr.drew bm m f vo vn := ⟨Below.drew h.be, h.bo, h.bn, h.lm, h.mp.of_block rfl⟩
theorem infoOff : (Try.prog.info? 25).map (fun i => (i.zero, i.size, i.bytes)) = some (some (.agg #[.int .i64 0, .int .i64 0]), 2, 16) := by kernel_rfl
/-- the state of Carry's second loop -/
structure CoW (w wr : World) (bm m : Nat) (f : List UInt8 → Int × Int) (vo vn : Value) (bo N : Nat) (q : Nat → Int × Int) : Prop where
  cw : CrW w wr bm m f vo vn
  lo : w.heap.size + 1 < bo
  ne : bm ≠ bo
  row : wr.rowIs bo 25 (N * 2) (cellQ q)
theorem CoW.below {w wr w' : World} {bm m bo N : Nat} {f : List UInt8 → Int × Int} {vo vn : Value} {q : Nat → Int × Int} (h : CoW w wr bm m f vo vn bo N q) (hb : Below wr.heap.size wr w') : CoW w w' bm m f vo vn bo N q :=
  ⟨h.cw.below hb, h.lo, h.ne, h.row.of_block (below_block hb h.row.lt)⟩
theorem CoW.set {w wr : World} {bm m bo N : Nat} {f : List UInt8 → Int × Int} {vo vn : Value} {q : Nat → Int × Int} (h : CoW w wr bm m f vo vn bo N q) (k : Nat) (x y : Int) : CoW w ((wr.setCell ⟨bo, k * 2, none⟩ (.int .i64 x)).setCell ⟨bo, k * 2 + 1, none⟩ (.int .i64 y)) bm m f vo vn bo N (upd q k (x, y)) := by
  have lo := h.lo
  have ne := h.ne
  have g : ∀ b, b ≠ bo → ((wr.setCell ⟨bo, k * 2, none⟩ (.int .i64 x)).setCell ⟨bo, k * 2 + 1, none⟩ (.int .i64 y)).heap[b]? = wr.heap[b]? := fun b hb => by
    rw [blk_setCell_other _ _ _ _ (by simpa using hb), blk_setCell_other _ _ _ _ (by simpa using hb)]
  exact ⟨⟨(h.cw.be.setCell (by simp; omega) _).setCell (by simp; omega) _, by rw [World.cell?_of_block (g w.heap.size (by omega))]; exact h.cw.bo, by rw [World.cell?_of_block (g (w.heap.size + 1) (by omega))]; exact h.cw.bn, h.cw.lm, h.cw.mp.of_block (g bm ne)⟩, lo, ne, rowQ_set h.row x y⟩
theorem wpList_stop {P : Program} {ops : Array Oper} {rest : List Oper} {op : Oper} {a : Act} {w : World} {Q : Exit → Act → World → Prop} (ty : TypeId) (x : Operand) (ho : op.op = .load ty x) (h : RowKit.Hid (wpList P ops Q (op :: rest) a w)) : wpList P ops Q (op :: rest) a w := h.out
set_option maxRecDepth 100000 in
set_option maxHeartbeats 16000000 in
theorem scroll_Carry_any (po pn pf : Option Addr) (co cn cf : Nat) (old now : List Nd) (O : List (Int × Int)) (w : World) (ho : TreeAt w (.slice po old.length co) old) (hn : TreeAt w (.slice pn now.length cn) now) (hf : OffsAt w pf O) (hfl : O.length ≤ 9223372036854775807) : Calls Try.prog 28 #[.agg #[.slice po old.length co], .agg #[.slice pn now.length cn], .slice pf O.length cf] w fun e w' => ∃ v, e = .returned v ∧ w'.ownsRow w.heap.size 25 2 v (carryR old now O).length (cellsO (carryR old now O)) ∧ Below w.heap.size w w' := by
  obtain ⟨i0, hi, hz0, hz1, hz2⟩ := info_parts infoOff
  have HO := Lib.hid ho
  have HN := Lib.hid hn
  have HF := Lib.hid hf
  have hol := ho.len
  have hnl := hn.len
  clear ho hn hf
  obtain ⟨cd, hcd⟩ : ∃ z, z = (checkT now).1 := ⟨_, rfl⟩
  have HCD := Lib.hid hcd
  clear hcd
  have mk3 := @run_makeMap Try.prog
  by_cases h0 : cd = 0
  · have k0 : (cd != 0) = false := by rw [bne_eq_false_iff_eq]; exact h0
    go_enter Try.func28, Try.ntmps28
    go_wp2_with fail
    refine (tree_Check_any pn cn now _ (HN.out.later (by go_grown))).mono ?_
    rw [← HCD.out]
    generalize (checkT now).2 = c2 at *
    rintro e w1 ⟨rfl, hb1⟩
    have B1 : Below w.heap.size w w1 := below_via hb1 (by go_grown)
    have S1 : w.heap.size + 1 < w1.heap.size := by have := hb1.size; simp at this; omega
    have bo1 : w1.cell? ⟨w.heap.size, 0, none⟩ = some (.slice po old.length co) := by rw [(bcell hb1).1 _ _ (by simp <;> omega)]; simp [go_sem]
    have bn1 : w1.cell? ⟨w.heap.size + 1, 0, none⟩ = some (.slice pn now.length cn) := by rw [(bcell hb1).1 _ _ (by simp <;> omega)]; simp [go_sem]
    have S0 : w.heap.size < w1.heap.size := by omega
    clear hb1
    obtain ⟨ce, hce⟩ : ∃ z, z = (checkT old).1 := ⟨_, rfl⟩
    have HCE := Lib.hid hce
    clear hce
    go_wp2_with fail
    refine (tree_Check_any po co old _ (HO.out.later (by go_grown))).mono ?_
    rw [← HCE.out]
    generalize (checkT old).2 = c3 at *
    rintro e w2 ⟨rfl, hb2⟩
    have C1 : CrW w (w1.alloc (.map #[] 0)) w1.heap.size 0 noF (.slice po old.length co) (.slice pn now.length cn) :=
      ⟨by go_grown, by simp [go_sem, bo1, S0], by simp [go_sem, bn1, S1], S1, offsMap_made w1⟩
    have CW := Lib.hid (C1.below hb2)
    clear C1
    obtain ⟨bm, hbm⟩ : ∃ z, z = w1.heap.size := ⟨_, rfl⟩
    rw [← hbm] at CW ⊢
    clear hbm hb2 bo1 bn1 S1 S0 B1
    have bo := CW.out.bo
    have bn := CW.out.bn
    go_upto_region 6 with (fail)
    obtain ⟨bc, hbc⟩ : ∃ bc : Bool, bc = decide (ce = 0 ∧ O.length = old.length) := ⟨_, rfl⟩
    have HBC := Lib.hid hbc
    clear hbc
    go_cut [39] (fun s wx => s = .bool bc ∧ wx = w2)
    case first =>
      by_cases e0 : ce = 0
      · have E := Lib.hid (HBC.out.trans (show _ = decide (O.length = old.length) by simp [e0]))
        have k1 : (ce == 0) = true := by rw [beq_iff_eq]; exact e0
        clear e0
        go_wp2
        go_meet
        exact ⟨congrArg Value.bool (by rw [E.out, Bool.eq_iff_iff]; simp; omega), rfl⟩
      · have E := Lib.hid (HBC.out.trans (show _ = false by simp [e0]))
        have k1 : (ce == 0) = false := by rw [beq_eq_false_iff_ne]; exact e0
        clear e0
        go_wp2
        go_meet
        exact ⟨congrArg Value.bool E.out.symm, rfl⟩
    case rest =>
      obtain ⟨rfl, hwc⟩ := hcut
      rw [hwc]
      clear hwc
      obtain ⟨f, hf⟩ : ∃ f, f = heldF old O := ⟨_, rfl⟩
      have HFF := Lib.hid hf
      clear hf
      go_upto_if 39 with (fail)
      go_cut [9] (fun s wx => s = .map (some bm) ∧ ∃ m : Nat, RowKit.Hid (CrW w wx bm m f (.slice po old.length co) (.slice pn now.length cn)))
      case first =>
        cases bc
        · have e : f = noF := by
            rw [HFF.out]; unfold heldF
            rw [if_neg]
            rintro ⟨h1, h2⟩
            have := HBC.out
            rw [HCE.out, decide_eq_true ⟨h1, h2⟩] at this
            cases this
          have CW' := Lib.hid (e ▸ CW.out)
          go_wp2
          go_meet
          exact ⟨rfl, 0, CW'⟩
        · have hcond : (checkT old).1 = 0 ∧ O.length = old.length := by
            have := HBC.out
            rw [eq_comm, decide_eq_true_eq, HCE.out] at this
            exact this
          have e : f = keptF old O noF := by rw [HFF.out]; unfold heldF; rw [if_pos hcond]
          have E := Lib.hid e
          have HL := Lib.hid hcond.2
          clear e hcond
          go_wp2
          go_loopw [43] (fun i wr => ∃ k : Nat, ∃ g : List UInt8 → Int × Int, k ≤ old.length ∧ i = .int .i64 k ∧ RowKit.Hid (keptF (old.drop k) (O.drop k) g = f) ∧ RowKit.Hid (CrW w wr bm k g (.slice po old.length co) (.slice pn now.length cn))) (fun i _ => old.length - (intOf i).toNat)
          case atStart => exact ⟨0, noF, Nat.zero_le _, rfl, Lib.hid (E.out.symm), CW⟩
          case round =>
            clear CW bo bn
            obtain ⟨k, g, hk, rfl, HG, CW⟩ := hrel
            have bo := CW.out.bo
            have bn := CW.out.bn
            have BW := CW.out.be
            have SW := BW.size
            by_cases hlt : k < old.length
            · obtain ⟨_, _, po', co', e, _, _, hnd⟩ := HO.out
              injection e with e1 _ e2
              subst e1 e2
              obtain ⟨b, off, rfl, hb, hnd⟩ := hnd (by omega)
              obtain ⟨hxk⟩ : Nonempty (NdOk (old.getD k zNd)) := ⟨HO.out.ok _ (by rw [List.getD_eq_getElem?_getD, List.getElem?_eq_getElem hlt]; exact List.getElem_mem hlt)⟩
              obtain ⟨kv, cv, hkv, hcv, hc⟩ := (hnd k hlt).later BW (Nat.le_refl _) hb
              generalize hxe : old.getD k zNd = x at hkv hcv hc hxk
              have HXE := Lib.hid hxe
              have RNG0 := nd_range hc
              have ONE0 := ndV_one hkv hcv
              have c0e : (ndV x kv cv)[0]? = some (.int .i8 x.kind) := rfl
              have c1e : (ndV x kv cv)[1]? = some (.string x.id) := rfl
              have len0 := ndV_len x kv cv
              generalize ndV x kv cv = cs at *
              have RNG := Lib.hid RNG0
              have ONE := Lib.hid ONE0
              have LEN := Lib.hid len0
              have C0 := Lib.hid c0e
              have C1 := Lib.hid c1e
              have hbw : b < wr.heap.size := by omega
              clear hc hkv hcv RNG0 ONE0 len0 c0e c1e hxe
              go_wp2_with (first | ((with_reducible refine wpList_load_node ?g1 (.tmp 46) ?g2 b (off + k * 34) ?g3 cs LEN.out RNG.out ?_); (case g1 => rfl); (case g2 => rfl); (case g3 => rfl)) | ((with_reducible refine wpList_store_node ?g1 (.tmp 13) (.tmp 47) ?g2 _ _ cs ?g3 ?g4 ?g5 LEN.out ONE.out ?_); (case g1 => rfl); (case g2 => rfl); (case g3 => rfl); (case g4 => rfl); (case g5 => rfl)))
              intro w3 hb3 hz3 hr3
              have n0 : w3.cell? ⟨wr.heap.size, 0, none⟩ = some (.int .i8 x.kind) := hr3 0 _ C0.out
              have n1 : w3.cell? ⟨wr.heap.size, 1, none⟩ = some (.string x.id) := by have := hr3 1 _ C1.out; simpa using this
              clear hr3
              have CW3 := Lib.hid (CW.out.below hb3)
              have B3 : Below w.heap.size w w3 := CW3.out.be
              have bo3 := CW3.out.bo
              have bn3 := CW3.out.bn
              have HXK := Lib.hid hxk
              clear CW bo bn BW hxk hb3
              obtain ⟨v, hv⟩ : ∃ v, v = O.getD k (0, 0) := ⟨_, rfl⟩
              have hkO : k < O.length := by rw [HL.out]; exact hlt
              have HG' := Lib.hid (show keptF (x :: old.drop (k + 1)) (v :: O.drop (k + 1)) g = f by
                have := HG.out
                rw [List.drop_eq_getElem_cons hlt, List.drop_eq_getElem_cons hkO] at this
                rw [← HXE.out, hv, List.getD_eq_getElem?_getD, List.getElem?_eq_getElem hlt, List.getD_eq_getElem?_getD, List.getElem?_eq_getElem hkO]
                exact this)
              obtain ⟨b2, off2, rfl, hb2, hvv⟩ := HF.out (by omega)
              obtain ⟨v0, v1⟩ := hvv k hkO
              rw [← (bcell B3).1 _ _ hb2] at v0 v1
              rw [← hv] at v0 v1
              clear hv hvv HG
              have hb2w : b2 < w3.heap.size := by have := B3.size; omega
              have hkO2 : (k : Int) < (O.length : Int) := by omega
              obtain ⟨v0', v1'⟩ := v
              simp only [] at v0 v1
              rcases (show x.kind ≠ 6 ∨ (x.kind = 6 ∧ x.id.size = 0) ∨ (x.kind = 6 ∧ 0 < x.id.size ∧ v0' = 0 ∧ v1' = 0) ∨ (x.kind = 6 ∧ 0 < x.id.size ∧ v0' ≠ 0) ∨ (x.kind = 6 ∧ 0 < x.id.size ∧ v0' = 0 ∧ v1' ≠ 0) by omega) with h | ⟨h, h'⟩ | ⟨h, h', rfl, rfl⟩ | ⟨h, h', h''⟩ | ⟨h, h', rfl, h''⟩
              · have KK := Lib.hid (show keeps x (v0', v1') = false by unfold keeps; simp [h])
                have d : (x.kind == 6) = false := by rw [beq_eq_false_iff_ne]; exact h
                clear h
                have HG2 := Lib.hid (show keptF (old.drop (k + 1)) (O.drop (k + 1)) g = f by rw [← HG'.out, keptF, KK.out, if_neg (by decide)])
                have CW4 := Lib.hid (CrW.more CW3.out (Nat.le_succ k))
                clear HG'
                go_wp2
                go_roundw
                case rel => exact ⟨k + 1, g, by omega, by go_num, HG2, CW4⟩
                case measure => simp [intOf]; omega
              · have KK := Lib.hid (show keeps x (v0', v1') = false by unfold keeps; simp [h'])
                have d : (x.kind == 6) = true := by rw [beq_iff_eq]; exact h
                have e1 : x.id.toList = [] := by rw [ByteArray.toList_eq]; exact List.eq_nil_of_length_eq_zero (by rw [← Lib.size_eq]; exact h')
                clear h h'
                have HG2 := Lib.hid (show keptF (old.drop (k + 1)) (O.drop (k + 1)) g = f by rw [← HG'.out, keptF, KK.out, if_neg (by decide)])
                have CW4 := Lib.hid (CrW.more CW3.out (Nat.le_succ k))
                clear HG'
                go_wp2
                go_roundw
                case rel => exact ⟨k + 1, g, by omega, by go_num, HG2, CW4⟩
                case measure => simp [intOf]; omega
              · have KK := Lib.hid (show keeps x (0, 0) = false by unfold keeps; simp)
                have d : (x.kind == 6) = true := by rw [beq_iff_eq]; exact h
                have e2 := ne_nil_of_pos h'
                have e3 : x.id.toList.isEmpty = false := by rw [List.isEmpty_eq_false_iff]; exact e2
                clear h h'
                have HG2 := Lib.hid (show keptF (old.drop (k + 1)) (O.drop (k + 1)) g = f by rw [← HG'.out, keptF, KK.out, if_neg (by decide)])
                have CW4 := Lib.hid (CrW.more CW3.out (Nat.le_succ k))
                clear HG'
                go_wp2
                go_roundw
                case rel => exact ⟨k + 1, g, by omega, by go_num, HG2, CW4⟩
                case measure => simp [intOf]; omega
              · have KK := Lib.hid (show keeps x (v0', v1') = true by unfold keeps; simp [h, h', h''])
                have d : (x.kind == 6) = true := by rw [beq_iff_eq]; exact h
                have e2 := ne_nil_of_pos h'
                have e3 : x.id.toList.isEmpty = false := by rw [List.isEmpty_eq_false_iff]; exact e2
                have d1 : (v0' == 0) = false := by rw [beq_eq_false_iff_ne]; exact h''
                clear h h' h''
                have HG2 := Lib.hid (show keptF (old.drop (k + 1)) (O.drop (k + 1)) (putF g x.id.data.toList (v0', v1')) = f by rw [← HG'.out, keptF, KK.out, if_pos rfl])
                obtain ⟨D, own, isM, hD⟩ := CW3.out.mp
                have HD := Lib.hid hD
                have ISM := Lib.hid isM
                have kx := Lib.hid (keyOf_str HXK.out.id)
                have HZ := Lib.hid (show bm < w3.heap.size from CW3.out.mp.lt)
                clear HG' hD isM
                go_upto_region 11 with (fail)
                go_still_tail 7, (by kernel_rfl)
                change wpList _ _ _ _ _ w3.drew
                generalize hq : w3.drew = w4
                have own4 : w4.ownsMap Try.prog 9 rdOff bm k D := by rw [← hq]; exact own.drew
                have CW4 : CrW w w4 bm k g (.slice (some ⟨b, off, none⟩) old.length co) (.slice pn now.length cn) := by rw [← hq]; exact CrW.drew CW3.out
                have CW4h := Lib.hid CW4
                clear CW4 own hq CW3 B3 bo3 bn3 v0 v1
                go_wp2_with (at_mapUpdate; refine wpList_mapUpdate_own _ rfl _ _ _ 76 rfl 9 25 string_law_ Try.underlying76 rdOff bm k _ rfl own4 (by unfold maxLen; omega) _ (offV (v0', v1')) _ rfl rfl kx.out _ [] (rdOff_mk (v0', v1')) ?_)
                intro w5 own5 hg5
                have CW5 := Lib.hid (CrW.put CW4h.out (OffsMap.put ISM.out HD.out own5) hg5)
                clear own4 own5 hg5
                go_wp2
                go_roundw
                case rel => exact ⟨k + 1, _, by omega, by go_num, HG2, CW5⟩
                case measure => simp [intOf]; omega
              · have KK := Lib.hid (show keeps x (0, v1') = true by unfold keeps; simp [h, h', h''])
                have d : (x.kind == 6) = true := by rw [beq_iff_eq]; exact h
                have e2 := ne_nil_of_pos h'
                have e3 : x.id.toList.isEmpty = false := by rw [List.isEmpty_eq_false_iff]; exact e2
                have d1 : (v1' == 0) = false := by rw [beq_eq_false_iff_ne]; exact h''
                clear h h' h''
                have HG2 := Lib.hid (show keptF (old.drop (k + 1)) (O.drop (k + 1)) (putF g x.id.data.toList (0, v1')) = f by rw [← HG'.out, keptF, KK.out, if_pos rfl])
                obtain ⟨D, own, isM, hD⟩ := CW3.out.mp
                have HD := Lib.hid hD
                have ISM := Lib.hid isM
                have kx := Lib.hid (keyOf_str HXK.out.id)
                have HZ := Lib.hid (show bm < w3.heap.size from CW3.out.mp.lt)
                clear HG' hD isM
                go_upto_region 11 with (fail)
                go_still_tail 7, (by kernel_rfl)
                change wpList _ _ _ _ _ w3.drew
                generalize hq : w3.drew = w4
                have own4 : w4.ownsMap Try.prog 9 rdOff bm k D := by rw [← hq]; exact own.drew
                have CW4 : CrW w w4 bm k g (.slice (some ⟨b, off, none⟩) old.length co) (.slice pn now.length cn) := by rw [← hq]; exact CrW.drew CW3.out
                have CW4h := Lib.hid CW4
                clear CW4 own hq CW3 B3 bo3 bn3 v0 v1
                go_wp2_with (at_mapUpdate; refine wpList_mapUpdate_own _ rfl _ _ _ 76 rfl 9 25 string_law_ Try.underlying76 rdOff bm k _ rfl own4 (by unfold maxLen; omega) _ (offV (0, v1')) _ rfl rfl kx.out _ [] (rdOff_mk (0, v1')) ?_)
                intro w5 own5 hg5
                have CW5 := Lib.hid (CrW.put CW4h.out (OffsMap.put ISM.out HD.out own5) hg5)
                clear own4 own5 hg5
                go_wp2
                go_roundw
                case rel => exact ⟨k + 1, _, by omega, by go_num, HG2, CW5⟩
                case measure => simp [intOf]; omega
            · obtain rfl : k = old.length := by omega
              have e : g = f := by rw [← HG.out, List.drop_length]; simp [keptF]
              have CW' := Lib.hid (show CrW w wr bm old.length f (.slice po old.length co) (.slice pn now.length cn) from e ▸ CW.out)
              clear CW HG e
              go_wp2
              go_meet
              exact ⟨rfl, _, CW'⟩
      case rest =>
        clear CW bo bn HBC
        obtain ⟨rfl, m, CW⟩ := hcut
        obtain ⟨w3, hw3⟩ : ∃ x : World, x = wc := ⟨_, rfl⟩
        rw [← hw3] at CW ⊢
        clear hw3
        have bo := CW.out.bo
        have bn := CW.out.bn
        have BW := CW.out.be
        have HR := Lib.hid (show carryR old now O = now.map (outF f) by unfold carryR; rw [if_pos (by rw [← HCD.out]; exact h0), HFF.out])
        have hN1 := check_len (HCD.out.symm.trans h0)
        have mk := run_make_rowN (P := Try.prog) 48 25 i0 _ Try.underlying48 hi hz0 .i64 .i64 now.length now.length (Nat.le_refl _) (by rw [hz2]; omega) (by omega)
        rw [hz1] at mk
        simp only [Value.cells] at mk
        have B3a : Below w3.heap.size w3 (w3.alloc (.cells (madeCells #[.int .i64 0, .int .i64 0] (now.length * 2)) 25)) := below_al (Below.refl _ _) _
        have z3 : bm < w3.heap.size := CW.out.mp.lt
        have lm := CW.out.lm
        have OW0 := Lib.hid (show CoW w (w3.alloc (.cells (madeCells #[.int .i64 0, .int .i64 0] (now.length * 2)) 25)) bm m f (.slice po old.length co) (.slice pn now.length cn) w3.heap.size now.length (fun _ => (0, 0)) from ⟨CW.out.below B3a, by omega, by omega, rowQ_made _ _ _⟩)
        clear B3a
        go_upto_region 14 with (fail)
        obtain ⟨BO, hBO⟩ : ∃ z, z = w3.heap.size := ⟨_, rfl⟩
        obtain ⟨w4, hw4⟩ : ∃ x, x = w3.alloc (.cells (madeCells #[.int .i64 0, .int .i64 0] (now.length * 2)) 25) := ⟨_, rfl⟩
        rw [← hw4, ← hBO] at OW0
        rw [← hw4, ← hBO]
        clear hw4 hBO mk CW bo bn BW z3 lm
        have OW0 := Lib.hid OW0.out
        have bo := OW0.out.cw.bo
        have bn := OW0.out.cw.bn
        go_wp2
        go_loopw [79] (fun i wr => ∃ k : Nat, ∃ q : Nat → Int × Int, k ≤ now.length ∧ i = .int .i64 k ∧ RowKit.Hid (∀ j, j < k → q j = outF f (now.getD j zNd)) ∧ RowKit.Hid (∀ j, k ≤ j → q j = (0, 0)) ∧ RowKit.Hid (CoW w wr bm m f (.slice po old.length co) (.slice pn now.length cn) BO now.length q)) (fun i _ => now.length - (intOf i).toNat)
        case atStart => exact ⟨0, _, Nat.zero_le _, rfl, Lib.hid (fun j hj => absurd hj (Nat.not_lt_zero _)), Lib.hid (fun _ _ => rfl), OW0⟩
        case round =>
          clear OW0 bo bn
          obtain ⟨k, q, hk, rfl, HQ, HZ, OW⟩ := hrel
          have bo := OW.out.cw.bo
          have bn := OW.out.cw.bn
          have BW := OW.out.cw.be
          have SW := BW.size
          by_cases hlt : k < now.length
          · obtain ⟨_, _, pn', cn', e, _, _, hnd⟩ := HN.out
            injection e with e1 _ e2
            subst e1 e2
            obtain ⟨b, off, rfl, hb, hnd⟩ := hnd (by omega)
            obtain ⟨hxk⟩ : Nonempty (NdOk (now.getD k zNd)) := ⟨HN.out.ok _ (by rw [List.getD_eq_getElem?_getD, List.getElem?_eq_getElem hlt]; exact List.getElem_mem hlt)⟩
            obtain ⟨kv, cv, hkv, hcv, hc⟩ := (hnd k hlt).later BW (Nat.le_refl _) hb
            generalize hxe : now.getD k zNd = x at hkv hcv hc hxk
            have HXE := Lib.hid hxe
            have RNG0 := nd_range hc
            have ONE0 := ndV_one hkv hcv
            have c0e : (ndV x kv cv)[0]? = some (.int .i8 x.kind) := rfl
            have c1e : (ndV x kv cv)[1]? = some (.string x.id) := rfl
            have len0 := ndV_len x kv cv
            generalize ndV x kv cv = cs at *
            have RNG := Lib.hid RNG0
            have ONE := Lib.hid ONE0
            have LEN := Lib.hid len0
            have C0 := Lib.hid c0e
            have C1 := Lib.hid c1e
            have HXK := Lib.hid hxk
            have hbw : b < wr.heap.size := by omega
            clear hc hkv hcv RNG0 ONE0 len0 c0e c1e hxe hxk
            go_wp2_with (first | ((with_reducible refine wpList_load_node ?g1 (.tmp 82) ?g2 b (off + k * 34) ?g3 cs LEN.out RNG.out ?_); (case g1 => rfl); (case g2 => rfl); (case g3 => rfl)) | ((with_reducible refine wpList_store_node ?g1 (.tmp 16) (.tmp 83) ?g2 _ _ cs ?g3 ?g4 ?g5 LEN.out ONE.out ?_); (case g1 => rfl); (case g2 => rfl); (case g3 => rfl); (case g4 => rfl); (case g5 => rfl)))
            intro w5 hb5 hz5 hr5
            have n0 : w5.cell? ⟨wr.heap.size, 0, none⟩ = some (.int .i8 x.kind) := hr5 0 _ C0.out
            have n1 : w5.cell? ⟨wr.heap.size, 1, none⟩ = some (.string x.id) := by have := hr5 1 _ C1.out; simpa using this
            have OW5 := Lib.hid (OW.out.below hb5)
            have bo5 := OW5.out.cw.bo
            have bn5 := OW5.out.cw.bn
            have lk := OW5.out.cw.mp.look x.id HXK.out.id
            have r0 : w5.cell? ⟨BO, k * 2, none⟩ = some (.int .i64 0) := by
              have := OW5.out.row.cell (i := k * 2) (by omega)
              rw [this]; unfold cellQ; rw [if_pos (by omega), HZ.out _ (by omega)]
            have r1 : w5.cell? ⟨BO, k * 2 + 1, none⟩ = some (.int .i64 0) := by
              have := OW5.out.row.cell (i := k * 2 + 1) (by omega)
              rw [this]; unfold cellQ; rw [if_neg (by omega), HZ.out _ (by omega)]
            have f0 := OW5.out.row.frozen (k * 2)
            have f1 := OW5.out.row.frozen (k * 2 + 1)
            have hBOw : BO < w5.heap.size := OW5.out.row.lt
            have hkN : (k : Int) < (now.length : Int) := by omega
            clear hr5 hb5 OW BW bo bn
            by_cases h6 : x.kind = 6
            · have HE := Lib.hid (show outF f (now.getD k zNd) = f x.id.data.toList by rw [HXE.out]; unfold outF; rw [if_pos h6])
              have d : (x.kind == 6) = true := by rw [beq_iff_eq]; exact h6
              unfold offV at lk
              generalize f x.id.data.toList = v at lk HE
              obtain ⟨v0, v1⟩ := v
              simp only [] at lk
              clear h6
              have OW6 := Lib.hid (OW5.out.set k v0 v1)
              have HQ' := Lib.hid (show ∀ j, j < k + 1 → upd q k (v0, v1) j = outF f (now.getD j zNd) from fun j hj => by
                by_cases e : j = k
                · subst e; rw [upd_same, HE.out]
                · rw [upd_other e]; exact HQ.out j (by omega))
              have HZ' := Lib.hid (show ∀ j, k + 1 ≤ j → upd q k (v0, v1) j = (0, 0) from fun j hj => by rw [upd_other (by omega)]; exact HZ.out j (by omega))
              clear HQ HZ OW5
              go_wp2
              go_roundw
              case rel => exact ⟨k + 1, _, by omega, by go_num, HQ', HZ', OW6⟩
              case measure => simp [intOf]; omega
            · have HE := Lib.hid (show outF f (now.getD k zNd) = (0, 0) by rw [HXE.out]; unfold outF; rw [if_neg h6])
              have d : (x.kind == 6) = false := by rw [beq_eq_false_iff_ne]; exact h6
              clear h6 lk
              have HQ' := Lib.hid (show ∀ j, j < k + 1 → q j = outF f (now.getD j zNd) from fun j hj => by
                by_cases e : j = k
                · subst e; rw [HE.out]; exact HZ.out _ (Nat.le_refl _)
                · exact HQ.out j (by omega))
              have HZ' := Lib.hid (show ∀ j, k + 1 ≤ j → q j = (0, 0) from fun j hj => HZ.out j (by omega))
              clear HQ HZ
              go_wp2
              go_roundw
              case rel => exact ⟨k + 1, _, by omega, by go_num, HQ', HZ', OW5⟩
              case measure => simp [intOf]; omega
          · obtain rfl : k = now.length := by omega
            have OWN := Lib.hid (own_of_row (base := w.heap.size) OW.out.row (by have := OW.out.lo; omega) (by unfold maxLen; omega) (R := carryR old now O) (by rw [HR.out]; simp) (fun j hj => by
              rw [HQ.out j hj, HR.out, List.getD_eq_getElem?_getD, List.getD_eq_getElem?_getD, List.getElem?_map, List.getElem?_eq_getElem hj]; rfl))
            have HL := Lib.hid (show (carryR old now O).length = now.length by rw [HR.out]; simp)
            clear HQ HZ OW hlt hk
            go_wp2
            go_ret
            exact ⟨_, rfl, by rw [HL.out]; exact OWN.out, BW⟩
  · have HR := Lib.hid (show carryR old now O = [] by unfold carryR; rw [if_neg (by rw [← HCD.out]; exact h0)])
    have k0 : (cd != 0) = true := by rw [bne_iff_ne]; exact h0
    clear h0
    go_enter Try.func28, Try.ntmps28
    go_wp2_with fail
    refine (tree_Check_any pn cn now _ (HN.out.later (by go_grown))).mono ?_
    rw [← HCD.out]
    generalize (checkT now).2 = c2 at *
    rintro e w1 ⟨rfl, hb1⟩
    have B1 : Below w.heap.size w w1 := below_via hb1 (by go_grown)
    clear hb1
    go_wp2
    go_ret
    exact ⟨_, rfl, by rw [HR.out]; exact ⟨rfl, .inl ⟨rfl, rfl⟩⟩, B1⟩
end Go.Proofs.Ytegdokchkblpiaa
