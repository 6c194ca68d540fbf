/- Trees: contract of the reference's Carry. -/
import Derived.Test.YtegdokchkblpiaaLntI
import Derived.Test.YtegdokchkblpiaaTrrF
import Derived.Deep.CutRange
namespace Go.Proofs.Ytegdokchkblpiaa
open Go.RowKit Go.Deep
set_option linter.unusedVariables false
set_option linter.unusedSimpArgs false

/-- do a node of now and one of old answer to one another? -/
def matchB (m x : Nd) : Bool := decide (x.kind = 6 ∧ m.kind = 6 ∧ 0 < x.id.size ∧ x.id.toList = m.id.toList)
def lastF (x : Nd) : List Nd → List (Int × Int) → Int × Int → Int × Int
  | m :: l, v :: o, a => lastF x l o (if matchB m x = true then v else a)
  | _, _, a => a
def refF (old : List Nd) (O : List (Int × Int)) (x : Nd) : Int × Int := if (checkT old).1 = 0 ∧ O.length = old.length then lastF x old O (0, 0) else (0, 0)
theorem toList_eq_iff {a b : ByteArray} : a.toList = b.toList ↔ a.data.toList = b.data.toList := by rw [ByteArray.toList_eq, ByteArray.toList_eq]
theorem lastF_no {x : Nd} (h : ¬ (x.kind = 6 ∧ 0 < x.id.size)) : ∀ (l : List Nd) (o : List (Int × Int)) (a : Int × Int), lastF x l o a = a
  | [], _, _ => by simp [lastF]
  | _ :: _, [], _ => by simp [lastF]
  | m :: l, v :: o, a => by
    rw [lastF, if_neg (by unfold matchB; rw [decide_eq_true_eq]; rintro ⟨h1, _, h2, _⟩; exact h ⟨h1, h2⟩)]
    exact lastF_no h l o a
theorem last_kept {x : Nd} (hk : x.kind = 6) (h0 : 0 < x.id.size) : ∀ (l : List Nd) (o : List (Int × Int)) (f : List UInt8 → Int × Int) (a : Int × Int), f x.id.data.toList = a → (a = (0, 0) ∨ ∀ i, i < l.length → (l.getD i zNd).id.data.toList ≠ x.id.data.toList) →
    (∀ i j, i < l.length → j < l.length → i ≠ j → (l.getD i zNd).id.data.toList = x.id.data.toList → (l.getD j zNd).id.data.toList ≠ x.id.data.toList) → keptF l o f x.id.data.toList = lastF x l o a
  | [], o, f, a, hf, _, _ => by simp [keptF, lastF, hf]
  | m :: l, [], f, a, hf, _, _ => by simp [keptF, lastF, hf]
  | m :: l, v :: o, f, a, hf, ha, hu => by
    rw [keptF, lastF]
    have hu' : ∀ i j, i < l.length → j < l.length → i ≠ j → (l.getD i zNd).id.data.toList = x.id.data.toList → (l.getD j zNd).id.data.toList ≠ x.id.data.toList := fun i j hi hj hne => hu (i + 1) (j + 1) (by simpa using hi) (by simpa using hj) (by omega)
    have ha' : ∀ {b : Int × Int}, (b = (0, 0) ∨ ∀ i, i < (m :: l).length → ((m :: l).getD i zNd).id.data.toList ≠ x.id.data.toList) → (b = (0, 0) ∨ ∀ i, i < l.length → (l.getD i zNd).id.data.toList ≠ x.id.data.toList) := fun h => h.imp id (fun h i hi => h (i + 1) (by simpa using hi))
    by_cases hm : m.id.data.toList = x.id.data.toList
    · have hr : ∀ i, i < l.length → (l.getD i zNd).id.data.toList ≠ x.id.data.toList := fun i hi => hu 0 (i + 1) (by simp) (by simpa using hi) (by omega) hm
      have hz : a = (0, 0) := ha.resolve_right (fun h => h 0 (by simp) hm)
      have h0m : 0 < m.id.size := by rw [Lib.size_eq, hm, ← Lib.size_eq]; exact h0
      by_cases hmk : m.kind = 6
      · have hmt : matchB m x = true := by unfold matchB; rw [decide_eq_true_eq]; exact ⟨hk, hmk, h0, toList_eq_iff.2 hm.symm⟩
        rw [if_pos hmt]
        by_cases hv : v.1 ≠ 0 ∨ v.2 ≠ 0
        · rw [if_pos (by unfold keeps; rw [decide_eq_true_eq]; exact ⟨hmk, h0m, hv⟩)]
          exact last_kept hk h0 l o _ v (by unfold putF; rw [if_pos hm.symm]) (.inr hr) hu'
        · rw [if_neg (by unfold keeps; rw [decide_eq_true_eq]; rintro ⟨_, _, h⟩; exact hv h)]
          have hv0 : v = (0, 0) := by
            obtain ⟨v1, v2⟩ := v
            simp only [ne_eq, not_or, Decidable.not_not] at hv
            rw [hv.1, hv.2]
          exact last_kept hk h0 l o f v (by rw [hf, hz, hv0]) (.inr hr) hu'
      · rw [if_neg (show ¬ matchB m x = true by unfold matchB; rw [decide_eq_true_eq]; rintro ⟨_, h, _⟩; exact hmk h), if_neg (show ¬ keeps m v = true by unfold keeps; rw [decide_eq_true_eq]; rintro ⟨h, _⟩; exact hmk h)]
        exact last_kept hk h0 l o f a hf (ha' ha) hu'
    · rw [if_neg (show ¬ matchB m x = true by unfold matchB; rw [decide_eq_true_eq]; rintro ⟨_, _, _, h⟩; exact hm (toList_eq_iff.1 h).symm)]
      refine last_kept hk h0 l o _ a ?_ (ha' ha) hu'
      split
      · unfold putF; rw [if_neg (fun e => hm e.symm)]; exact hf
      · exact hf
theorem refF_eq (old : List Nd) (O : List (Int × Int)) (x : Nd) : refF old O x = outF (heldF old O) x := by
  unfold refF heldF
  by_cases hc : (checkT old).1 = 0 ∧ O.length = old.length
  · rw [if_pos hc, if_pos hc]
    unfold outF
    by_cases hk : x.kind = 6
    · rw [if_pos hk]
      by_cases h0 : 0 < x.id.size
      · exact (last_kept hk h0 old O noF (0, 0) rfl (.inl rfl) (fun i j hi hj hne e => by
          have h1 : 0 < (old.getD i zNd).id.size := by rw [Lib.size_eq, e, ← Lib.size_eq]; exact h0
          have := check_ids hc.1 i j hi hj hne h1
          rw [e] at this
          exact this)).symm
      · rw [lastF_no (fun h => h0 h.2), keptF_miss old O noF _ (fun i hi hkeep e => by
          unfold keeps at hkeep
          rw [decide_eq_true_eq] at hkeep
          have := hkeep.2.1
          rw [Lib.size_eq, e, ← Lib.size_eq] at this
          exact h0 this)]
        rfl
    · rw [if_neg hk, lastF_no (fun h => hk h.1)]
  · rw [if_neg hc, if_neg hc]
    unfold outF noF
    split <;> rfl
theorem ref_carry (old now : List Nd) (O : List (Int × Int)) : now.map (refF old O) = now.map (outF (heldF old O)) := List.map_congr_left fun x _ => refF_eq old O x
/-- the state within a round: x's cells, the copy of n -/
structure RfW (wr W : World) (xb nb : Nat) (a : Int × Int) (x : Nd) : Prop where
  be : Below wr.heap.size wr W
  x0 : W.heap[xb]? = some (.cells #[.int .i64 a.1, .int .i64 a.2] 25 (0, 0))
  n0 : W.cell? ⟨nb, 0, none⟩ = some (.int .i8 x.kind)
  n1 : W.cell? ⟨nb, 1, none⟩ = some (.string x.id)
  xl : wr.heap.size ≤ xb
  xn : xb < nb
  nz : nb < W.heap.size
theorem RfW.later {wr W W' : World} {xb nb : Nat} {a : Int × Int} {x : Nd} (h : RfW wr W xb nb a x) (hb : Below W.heap.size W W') : RfW wr W' xb nb a x := by
  have nz := h.nz
  have xn := h.xn
  exact ⟨below_via hb h.be, (hb.block _ (by omega)).trans h.x0, by rw [(bcell hb).1 _ _ nz]; exact h.n0, by rw [(bcell hb).1 _ _ nz]; exact h.n1, h.xl, xn, Nat.lt_of_lt_of_le nz hb.size⟩
theorem RfW.set {wr W : World} {xb nb : Nat} {a b : Int × Int} {x : Nd} (h : RfW wr W xb nb a x) : RfW wr ((W.setCell ⟨xb, 0, none⟩ (.int .i64 b.1)).setCell ⟨xb, 1, none⟩ (.int .i64 b.2)) xb nb b x := by
  have nz := h.nz
  have xn := h.xn
  have xl := h.xl
  have g : ∀ c, c ≠ xb → ((W.setCell ⟨xb, 0, none⟩ (.int .i64 b.1)).setCell ⟨xb, 1, none⟩ (.int .i64 b.2)).heap[c]? = W.heap[c]? := fun c hc => by
    rw [blk_setCell_other _ _ _ _ (by simpa using hc), blk_setCell_other _ _ _ _ (by simpa using hc)]
  refine ⟨(h.be.setCell (by simpa using xl) _).setCell (by simpa using xl) _, ?_, by rw [World.cell?_of_block (g nb (by omega))]; exact h.n0, by rw [World.cell?_of_block (g nb (by omega))]; exact h.n1, xl, xn, by simpa using nz⟩
  have h1 := heap_setCell_same W xb 0 _ _ (.int .i64 b.1) h.x0
  have h2 := heap_setCell_same _ xb 1 _ _ (.int .i64 b.2) h1
  simpa using h2
theorem wpList_store_nodeC {ops : Array Oper} {rest : List Oper} {op : Oper} {a : Act} {w : World} {Q : Exit → Act → World → Prop} (hgd : op.guard = none) (x y : Operand) (ho : op.op = .store 63 x y) (zs : Array Value) (ty' : TypeId) (cs : List Value) (g : Nat) (hg : g = w.heap.size) (hx : a.eval x = .pointer (some ⟨g, 0, none⟩)) (hy : a.eval y = .agg cs.toArray) (hz : zs.size = 34) (hl : cs.length = 34) (h1 : ∀ v ∈ cs, v.oneCell' = true)
    (h : ∀ w3 : World, RowKit.Hid (w3 = w.alloc (.cells cs.toArray ty')) → wpList Try.prog ops Q rest (a.put op.dst undef) w3) : wpList Try.prog ops Q (op :: rest) a (w.alloc (.cells zs ty')) := by
  subst hg
  exact wpList_store_nodeB hgd x y ho zs ty' cs hx hy hz hl h1 h
set_option maxRecDepth 100000 in
set_option maxHeartbeats 16000000 in
theorem ref_Carry_any (po pn pf : Option Addr) (co cn cf : Nat) (old now : List Nd) (O : List (Int × Int)) (w : World) (ho : TreeAt w (.slice po old.length co) old) (hn : TreeAt w (.slice pn now.length cn) now) (hf : OffsAt w pf O) (hfl : O.length ≤ 9223372036854775807) : Calls Try.prog 26 #[.agg #[.slice po old.length co], .agg #[.slice pn now.length cn], .slice pf O.length cf] w fun e w' => ∃ v, e = .returned v ∧ w'.ownsRow w.heap.size 25 2 v (carryR old now O).length (cellsO (carryR old now O)) ∧ Below w.heap.size w w' := by
  obtain ⟨i0, hi, hz0, hz1, hz2⟩ := info_parts infoOff
  have HI := Lib.hid (And.intro hi (And.intro hz0 (And.intro hz1 hz2)))
  have HO := Lib.hid ho
  have HN := Lib.hid hn
  have HF := Lib.hid hf
  have hol := ho.len
  have hnl := hn.len
  clear ho hn hf hi hz0 hz1 hz2
  obtain ⟨cd, hcd⟩ : ∃ z, z = (checkT now).1 := ⟨_, rfl⟩
  have HCD := Lib.hid hcd
  clear hcd
  by_cases h0 : cd = 0
  · have k0 : (cd != 0) = false := by rw [bne_eq_false_iff_eq]; exact h0
    have HLN := Lib.hid (check_len (HCD.out.symm.trans h0))
    go_enter Try.func26, Try.ntmps26
    go_wp2_with fail
    refine (ref_Check_any pn cn now _ (HN.out.later (by go_grown))).mono ?_
    rw [← HCD.out]
    generalize (checkT now).2 = c2 at *
    rintro e w1 ⟨rfl, hb1⟩
    have B1 : Below w.heap.size w w1 := below_via hb1 (by go_grown)
    have S1 : w.heap.size + 1 < w1.heap.size := by have := hb1.size; simp at this; omega
    have bo1 : w1.cell? ⟨w.heap.size, 0, none⟩ = some (.slice po old.length co) := by rw [(bcell hb1).1 _ _ (by simp <;> omega)]; simp [go_sem]
    have bn1 : w1.cell? ⟨w.heap.size + 1, 0, none⟩ = some (.slice pn now.length cn) := by rw [(bcell hb1).1 _ _ (by simp <;> omega)]; simp [go_sem]
    have S0 : w.heap.size < w1.heap.size := by omega
    clear hb1
    obtain ⟨ce, hce⟩ : ∃ z, z = (checkT old).1 := ⟨_, rfl⟩
    have HCE := Lib.hid hce
    clear hce
    go_wp2_with fail
    refine (ref_Check_any po co old _ (HO.out.later B1)).mono ?_
    rw [← HCE.out]
    generalize (checkT old).2 = c3 at *
    rintro e w2 ⟨rfl, hb2⟩
    have B2 : Below w.heap.size w w2 := below_via hb2 B1
    have S2 : w.heap.size + 1 < w2.heap.size := by have := hb2.size; omega
    have S2' : w.heap.size < w2.heap.size := by omega
    have bo2 : w2.cell? ⟨w.heap.size, 0, none⟩ = some (.slice po old.length co) := by rw [(bcell hb2).1 _ _ S0]; exact bo1
    have bn2 : w2.cell? ⟨w.heap.size + 1, 0, none⟩ = some (.slice pn now.length cn) := by rw [(bcell hb2).1 _ _ S1]; exact bn1
    clear hb2 B1 bo1 bn1 S1 S0
    have HLO : RowKit.Hid (ce = 0 → old.length ≤ 4096) := Lib.hid (fun h => (check_len (HCE.out.symm.trans h)).2)
    go_wp2
    go_loopw [12, 7] (fun i v wr => ∃ k : Nat, k ≤ now.length ∧ i = .int .i64 k ∧ RowKit.Hid (wr.ownsRow w2.heap.size 25 2 v k (cellsO ((now.take k).map (refF old O)))) ∧ Below w2.heap.size w2 wr) (fun i _ _ => now.length - (intOf i).toNat)
    case atStart => exact ⟨0, Nat.zero_le _, rfl, Lib.hid ⟨rfl, .inl ⟨rfl, rfl⟩⟩, Below.refl _ _⟩
    case round =>
      obtain ⟨k, hk, rfl, HOW, BW⟩ := hrel
      obtain ⟨wo, hwo⟩ : ∃ wo : World, wo = wr := ⟨_, rfl⟩
      have bo : wr.cell? ⟨w.heap.size, 0, none⟩ = some (.slice po old.length co) := by rw [(bcell BW).1 _ _ S2']; exact bo2
      have bn : wr.cell? ⟨w.heap.size + 1, 0, none⟩ = some (.slice pn now.length cn) := by rw [(bcell BW).1 _ _ S2]; exact bn2
      have SW := BW.size
      have s0 : w.heap.size < wr.heap.size := by omega
      have s1 : w.heap.size + 1 < wr.heap.size := by omega
      have BWW := below_via BW B2
      by_cases hlt : k < now.length
      · have hki : (k : Int) < (now.length : Int) := by omega
        obtain ⟨_, _, p', c', e, _, _, hnd⟩ := HN.out
        injection e with e1 _ e2
        subst e1 e2
        obtain ⟨b, off, rfl, hb, hnd⟩ := hnd (by omega)
        obtain ⟨kv, cv, hkv, hcv, hc⟩ := (hnd k hlt).later BWW (Nat.le_refl _) hb
        generalize hxe : now.getD k zNd = x at hkv hcv hc
        have HXE := Lib.hid hxe
        have RNG0 := nd_range hc
        have ONE0 := ndV_one hkv hcv
        have c0e : (ndV x kv cv)[0]? = some (.int .i8 x.kind) := rfl
        have c1e : (ndV x kv cv)[1]? = some (.string x.id) := rfl
        have len0 := ndV_len x kv cv
        generalize ndV x kv cv = ns at *
        have RNG := Lib.hid RNG0
        have ONE := Lib.hid ONE0
        have LEN := Lib.hid len0
        have C0 := Lib.hid c0e
        have C1 := Lib.hid c1e
        have hbw : b < wr.heap.size := by have := B2.size; omega
        have RNG1 : RowKit.Hid ((wr.alloc (.cells #[.int .i64 0, .int .i64 0] 25)).rangeAt b (off + k * 34) ns) := Lib.hid (World.rangeAt_alloc RNG.out _)
        clear hc hkv hcv RNG0 ONE0 len0 c0e c1e hxe hnd RNG hwo
        go_wp2_with (first | ((with_reducible refine wpList_load_node ?g1 (.tmp 41) ?g2 b (off + k * 34) ?g3 ns LEN.out RNG1.out ?_); (case g1 => rfl); (case g2 => rfl); (case g3 => rfl)) | ((with_reducible refine wpList_store_nodeC ?g1 (.tmp 14) (.tmp 42) ?g2 _ _ ns (wr.heap.size + 1) ?g6 ?g3 ?g4 ?g5 LEN.out ONE.out ?_); (case g1 => rfl); (case g2 => rfl); (case g3 => rfl); (case g4 => rfl); (case g5 => rfl); (case g6 => simp)))
        intro w3 HW3
        obtain ⟨xb, hxb⟩ : ∃ xb, xb = wr.heap.size := ⟨_, rfl⟩
        obtain ⟨nb, hnb⟩ : ∃ nb, nb = wr.heap.size + 1 := ⟨_, rfl⟩
        have RC0 : RfW wr w3 xb nb (0, 0) x := by
          have nn : w3.heap[nb]? = some (.cells ns.toArray 63 (0, 0)) := by
            rw [HW3.out, hnb]
            have := heap_alloc_new (wr.alloc (.cells #[.int .i64 0, .int .i64 0] 25)) (.cells ns.toArray 63)
            rwa [World.size_alloc] at this
          refine ⟨by rw [HW3.out]; exact below_al (below_al (Below.refl _ _) _) _, ?_, blk_cell nn C0.out, blk_cell nn C1.out, by omega, by omega, lt_of_block nn⟩
          rw [HW3.out, hxb]
          exact (heap_alloc_old _ _ (by simp)).trans (heap_alloc_new _ _)
        rw [← hnb, ← hxb]
        have HRC := Lib.hid RC0
        have hn1 : wr.heap.size ≤ xb := by omega
        clear HW3 hxb hnb C0 C1 RC0 RNG1 ONE LEN hbw bo bn
        go_wp2
        obtain ⟨wo, rfl⟩ : ∃ wo : World, wo = wr := ⟨_, rfl⟩
        go_loopw [15] (fun j wr => ∃ q : Nat, ∃ a : Int × Int, q ≤ old.length ∧ j = .int .i64 q ∧ RowKit.Hid ((ce = 0 ∧ O.length = old.length → lastF x (old.drop q) (O.drop q) a = lastF x old O (0, 0)) ∧ (¬ (ce = 0 ∧ O.length = old.length) → a = (0, 0))) ∧ RowKit.Hid (RfW wo wr xb nb a x)) (fun j _ => old.length - (intOf j).toNat)
        case atStart => exact ⟨0, (0, 0), Nat.zero_le _, rfl, Lib.hid ⟨fun _ => rfl, fun _ => rfl⟩, HRC⟩
        case round =>
          clear HRC
          obtain ⟨q, a, hq, rfl, HG, HRC⟩ := hrel
          have BR := HRC.out.be
          have SR := BR.size
          have bo : wr.cell? ⟨w.heap.size, 0, none⟩ = some (.slice po old.length co) := by rw [(bcell BR).1 _ _ s0, (bcell BW).1 _ _ S2']; exact bo2
          have z0 : w.heap.size < wr.heap.size := by omega
          have BRW := below_via BR BWW
          obtain ⟨bb, hbb⟩ : ∃ bb : Bool, bb = decide (q < old.length ∧ ce = 0 ∧ O.length = old.length) := ⟨_, rfl⟩
          have HBB := Lib.hid hbb
          clear hbb
          go_upto_region 12 with (fail)
          go_cut [59] from 43 to 90 (fun s wx => s = .bool bb ∧ wx = wr)
          case first =>
            rcases (show ¬ q < old.length ∨ (q < old.length ∧ ce ≠ 0) ∨ (q < old.length ∧ ce = 0 ∧ O.length ≠ old.length) ∨ (q < old.length ∧ ce = 0 ∧ O.length = old.length) by omega) with g | ⟨g, g'⟩ | ⟨g, g', g''⟩ | ⟨g, g', g''⟩
            · have E := Lib.hid (HBB.out.trans (show _ = false by simp [g]))
              have g2 : (old.length : Int) ≤ (q : Int) := by omega
              clear HBB HG
              go_wp2
              go_meet
              exact ⟨congrArg Value.bool E.out.symm, rfl⟩
            · have E := Lib.hid (HBB.out.trans (show _ = false by simp [g']))
              have hqi : (q : Int) < (old.length : Int) := by omega
              have k1 : (ce == 0) = false := by rw [beq_eq_false_iff_ne]; exact g'
              clear HBB HG g'
              go_wp2
              go_meet
              exact ⟨congrArg Value.bool E.out.symm, rfl⟩
            · have E := Lib.hid (HBB.out.trans (show _ = false by simp [g'']))
              have hqi : (q : Int) < (old.length : Int) := by omega
              have k1 : (ce == 0) = true := by rw [beq_iff_eq]; exact g'
              have k3 : (O.length == old.length) = false := by rw [beq_eq_false_iff_ne]; exact g''
              have k2 : ((O.length : Int) == (old.length : Int)) = false := by rw [beq_eq_false_iff_ne]; omega
              clear HBB HG g' g''
              go_wp2
              go_meet
              exact ⟨congrArg Value.bool E.out.symm, rfl⟩
            · have E := Lib.hid (HBB.out.trans (show _ = true by simp [g, g', g'']))
              have hqi : (q : Int) < (old.length : Int) := by omega
              have k1 : (ce == 0) = true := by rw [beq_iff_eq]; exact g'
              have k2 : ((O.length : Int) == (old.length : Int)) = true := by rw [beq_iff_eq, g'']
              have k3 : (O.length == old.length) = true := by rw [beq_iff_eq]; exact g''
              clear HBB HG
              go_wp2
              go_meet
              exact ⟨congrArg Value.bool E.out.symm, rfl⟩
          case rest =>
          obtain ⟨rfl, hwc⟩ := hcut
          rw [hwc]
          clear hwc
          cases bb
          case true =>
              have hbt := HBB.out
              rw [eq_comm, decide_eq_true_eq] at hbt
              obtain ⟨hlq, hc1, hc2⟩ := hbt
              have HCN := Lib.hid (show ce = 0 ∧ O.length = old.length from ⟨hc1, hc2⟩)
              clear hc1 hc2
              have hqi : (q : Int) < (old.length : Int) := by omega
              obtain ⟨_, _, p', c', e, _, _, hnd⟩ := HO.out
              injection e with e1 _ e2
              subst e1 e2
              obtain ⟨b, off, rfl, hb, hnd⟩ := hnd (by omega)
              obtain ⟨kv, cv, hkv, hcv, hc⟩ := (hnd q hlq).later BRW (Nat.le_refl _) hb
              have hxo : q < O.length := by rw [HCN.out.2]; exact hlq
              have HG2 := Lib.hid (show lastF x (old.getD q zNd :: old.drop (q + 1)) (O.getD q (0, 0) :: O.drop (q + 1)) a = lastF x old O (0, 0) by
                have := HG.out.1 HCN.out
                rw [List.drop_eq_getElem_cons hlq, List.drop_eq_getElem_cons hxo] at this
                rw [List.getD_eq_getElem?_getD, List.getElem?_eq_getElem hlq, List.getD_eq_getElem?_getD, List.getElem?_eq_getElem hxo]
                exact this)
              obtain ⟨m, hm⟩ : ∃ m, m = old.getD q zNd := ⟨_, rfl⟩
              obtain ⟨v, hv⟩ : ∃ v, v = O.getD q (0, 0) := ⟨_, rfl⟩
              rw [← hm, ← hv] at HG2
              rw [← hm] at hkv hcv hc
              obtain ⟨b2, off2, rfl, hb2, hvv⟩ := HF.out (by omega)
              obtain ⟨v0, v1⟩ := hvv q hxo
              rw [← hv] at v0 v1
              have HVV := Lib.hid (And.intro v0 v1)
              have RNG0 := nd_range hc
              have ONE0 := ndV_one hkv hcv
              have c0e : (ndV m kv cv)[0]? = some (.int .i8 m.kind) := rfl
              have c1e : (ndV m kv cv)[1]? = some (.string m.id) := rfl
              have len0 := ndV_len m kv cv
              generalize ndV m kv cv = ns at *
              have RNG := Lib.hid RNG0
              have ONE := Lib.hid ONE0
              have LEN := Lib.hid len0
              have C0 := Lib.hid c0e
              have C1 := Lib.hid c1e
              have hbw : b < wr.heap.size := by have := BRW.size; omega
              have hq4 : (q : Int) < 4096 := by have := HLO.out HCN.out.1; omega
              clear hc hkv hcv RNG0 ONE0 len0 c0e c1e hnd v0 v1 hvv hm hv HG
              go_wp2_with (first | ((with_reducible refine wpList_load_node ?h1 (.tmp 65) ?h2 b (off + q * 34) ?h3 ns LEN.out RNG.out ?_); (case h1 => rfl); (case h2 => rfl); (case h3 => rfl)) | ((with_reducible refine wpList_store_nodeC ?h1 (.tmp 16) (.tmp 66) ?h2 _ _ ns wr.heap.size ?h6 ?h3 ?h4 ?h5 LEN.out ONE.out ?_); (case h1 => rfl); (case h2 => rfl); (case h3 => rfl); (case h4 => rfl); (case h5 => rfl); (case h6 => rfl)))
              intro w5 HW5
              obtain ⟨mb, hmb⟩ : ∃ mb, mb = wr.heap.size := ⟨_, rfl⟩
              have mm : w5.heap[mb]? = some (.cells ns.toArray 63 (0, 0)) := by rw [HW5.out, hmb]; exact heap_alloc_new _ _
              have B5 : Below wr.heap.size wr w5 := by rw [HW5.out]; exact below_al (Below.refl _ _) _
              have m0 : w5.cell? ⟨mb, 0, none⟩ = some (.int .i8 m.kind) := blk_cell mm C0.out
              have m1 : w5.cell? ⟨mb, 1, none⟩ = some (.string m.id) := blk_cell mm C1.out
              have zm : mb < w5.heap.size := lt_of_block mm
              have RC5 := Lib.hid (HRC.out.later B5)
              have n0 := RC5.out.n0
              have n1 := RC5.out.n1
              have zn := RC5.out.nz
              have zx : xb < w5.heap.size := lt_of_block RC5.out.x0
              have xa0 : w5.cell? ⟨xb, 0, none⟩ = some (.int .i64 a.1) := blk_cell (cs := [.int .i64 a.1, .int .i64 a.2]) RC5.out.x0 rfl
              have xa1 : w5.cell? ⟨xb, 1, none⟩ = some (.int .i64 a.2) := blk_cell (cs := [.int .i64 a.1, .int .i64 a.2]) RC5.out.x0 rfl
              have xf0 : w5.frozen? ⟨xb, 0, none⟩ = false := frozen_of_row _ _ _ _ _ RC5.out.x0
              have xf1 : w5.frozen? ⟨xb, 1, none⟩ = false := frozen_of_row _ _ _ _ _ RC5.out.x0
              obtain ⟨v0', v1'⟩ := v
              have v0 : w5.cell? ⟨b2, off2 + q * 2, none⟩ = some (.int .i64 v0') := by rw [(bcell (below_via B5 BRW)).1 _ _ hb2]; exact HVV.out.1
              have v1 : w5.cell? ⟨b2, off2 + q * 2 + 1, none⟩ = some (.int .i64 v1') := by rw [(bcell (below_via B5 BRW)).1 _ _ hb2]; exact HVV.out.2
              have zb2 : b2 < w5.heap.size := by have := (below_via B5 BRW).size; omega
              have hqo : (q : Int) < (O.length : Int) := by omega
              rw [← hmb]
              clear HW5 hmb mm C0 C1 ONE LEN RNG HVV HRC B5 bo HBB
              rcases (show x.kind ≠ 6 ∨ (x.kind = 6 ∧ m.kind ≠ 6) ∨ (x.kind = 6 ∧ m.kind = 6 ∧ x.id.size = 0) ∨ (x.kind = 6 ∧ m.kind = 6 ∧ 0 < x.id.size) by omega) with h | ⟨h, h'⟩ | ⟨h, h', h''⟩ | ⟨h, h', h''⟩
              · have KK := Lib.hid (show matchB m x = false by unfold matchB; simp [h])
                have d : (x.kind == 6) = false := by rw [beq_eq_false_iff_ne]; exact h
                clear h
                have HG3 := Lib.hid (show lastF x (old.drop (q + 1)) (O.drop (q + 1)) a = lastF x old O (0, 0) by rw [← HG2.out, lastF, KK.out, if_neg (by decide)])
                clear KK HG2
                go_wp2
                go_roundw
                case rel => exact ⟨q + 1, a, by omega, by go_num, Lib.hid ⟨fun _ => HG3.out, fun hn => absurd HCN.out hn⟩, RC5⟩
                case measure => simp [intOf]; omega
              · have KK := Lib.hid (show matchB m x = false by unfold matchB; simp [h'])
                have d : (x.kind == 6) = true := by rw [beq_iff_eq]; exact h
                have d1 : (m.kind == 6) = false := by rw [beq_eq_false_iff_ne]; exact h'
                clear h h'
                have HG3 := Lib.hid (show lastF x (old.drop (q + 1)) (O.drop (q + 1)) a = lastF x old O (0, 0) by rw [← HG2.out, lastF, KK.out, if_neg (by decide)])
                clear KK HG2
                go_wp2
                go_roundw
                case rel => exact ⟨q + 1, a, by omega, by go_num, Lib.hid ⟨fun _ => HG3.out, fun hn => absurd HCN.out hn⟩, RC5⟩
                case measure => simp [intOf]; omega
              · have KK := Lib.hid (show matchB m x = false by unfold matchB; simp [h''])
                have d : (x.kind == 6) = true := by rw [beq_iff_eq]; exact h
                have d1 : (m.kind == 6) = true := by rw [beq_iff_eq]; exact h'
                have e1 : x.id.toList = [] := by rw [ByteArray.toList_eq]; exact List.eq_nil_of_length_eq_zero (by rw [← Lib.size_eq]; exact h'')
                clear h h' h''
                have HG3 := Lib.hid (show lastF x (old.drop (q + 1)) (O.drop (q + 1)) a = lastF x old O (0, 0) by rw [← HG2.out, lastF, KK.out, if_neg (by decide)])
                clear KK HG2
                go_wp2
                go_roundw
                case rel => exact ⟨q + 1, a, by omega, by go_num, Lib.hid ⟨fun _ => HG3.out, fun hn => absurd HCN.out hn⟩, RC5⟩
                case measure => simp [intOf]; omega
              · have d : (x.kind == 6) = true := by rw [beq_iff_eq]; exact h
                have d1 : (m.kind == 6) = true := by rw [beq_iff_eq]; exact h'
                have e2 := ne_nil_of_pos h''
                have e3 : x.id.toList.isEmpty = false := by rw [List.isEmpty_eq_false_iff]; exact e2
                by_cases hid : x.id.toList = m.id.toList
                · have KK := Lib.hid (show matchB m x = true by unfold matchB; rw [decide_eq_true_eq]; exact ⟨h, h', h'', hid⟩)
                  have HG3 := Lib.hid (show lastF x (old.drop (q + 1)) (O.drop (q + 1)) (v0', v1') = lastF x old O (0, 0) by rw [← HG2.out, lastF, KK.out, if_pos rfl])
                  have d2 : (x.id.toList == m.id.toList) = true := by rw [beq_iff_eq]; exact hid
                  have RC6 := Lib.hid (RC5.out.set (b := (v0', v1')))
                  clear h h' h'' hid KK HG2 RC5
                  go_wp2
                  go_roundw
                  case rel => exact ⟨q + 1, (v0', v1'), by omega, by go_num, Lib.hid ⟨fun _ => HG3.out, fun hn => absurd HCN.out hn⟩, RC6⟩
                  case measure => simp [intOf]; omega
                · have KK := Lib.hid (show matchB m x = false by unfold matchB; simp [hid])
                  have d2 : (x.id.toList == m.id.toList) = false := by rw [beq_eq_false_iff_ne]; exact hid
                  clear h h' h'' hid
                  have HG3 := Lib.hid (show lastF x (old.drop (q + 1)) (O.drop (q + 1)) a = lastF x old O (0, 0) by rw [← HG2.out, lastF, KK.out, if_neg (by decide)])
                  clear KK HG2
                  go_wp2
                  go_roundw
                  case rel => exact ⟨q + 1, a, by omega, by go_num, Lib.hid ⟨fun _ => HG3.out, fun hn => absurd HCN.out hn⟩, RC5⟩
                  case measure => simp [intOf]; omega
          case false =>
              have hbf := HBB.out
              rw [eq_comm, decide_eq_false_iff_not] at hbf
              have HA := Lib.hid (show a = refF old O x by
                unfold refF
                rw [← HCE.out]
                by_cases hcond : ce = 0 ∧ O.length = old.length
                · have hqe : q = old.length := by omega
                  rw [if_pos hcond, ← HG.out.1 hcond, hqe, List.drop_length]
                  simp [lastF]
                · rw [if_neg hcond]; exact HG.out.2 hcond)
              clear HBB hbf HG hq
              obtain ⟨a0, a1⟩ := a
              have xa0 : wr.cell? ⟨xb, 0, none⟩ = some (.int .i64 a0) := blk_cell (cs := [.int .i64 a0, .int .i64 a1]) HRC.out.x0 rfl
              have xa1 : wr.cell? ⟨xb, 1, none⟩ = some (.int .i64 a1) := blk_cell (cs := [.int .i64 a0, .int .i64 a1]) HRC.out.x0 rfl
              have zx : xb < wr.heap.size := lt_of_block HRC.out.x0
              have hkm : k + 1 ≤ maxLen := by have := HLN.out.2; unfold maxLen; omega
              have OWA := Lib.hid (row_later (row_later HOW.out BR) (below_al (Below.refl _ _) (.cells #[.int .i64 a0, .int .i64 a1] 25)))
              have SRA := Lib.hid (src_new wr #[.int .i64 a0, .int .i64 a1] 25 1 2 rfl)
              have hs2 : w2.heap.size ≤ wr.heap.size := by have := BW.size; omega
              go_wp2_with (at_builtin; go_must (refine wpList_append_src _ rfl (.tmp 91) (.tmp 93) 48 rfl w2.heap.size 25 i0 _ 2 16 Try.underlying48 HI.out.1 HI.out.2.1 HI.out.2.2.1 HI.out.2.2.2 rfl (by decide) _ k _ rfl OWA.out (some ⟨wr.heap.size, 0, none⟩) 1 1 _ rfl SRA.out ?q1 hkm ?q2 ?q3 ?_))
              case q1 => first | exact ⟨rfl, rfl⟩ | (intro u hu; simp at hu; rcases hu with rfl | rfl <;> rfl)
              case q2 => have := HLN.out.2; omega
              case q3 => first | omega | (simp; omega)
              intro v' w' own' gr' pl'
              have HO' := Lib.hid (show w'.ownsRow w2.heap.size 25 2 v' (k + 1) (cellsO ((now.take (k + 1)).map (refF old O))) by
                have e : now.take (k + 1) = now.take k ++ [x] := by
                  rw [List.take_succ_eq_append_getElem hlt, ← HXE.out, List.getD_eq_getElem?_getD, List.getElem?_eq_getElem hlt]; rfl
                rw [e, List.map_append, cellsO_append, List.map_singleton, ← HA.out]
                first | exact own' | (rw [List.map_take]; exact own'))
              have hlo := fun g hg => (row_lt HOW.out g hg).2
              have B' : Below w2.heap.size w2 w' := Below.grown (below_al (below_via BR BW) _) gr' (by simp; omega) hlo
              clear own' gr' pl' OWA SRA HRC BR HOW hlo xa0 xa1
              go_wp2
              go_roundw
              case rel => exact ⟨k + 1, by omega, by go_num, HO', B'⟩
              case measure => simp [intOf]; omega
      · obtain rfl : k = now.length := by omega
        have hR : carryR old now O = now.map (refF old O) := by
          unfold carryR
          rw [if_pos (HCD.out.symm.trans h0), ref_carry]
        have HOWF := Lib.hid (show wr.ownsRow w.heap.size 25 2 u7 (carryR old now O).length (cellsO (carryR old now O)) by
          rw [hR, List.length_map]
          have := HOW.out
          rw [List.take_length] at this
          exact row_base this B2.size)
        clear hlt hk HOW hR
        go_wp2
        go_ret
        exact ⟨_, rfl, HOWF.out, BWW⟩
  · have hR : carryR old now O = [] := by
      unfold carryR
      rw [if_neg (fun h => h0 (HCD.out.trans h))]
    have HR := Lib.hid hR
    have k0 : (cd != 0) = true := by rw [bne_iff_ne]; exact h0
    clear hR
    go_enter Try.func26, Try.ntmps26
    go_wp2_with fail
    refine (ref_Check_any pn cn now _ (HN.out.later (by go_grown))).mono ?_
    rw [← HCD.out]
    generalize (checkT now).2 = c2 at *
    rintro e w1 ⟨rfl, hb1⟩
    have B1 : Below w.heap.size w w1 := below_via hb1 (by go_grown)
    clear hb1
    go_wp2
    go_ret
    exact ⟨_, rfl, by rw [HR.out]; exact ⟨rfl, .inl ⟨rfl, rfl⟩⟩, B1⟩
end Go.Proofs.Ytegdokchkblpiaa
