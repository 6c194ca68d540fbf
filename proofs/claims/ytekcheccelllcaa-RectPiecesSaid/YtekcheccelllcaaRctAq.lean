/- apart: the walk (under way). -/
import Derived.Test.YtekcheccelllcaaRctAm
import Derived.IntWalk
namespace Go.Proofs.Ytekcheccelllcaa
open Go.RowKit
set_option linter.unusedVariables false
set_option linter.unusedSimpArgs false

/-- list i has its first k marks -/
def Marked (X : List (List R4)) (i k : Nat) : Prop := ∀ t, t < k → (X.getD i []).getD t zR = ⟨(i : Int), (t : Int), -5, -6⟩

theorem infoSl : (Try.prog.info? 26).map (fun i => (i.zero, i.size, i.bytes)) = some (some (.slice none 0 0), 1, 24) := by kernel_rfl
theorem Inn.val {w wr : World} {base b off i q : Nat} {V Gs : List Value} {ln : Nat → Nat} {mv gv : Value} (h : Inn w wr base b off V ln i q Gs mv gv) : ∃ G, G = gv := ⟨_, rfl⟩
theorem Inn.mval {w wr : World} {base b off i q : Nat} {V Gs : List Value} {ln : Nat → Nat} {mv gv : Value} (h : Inn w wr base b off V ln i q Gs mv gv) : ∃ G, G = mv := ⟨_, rfl⟩
theorem Ap.mval {w wr : World} {base b off i : Nat} {V Gs : List Value} {ln : Nat → Nat} {mv : Value} (h : Ap w wr base b off V ln i Gs mv) : ∃ G, G = mv := ⟨_, rfl⟩
theorem below_of {a w w1 : World} {base : Nat} (h2 : Below base w w1) (h1 : Below base a w) : Below base a w1 := h1.trans h2
theorem Ap.drewN {w wr : World} {base b off i : Nat} {V Gs : List Value} {ln : Nat → Nat} {mv : Value} (h : Ap w wr base b off V ln i Gs mv) (n : Nat) : Ap w (wr.drewN n) base b off V ln i Gs mv :=
  ⟨⟨h.co.a, h.co.rd, h.co.own, h.co.gl, h.co.gs, h.co.gb, h.co.mo, ⟨h.co.be.os, h.co.be.tape, h.co.be.output, h.co.be.size, h.co.be.block⟩⟩, h.rdi, h.owi⟩
/-- what is read of list i -/
structure Looks (wr : World) (b off i l : Nat) (p : Option Addr) (c g2 c2 hm : Nat) : Prop where
  cv : wr.cell? ⟨b, off + i, none⟩ = some (.slice p l c)
  rd : ∀ k, k < l → ∃ g, p = some ⟨g, 0, none⟩ ∧ g < wr.heap.size ∧ wr.cell? ⟨g, k * 4, none⟩ = some (.int .i64 (i : Int)) ∧ wr.cell? ⟨g, k * 4 + 1, none⟩ = some (.int .i64 (k : Int)) ∧ wr.cell? ⟨g, k * 4 + 2, none⟩ = some (.int .i64 (-5)) ∧ wr.cell? ⟨g, k * 4 + 3, none⟩ = some (.int .i64 (-6))
  cm : wr.cell? ⟨hm, i, none⟩ = some (.slice (some ⟨g2, 0, none⟩) (l + 70) c2)
  gd : ∀ k, k < 70 → wr.cell? ⟨g2, (l + k) * 4, none⟩ = some (.int .i64 (-1 - (i : Int))) ∧ wr.cell? ⟨g2, (l + k) * 4 + 1, none⟩ = some (.int .i64 (k : Int)) ∧ wr.cell? ⟨g2, (l + k) * 4 + 2, none⟩ = some (.int .i64 (-7)) ∧ wr.cell? ⟨g2, (l + k) * 4 + 3, none⟩ = some (.int .i64 (-8))
theorem Looks.drewN {wr : World} {b off i l : Nat} {p : Option Addr} {c g2 c2 hm : Nat} (h : Looks wr b off i l p c g2 c2 hm) (n : Nat) : Looks (wr.drewN n) b off i l p c g2 c2 hm := ⟨h.cv, h.rd, h.cm, h.gd⟩
theorem Ap.look {w wr : World} {base b off n i : Nat} {V Gs : List Value} {ln : Nat → Nat} {mv : Value} (h : Ap w wr base b off V ln n Gs mv) (hV : V.length = n) (hi : i < n) :
    ∃ p c g2 c2 hm cm, mv = .slice (some ⟨hm, 0, none⟩) n cm ∧ n ≤ cm ∧ ln i ≤ c ∧ hm < wr.heap.size ∧ Looks wr b off i (ln i) p c g2 c2 hm ∧ Ap w wr base b off V ln n Gs mv := by
  obtain ⟨p, c, hv, hc, hs⟩ := h.co.rd i (by omega) (by omega)
  obtain ⟨p2, c2, hv2, hc2, hs2⟩ := RdV.of_own (h.co.gs i hi) (by simp [mkr, mk_len, tl_len])
  obtain ⟨g2, rfl, _, hr2⟩ := hs2 (by simp [tl_len])
  simp only [mkr, mk_len] at hv hc hs
  simp only [List.length_append, mkr, mk_len, tl_len] at hv2 hc2
  obtain ⟨hm, hmb⟩ := own_some h.co.mo (by omega)
  have hmo := h.co.mo.cells hmb
  obtain ⟨cm, hmv, hcm⟩ : ∃ cm, mv = .slice (some ⟨hm, 0, none⟩) n cm ∧ n ≤ cm := by
    rcases h.co.mo.2 with ⟨rfl, h0⟩ | ⟨g', cap, cur, rfl, _, _, hnc, _⟩
    · omega
    · have : g' = hm := by simpa [Value.ownBlock] using hmb
      subst this
      exact ⟨cap, rfl, hnc⟩
  refine ⟨p, c, g2, c2, hm, cm, hmv, hcm, hc, (own_lt h.co.mo hm hmb).1, ⟨?_, fun k hk => ?_, ?_, fun k hk => ?_⟩, h⟩
  · rw [h.co.a i (by omega), hv]
  · obtain ⟨g, rfl, hg, hr⟩ := hs (by omega)
    obtain ⟨r0, r1, r2, r3⟩ := hr k (by rw [mk_len]; exact hk)
    simp only [Nat.zero_add, mk_at i (ln i) k hk] at r0 r1 r2 r3
    exact ⟨g, rfl, hg, r0, r1, r2, r3⟩
  · have hG : Gs[i]? = some (Gs.getD i undef) := by
      rw [List.getD_eq_getElem?_getD, List.getElem?_eq_getElem (show i < Gs.length by rw [h.co.gl]; exact hi)]; rfl
    have := hmo i _ hG
    rw [addr_add] at this
    rw [this, hv2]
  · obtain ⟨r0, r1, r2, r3⟩ := hr2 (ln i + k) (by simp [mk_len, tl_len]; omega)
    have e : (mkr i (ln i) ++ tl i 70).getD (ln i + k) zR = ⟨-1 - (i : Int), (k : Int), -7, -8⟩ := by
      rw [List.getD_eq_getElem?_getD, List.getElem?_append_right (by simp [mkr, mk_len])]
      rw [show ln i + k - (mkr i (ln i)).length = k by simp [mkr, mk_len]]
      rw [← List.getD_eq_getElem?_getD]
      exact tl_at i 70 k hk
    simp only [Nat.zero_add, e] at r0 r1 r2 r3
    exact ⟨r0, r1, r2, r3⟩
/-- the lists have their marks: from here on they are gone on with -/
theorem ap_zero {w wm : World} {base b off n : Nat} {V : List Value} {X : List (List R4)} (hV : V.length = n) (hT : Told wm base b off V X) (hm : ∀ t, t < n → Marked X t (X.getD t []).length) (hb : Below base w wm) (hbase : base ≤ w.heap.size) :
    Sta wm base b V ∧ Ap wm wm base b off V (fun t => (X.getD t []).length) 0 [] (.slice none 0 0) := by
  have st : Sta wm base b V := ⟨hT.blk, fun t ht g hg => (own_lt (hT.own t ht) g hg).1, hT.dis, hT.out, Nat.le_trans hbase hb.size⟩
  have e : ∀ t, t < V.length → X.getD t [] = mkr t (X.getD t []).length := fun t ht => mk_full (hm t (by omega))
  have ow : ∀ t, t < V.length → wm.ownsRow base 23 4 (V.getD t undef) (X.getD t []).length (cellsR (mkr t (X.getD t []).length)) := fun t ht => by
    have h := hT.own t ht
    rw [← e t ht]
    exact h
  have rd : ∀ t, t < V.length → RdV wm (V.getD t undef) (mkr t (X.getD t []).length) := fun t ht => RdV.of_own (ow t ht) (by rw [mkr, mk_len])
  exact ⟨st, ⟨fun t ht => hT.at_ t ht, fun t ht _ => rd t ht, fun t _ ht => ow t ht, rfl, fun t ht => by omega, fun t ht => by omega, ⟨rfl, .inl ⟨rfl, rfl⟩⟩, Below.refl _ _⟩, fun h => rd 0 h, fun h => ow 0 h⟩

set_option maxRecDepth 100000 in
set_option maxHeartbeats 32000000 in
theorem apart_some (base b off n cap : Nat) (V : List Value) (X : List (List R4)) (w : World) (hV : V.length = n) (hT : Told w base b off V X) (hn : n ≤ 1099511627776) (hl : ∀ L ∈ X, L.length ≤ 1099511627776) (hbase : base ≤ w.heap.size) :
    Calls Try.prog 22 #[.slice (some ⟨b, off, none⟩) n cap] w fun e w' => e = .returned (.bool true) ∧ Below base w w' := by
  have HV := Lib.hid hV
  have HT := Lib.hid hT
  have HL := Lib.hid hl
  clear hV hT hl
  go_enter Try.func22, Try.ntmps22
  go_wp2
  go_loopw [3] (fun i wr => ∃ k : Nat, ∃ X' : List (List R4), k ≤ n ∧ i = .int .i64 k ∧ RowKit.Hid (Told wr base b off V X' ∧ X'.map List.length = X.map List.length ∧ ∀ t, t < k → Marked X' t (X'.getD t []).length) ∧ Below base w wr) (fun i _ => n - (intOf i).toNat)
  case atStart => exact ⟨0, X, Nat.zero_le _, rfl, Lib.hid ⟨HT.out, rfl, fun t ht => by omega⟩, Below.refl _ _⟩
  case round =>
    rename_i wr
    obtain ⟨k, X', hk, rfl, HS, BW⟩ := hrel
    by_cases hlt : k < n
    · have hbw : b < wr.heap.size := HS.out.1.blk
      have hlk : (X.getD k []).length ≤ 1099511627776 := by
        rw [List.getD_eq_getElem?_getD]
        cases h2 : X[k]? with
        | none => simp
        | some L => exact HL.out L (List.mem_of_getElem? h2)
      go_wp2
      go_loopw [4] (fun j wr2 => ∃ t : Nat, ∃ X2 : List (List R4), t ≤ (X.getD k []).length ∧ j = .int .i64 t ∧ RowKit.Hid (Told wr2 base b off V X2 ∧ X2.map List.length = X.map List.length ∧ (∀ s, s < k → Marked X2 s (X2.getD s []).length) ∧ Marked X2 k t) ∧ Below base w wr2) (fun j _ => (X.getD k []).length - (intOf j).toNat)
      case atStart => exact ⟨0, X', Nat.zero_le _, rfl, Lib.hid ⟨HS.out.1, HS.out.2.1, HS.out.2.2, fun s hs => by omega⟩, BW⟩
      case round =>
        rename_i wr2
        obtain ⟨t, X2, ht, rfl, HS2, BW2⟩ := hrel
        have cV := HS2.out.1.at_ k (by rw [HV.out]; exact hlt)
        have el : (X2.getD k []).length = (X.getD k []).length := by
          have h1 := congrArg (fun l => l.getD k 0) HS2.out.2.1
          simp only [List.getD_eq_getElem?_getD, List.getElem?_map] at h1 ⊢
          cases h2 : X2[k]? <;> cases h3 : X[k]? <;> simp_all
        obtain ⟨pk, ck, hvk, hck, slk, _, hgk⟩ := own_sl (HS2.out.1.own k (by rw [HV.out]; exact hlt)) rfl
        rw [el] at hvk hck hgk
        rw [hvk] at cV
        have SLK := Lib.hid slk
        clear slk
        by_cases htl : t < (X.getD k []).length
        · obtain ⟨g, rfl, hgb, hgw⟩ := hgk (by omega)
          have hfz := HS2.out.1.own k (by rw [HV.out]; exact hlt)
          rw [hvk, el] at hfz
          have f0 := hfz.frozenAt (t * 4); have f1 := hfz.frozenAt (t * 4 + 1); have f2 := hfz.frozenAt (t * 4 + 2); have f3 := hfz.frozenAt (t * 4 + 3)
          obtain ⟨b', off', hp', _, hr'⟩ := SLK.out (by omega)
          cases hp'
          obtain ⟨c0, c1, c2, c3⟩ := hr' t (by omega)
          simp only [Nat.zero_add] at c0 c1 c2 c3
          have HFZ := Lib.hid hfz
          clear hfz hr'
          go_wp2
          go_roundw
          case rel =>
            obtain ⟨x1, e1, ow, gr, sz⟩ := own_set4 HFZ.out t ⟨(k : Int), (t : Int), -5, -6⟩ (by omega)
            try rw [← e1]
            refine ⟨t + 1, X2.set k ((X2.getD k []).set t ⟨(k : Int), (t : Int), -5, -6⟩), by omega, by go_num, ?_, ?_⟩
            · have hkV : k < V.length := by rw [HV.out]; exact hlt
              have hX2 : k < X2.length := by rw [HS2.out.1.len]; exact hkV
              have hg2 : (V.getD k undef).ownBlock = some g := by rw [hvk]; rfl
              refine Lib.hid ⟨HS2.out.1.grown hkV hg2 gr (by rw [hvk, List.length_set, el]; exact ow), ?_, fun s hs => ?_, ?_⟩
              · rw [← HS2.out.2.1]
                apply List.ext_getElem?
                intro m
                simp only [List.getElem?_map, List.getElem?_set]
                by_cases hm : k = m
                · subst hm; simp [hX2, List.getD_eq_getElem?_getD]
                · simp [hm]
              · have e3 : (X2.set k ((X2.getD k []).set t ⟨(k : Int), (t : Int), -5, -6⟩)).getD s [] = X2.getD s [] := by simp [List.getD_eq_getElem?_getD, List.getElem?_set, show ¬ k = s by omega]
                unfold Marked; rw [e3]; exact HS2.out.2.2.1 s hs
              · have e3 : (X2.set k ((X2.getD k []).set t ⟨(k : Int), (t : Int), -5, -6⟩)).getD k [] = (X2.getD k []).set t ⟨(k : Int), (t : Int), -5, -6⟩ := by simp [List.getD_eq_getElem?_getD, hX2]
                unfold Marked; rw [e3]
                exact mk_step (by rw [el]; exact htl) HS2.out.2.2.2
            · exact Below.grown BW2 gr (by have := BW2.size; omega) (fun k hk => by cases hk; exact hgb)
          case measure => simp [intOf]; omega
        · have htt : t = (X.getD k []).length := by omega
          go_wp2
          go_roundw
          case rel => exact ⟨k + 1, X2, by omega, by go_num, Lib.hid ⟨HS2.out.1, HS2.out.2.1, fun s hs => by
            by_cases hsk : s < k
            · exact HS2.out.2.2.1 s hsk
            · have : s = k := by omega
              subst this; rw [el, ← htt]; exact HS2.out.2.2.2⟩, BW2⟩
          case measure => simp [intOf]; omega
    · have hkl : k = n := by omega
      subst hkl
      obtain ⟨st, ap⟩ := ap_zero HV.out HS.out.1 HS.out.2.2 BW hbase
      have eln : ∀ t, (X'.getD t []).length = (X.getD t []).length := fun t => by
        have h1 := congrArg (fun l => l.getD t 0) HS.out.2.1
        simp only [List.getD_eq_getElem?_getD, List.getElem?_map] at h1 ⊢
        cases h2 : X'[t]? <;> cases h3 : X[t]? <;> simp_all
      have hll : ∀ t, (X'.getD t []).length ≤ 1099511627776 := fun t => by
        rw [eln t, List.getD_eq_getElem?_getD]
        cases h2 : X[t]? with
        | none => simp
        | some L => exact HL.out L (List.mem_of_getElem? h2)
      obtain ⟨wm, rfl⟩ : ∃ wm : World, wm = wr := ⟨_, rfl⟩
      obtain ⟨ln, hln⟩ : ∃ ln : Nat → Nat, ln = fun t => (X'.getD t []).length := ⟨_, rfl⟩
      rw [← hln] at ap
      have HLL : RowKit.Hid (∀ t, ln t ≤ 1099511627776) := by rw [hln]; exact Lib.hid hll
      have ST := Lib.hid st
      have AP := Lib.hid ap
      clear st ap eln hll hln HS HT HL
      obtain ⟨i0, hi, hz0, hz1, hz2⟩ := info_parts infoRect
      obtain ⟨j0, hj, hy0, hy1, hy2⟩ := info_parts infoSl
      go_wp2
      go_loopw [5, 6, 7, 8] (fun mv i _ _ wr => ∃ t : Nat, ∃ Gs : List Value, t ≤ k ∧ i = .int .i64 t ∧ RowKit.Hid (Ap wm wr base b off V ln t Gs mv)) (fun _ i _ _ _ => k - (intOf i).toNat)
      case atStart => exact ⟨0, [], Nat.zero_le _, rfl, AP⟩
      case round =>
        clear AP
        obtain ⟨t, Gs, ht, rfl, AP⟩ := hrel
        by_cases hlt : t < k
        · have cV := AP.out.co.a t (by rw [HV.out]; exact hlt)
          have IN0 := Lib.hid (AP.out.start ST.out (by rw [HV.out]; exact hlt))
          clear AP
          have hVt : t < V.length := by rw [HV.out]; exact hlt
          have eV : V.getD t undef = V[t] := by simp [List.getD_eq_getElem?_getD, hVt]
          rw [eV] at IN0
          clear eV
          go_wp2
          go_loopw [7, 8] (fun gv q wr => ∃ q' : Nat, q' ≤ 70 ∧ q = .int .i64 q' ∧ RowKit.Hid (Inn wm wr base b off V ln t q' Gs _ gv)) (fun _ q _ => 70 - (intOf q).toNat)
          case atStart => exact ⟨0, by omega, rfl, IN0⟩
          case round =>
            clear IN0 cV
            obtain ⟨q', hq', rfl, HI⟩ := hrel
            obtain ⟨G, hG⟩ := HI.out.val
            subst hG
            obtain ⟨mv, hmv⟩ := HI.out.mval
            subst hmv
            have hlt_ := HLL.out t
            have hbs := HI.out.co.be.size
            have hbb := ST.out.bs
            by_cases hq : q' < 70
            · go_wp2_with (at_builtin; go_must (refine append_keep rfl (.tmp 50) (.tmp 55) 26 rfl base 23 i0 (.agg #[.int .i64 0, .int .i64 0, .int .i64 0, .int .i64 0]) 4 32 Try.underlying26 hi hz0 hz1 hz2 rfl (by decide) _ _ _ rfl ((HI.out.alloc ST.out _).go) ⟨wr.heap.size, 0, none⟩ 1 1 (cellsR [⟨-1 - (t : Int), (q' : Int), -7, -8⟩]) rfl rfl ?c1 ?c2 ?c3 ?c4 ?c5 ?_))
              case c1 =>
                intro j u hj
                simp [cellsR] at hj
                match j, hj with
                | 0, hj => simp at hj; subst hj; simp [Addr.add, go_sem]
                | 1, hj => simp at hj; subst hj; simp [Addr.add, go_sem]
                | 2, hj => simp at hj; subst hj; simp [Addr.add, go_sem]
                | 3, hj => simp at hj; subst hj; simp [Addr.add, go_sem]
              case c2 => exact cellsR_one _
              case c3 => unfold maxLen; omega
              case c4 => omega
              case c5 => simp; omega
              intro v2 w2 own2 gr2 loc2
              have IN2 := Lib.hid (Inn.app (HI.out.alloc ST.out _) ST.out hVt gr2 (by rw [tl_succ, ← List.append_assoc, cellsR_append]; exact own2) (loc2.imp id fun h => ⟨by rw [World.size_alloc]; exact h.1, h.2⟩))
              clear own2 gr2 loc2 HI hbs hlt_ hbb
              go_wp2
              go_roundw
              case rel => exact ⟨q' + 1, by omega, by go_num, IN2⟩
              case measure => simp [intOf]; omega
            · obtain rfl : q' = 70 := by omega
              obtain ⟨p5, c5, hv5, _⟩ := own_sl HI.out.go (by simp [mkr, mk_len, tl_len])
              subst hv5
              go_wp2_with (at_builtin; go_must (refine append_keep rfl (.tmp 57) (.tmp 59) 33 rfl wm.heap.size 26 j0 (.slice none 0 0) 1 24 Try.underlying33 hj hy0 hy1 hy2 rfl (by decide) _ _ _ rfl ((HI.out.alloc ST.out _).co.mo) ⟨wr.heap.size, 0, none⟩ 1 1 [.slice p5 (ln t + 70) c5] rfl rfl (cell_one_new _ _ _) ?d2 ?d3 ?d4 ?d5 ?_))
              case d2 =>
                intro u hu
                simp only [List.mem_singleton] at hu
                subst hu
                rfl
              case d3 => unfold maxLen; omega
              case d4 => omega
              case d5 => simp; omega
              intro m2 w2 own2 gr2 _
              have AP2 := Lib.hid (Inn.done (HI.out.alloc ST.out _) ST.out hVt gr2 own2)
              clear own2 gr2 HI hbs hlt_ hbb
              go_wp2
              go_roundw
              case rel => exact ⟨t + 1, _, by omega, by go_num, AP2⟩
              case measure => simp [intOf]; omega
        · have htk : t = k := by omega
          subst htk
          obtain ⟨mv, hmv⟩ := AP.out.mval
          subst hmv
          go_wp2
          go_loopw [9, 10, 11] (fun i _ _ wr => ∃ i' : Nat, i' ≤ t ∧ i = .int .i64 i' ∧ RowKit.Hid (Ap wm wr base b off V ln t Gs mv)) (fun i _ _ _ => t - (intOf i).toNat)
          case atStart => exact ⟨0, Nat.zero_le _, rfl, AP⟩
          case round =>
            clear AP hlt ht
            obtain ⟨i', hi', rfl, AP⟩ := hrel
            by_cases hlt : i' < t
            · have hl1 := HLL.out i'
              obtain ⟨p, c, g2, c2, hm, cm, rfl, hnm, hcc, hmw, LK⟩ := AP.out.look HV.out hlt
              have HLK := Lib.hid LK
              clear LK AP
              go_wp2
              go_loopw [10] (fun i wr => ∃ k' : Nat, k' ≤ ln i' ∧ i = .int .i64 k' ∧ RowKit.Hid (Looks wr b off i' (ln i') p c g2 c2 hm ∧ Ap wm wr base b off V ln t Gs (.slice (some ⟨hm, 0, none⟩) t cm))) (fun i _ => ln i' - (intOf i).toNat)
              case atStart => exact ⟨0, Nat.zero_le _, rfl, HLK⟩
              case round =>
                clear HLK
                obtain ⟨k', hk', rfl, HLK⟩ := hrel
                have cV := HLK.out.1.cv
                by_cases hk2 : k' < ln i'
                · obtain ⟨g, rfl, _, d0, d1, d2, d3⟩ := HLK.out.1.rd k' hk2
                  go_wp2
                  go_roundw
                  case rel => exact ⟨k' + 1, by omega, by go_num, HLK⟩
                  case measure => simp [intOf]; omega
                · go_wp2
                  go_loopw [11] (fun i wr => ∃ k' : Nat, k' ≤ 70 ∧ i = .int .i64 k' ∧ RowKit.Hid (Looks wr b off i' (ln i') p c g2 c2 hm ∧ Ap wm wr base b off V ln t Gs (.slice (some ⟨hm, 0, none⟩) t cm))) (fun i _ => 70 - (intOf i).toNat)
                  case atStart => exact ⟨0, Nat.zero_le _, rfl, HLK⟩
                  case round =>
                    clear HLK cV hk2 hk'
                    obtain ⟨q', hq', rfl, HLK⟩ := hrel
                    by_cases hq : q' < 70
                    · have cV := HLK.out.1.cv
                      have cM := HLK.out.1.cm
                      obtain ⟨d0, d1, d2, d3⟩ := HLK.out.1.gd q' hq
                      have q1 : IntKind.i64.wrap ((ln i' : Int) + q') = ln i' + q' := IntWalk.i64_in _ (by omega)
                      have q2 : ((ln i' : Int) + q').toNat = ln i' + q' := by omega
                      have q3 : 0 ≤ (ln i' : Int) + q' := by omega
                      have q4 : (ln i' : Int) + q' < ((ln i' + 70 : Nat) : Int) := by omega
                      have q5 : IntKind.i64.wrap (-1 - (i' : Int)) = -1 - i' := IntWalk.i64_in _ (by omega)
                      go_wp2
                      go_quiet (fail)
                      clear q1 q2 q3 q4 q5
                      go_wp2
                      go_roundw
                      case rel => exact ⟨q' + 1, by omega, by go_num, Lib.hid ⟨HLK.out.1.drewN _, HLK.out.2.drewN _⟩⟩
                      case measure => simp [intOf]; omega
                    · go_wp2
                      go_roundw
                      case rel => exact ⟨i' + 1, by omega, by go_num, Lib.hid HLK.out.2⟩
                      case measure => simp [intOf]; omega
            · go_wp2
              go_ret
              exact ⟨rfl, below_of AP.out.co.be BW⟩
end Go.Proofs.Ytekcheccelllcaa
