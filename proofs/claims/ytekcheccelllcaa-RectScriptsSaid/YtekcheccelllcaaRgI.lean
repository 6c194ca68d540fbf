/- Layer 07: a call that changes a region: the loop over the bounds, part B. -/
import Derived.Test.YtekcheccelllcaaRgH
namespace Go.Proofs.Ytekcheccelllcaa
open Go.RowKit
set_option linter.unusedVariables false
set_option linter.unusedSimpArgs false


theorem bnsV_set (o : List BV) (E : BV) (z2 : Int) : (bnsV (o ++ [E])).set (o.length * 3 + 1) (.int .i64 z2) = bnsV (o ++ [(⟨E.1.y0, z2, E.1.es⟩, E.2)]) := by
  rw [bnsV_app, bnsV_app, List.set_append, bnsV_len, if_neg (by omega)]
  congr 1
  rw [show o.length * 3 + 1 - o.length * 3 = 1 by omega]
  rfl
theorem bdsOf_app (o m : List BV) : bdsOf (o ++ m) = bdsOf o ++ bdsOf m := by simp [bdsOf]
/-- the last band is made taller -/
theorem Bnds.ext {base : Nat} {w : World} {g n c : Nat} {o : List BV} {E : BV} (h : Bnds base w (.slice (some ⟨g, 0, none⟩) n c) (o ++ [E])) (hn : n = (o ++ [E]).length) (z2 : Int) : Bnds base (w.setCell ⟨g, o.length * 3 + 1, none⟩ (.int .i64 z2)) (.slice (some ⟨g, 0, none⟩) n c) (o ++ [(⟨E.1.y0, z2, E.1.es⟩, E.2)]) := by
  have hk : ∀ e ∈ o ++ [E], (w.setCell ⟨g, o.length * 3 + 1, none⟩ (.int .i64 z2)).ownsRow base 3 1 e.2 e.1.es.length (vI e.1.es) := fun e he => row_keepB (h.en e he) fun q hq => heap_setCell_other _ _ _ _ (fun e2 => by
    rcases row_ne (h.en e he) h.row (by decide) with h3 | h3
    · rw [h3] at hq; cases hq
    · exact h3 (hq.trans (by rw [show q = g from e2]; rfl)))
  refine ⟨?_, fun e he => ?_⟩
  · have h1 := h.row
    rw [← hn] at h1
    have := (h1.stored (o.length * 3 + 1) (.int .i64 z2)).1
    rw [bnsV_set] at this
    have e1 : (o ++ [(⟨E.1.y0, z2, E.1.es⟩, E.2)] : List BV).length = n := by rw [hn]; simp
    rw [e1]
    exact this
  · rcases List.mem_append.1 he with he | he
    · exact hk e (List.mem_append.2 (.inl he))
    · rw [List.mem_singleton] at he
      subst he
      exact hk E (by simp)
/-- one more band -/
theorem Bnds.app {base : Nat} {w w6 : World} {v v6 : Value} {out : List BV} (h : Bnds base w v out) {z z2 : Int} {now : List Int} {nv : Value} (hr : w.ownsRow base 3 1 nv now.length (vI now)) (gr : w.grownBy w6 v.ownBlock)
    (own : w6.ownsRow base 86 3 v6 (out.length + 1) (bnsV out ++ [.int .i64 z, .int .i64 z2, nv])) : Bnds base w6 v6 (out ++ [(⟨z, z2, now⟩, nv)]) := by
  refine ⟨by rw [bnsV_app, List.length_append]; exact own, fun e he => ?_⟩
  rcases List.mem_append.1 he with he | he
  · exact (h.en e he).kept gr (row_ne (h.en e he) h.row (by decide))
  · rw [List.mem_singleton] at he
    subst he
    exact hr.kept gr (row_ne hr h.row (by decide))
theorem pushB_skip (out : List Bd) (y0 y1 : Int) : pushB out y0 y1 [] = out := by rw [pushB, if_pos rfl]
theorem pushB_first (y0 y1 : Int) (now : List Int) (h : now ≠ []) : pushB [] y0 y1 now = [⟨y0, y1, now⟩] := by rw [pushB, if_neg h]; rfl
theorem pushB_last (o : List Bd) (b : Bd) (y0 y1 : Int) (now : List Int) (h : now ≠ []) : pushB (o ++ [b]) y0 y1 now = if b.y1 = y0 ∧ b.es = now then o ++ [⟨b.y0, y1, b.es⟩] else o ++ [b] ++ [⟨y0, y1, now⟩] := by
  rw [pushB, if_neg h, List.getLast?_append, List.getLast?_singleton]
  simp
theorem cntB_one (b : Bd) : cntB [b] = b.es.length / 2 := by simp [cntB]
theorem out_cases (out : List BV) : out = [] ∨ ∃ o E, out = o ++ [E] := by
  rcases List.eq_nil_or_concat out with h | ⟨o, E, h⟩
  · exact .inl h
  · exact .inr ⟨o, E, by simpa using h⟩
/-- the new bands are the region's -/
theorem reg_done {base : Nat} {w w5 wr : World} {g : Nat} {v ov : Value} {l out : List BV} (hR : RegAt base w g v l) (hb : Below w.heap.size w w5) (be : Below w5.heap.size w5 wr) (bn : Bnds w5.heap.size wr ov out) : RegAt base (wr.setCell ⟨g, 0, none⟩ ov) g ov out ∧ Chg w (wr.setCell ⟨g, 0, none⟩ ov) (fun k => k = g) ∧ ∀ k, SG g ov out k → SG g v l k ∨ w.heap.size ≤ k := by
  have hbr := below_via be hb
  have hRr := hR.later hbr
  have hz := hb.size
  have hlt := lt_of_block hR.pr
  have hbg := hR.bg
  have far : ∀ {t : TypeId} {k n : Nat} {u : Value} {xs : List Value}, wr.ownsRow w5.heap.size t k u n xs → (wr.setCell ⟨g, 0, none⟩ ov).ownsRow base t k u n xs := fun hr => row_baseG (row_keepB hr fun q hq => heap_setCell_other _ _ _ _ (fun e => by have := (row_lt hr q hq).2; have e : q = g := e; omega)) (by omega)
  refine ⟨⟨set_blk hRr.pr 0 ov, ⟨far bn.row, fun e he => far (bn.en e he)⟩, hbg⟩, (Chg.of_below hbr _).trans (Chg.of_grown (only_setCell (only_refl wr (some g)) (p := ⟨g, 0, none⟩) (.inl rfl) ov) (S := fun k => k = g) (fun k hk => .inl (by injection hk with hk; exact hk.symm))) (fun k hk => .inl hk), ?_⟩
  rintro k (rfl | hk | ⟨e, he, hk⟩)
  · exact .inl (.inl rfl)
  · exact .inr (by have := (row_lt bn.row k hk).2; omega)
  · exact .inr (by have := (row_lt (bn.en e he) k hk).2; omega)
theorem getD_last (o : List BV) (E : BV) : (o ++ [E]).getD o.length zBV = E := by simp [List.getD_eq_getElem?_getD]
set_option maxRecDepth 100000 in
set_option maxHeartbeats 32000000 in
def change_B (base : Nat) (w : World) (g : Nat) (pv : Option Addr) (n cv : Nat) (l : List BV) (op : Bool → Bool → Bool) (h0 : op false false = false) (K : FuncId) (HK : RowKit.Hid (Stays op K)) (HR : RowKit.Hid (RegAt base w g (.slice pv n cv) l)) (HN : RowKit.Hid (n = l.length)) (HOK : RowKit.Hid (RegOk (bdsOf l))) (r : R4) (HRR : RowKit.Hid (isR r)) : {P : Prop // RowKit.Hid P → (change_A base w g pv n cv l op h0 K HK HR HN HOK r HRR).1} := ⟨_, fun hP => by
  unfold change_A
  set_option tactic.hygienic false in intro
  set_option tactic.hygienic false in intros
  go_wp2
  go_loopw [12, 13, 14, 15] (fun ov cv' av iv wr => ∃ (i cnt at' : Nat) (out : List BV), iv = .int .i64 i ∧ cv' = .int .i64 cnt ∧ av = .int .i64 at' ∧ i ≤ ys.length ∧ at' ≤ n ∧ (∀ q, q < at' → ((bdsOf l).getD q zB).y1 ≤ ys.getD i 0) ∧ RowKit.Hid (MainI w5 wr F ys ov out i cnt)) (fun _ _ _ iv _ => ys.length - (intOf iv).toNat)
  case atStart => exact ⟨0, 0, 0, [], rfl, rfl, rfl, by omega, by omega, fun q hq => absurd hq (Nat.not_lt_zero q), HMI⟩
  case round =>
    clear HMI
    obtain ⟨i, cnt, a0, out, rfl, rfl, rfl, hi, ha0, hlo, HM⟩ := hrel
    by_cases hlt : i + 1 < ys.length
    · have hii : (i : Int) + 1 < (ys.length : Int) := by omega
      (repeat (rename_i zzB; revert zzB))
      revert i0 HI j0 HJ hnl HC b HBX HBI HPOST HBR kb HKB w1 wc u20 u21 u22 u23 u24 u25 u26 u27 u28 u29 u30 u31 u32 u33 u34 u35 u36 u37 u52 u53 u54 u55 u204 u205 u206 u207 u208 u209 w2 HB2 gx HX2 w3 u9 u11 u41 u42 u43 u44 u45 u46 u47 u48 u49 u50 u51 w4 w5 ys py cy hyc HYR HB5 HYU hyl HYI F HFE HMK HC5 HX5 HR5 hh hh_1 hh_2 hh_3 hh_4 hh_5 hh_6 hh_7 hh_8 hh_9 hh_10 hh_11 hh_12 hh_14 wr u12 u16 u17 u18 u19 u56 u57 u58 u59 u60 u61 u62 u63 u64 u65 u66 u67 u68 u69 u70 u71 u72 u73 u74 u75 u76 u77 u78 u79 u80 u81 u82 u83 u84 u85 u86 u87 u88 u89 u90 u91 u92 u93 u94 u95 u96 u97 u98 u99 u100 u101 u102 u103 u104 u105 u106 u107 u108 u109 u110 u111 u112 u113 u114 u115 u116 u117 u118 u119 u120 u121 u122 u123 u124 u125 u126 u127 u128 u129 u130 u131 u132 u133 u134 u135 u136 u137 u138 u139 u140 u141 u142 u143 u144 u145 u146 u147 u148 u149 u150 u151 u152 u153 u154 u155 u156 u157 u158 u159 u160 u161 u162 u163 u164 u165 u166 u167 u168 u169 u170 u171 u172 u173 u174 u175 u176 u177 u178 u179 u180 u181 u182 u183 u184 u185 u186 u187 u188 u189 u190 u191 u192 u193 u194 u195 u196 u197 u198 u199 u200 u201 u202 u203 i cnt a0 out hi ha0 hlo HM hlt hii
      exact hP.out
    · skip
      clear hP
      have hii : ¬ (i : Int) + 1 < (ys.length : Int) := by omega
      have HFIN := Lib.hid (show bdsOf out = chgB op (bdsOf l) b from by rw [← HMK.out, ← HM.out.eq, goB_end F _ (by omega)])
      have HCN := Lib.hid (show cnt = cntB (chgB op (bdsOf l) b) from by rw [← HFIN.out]; exact HM.out.cn)
      have HBW := Lib.hid (below_via HB5.out HB2.out)
      have HBR2 := Lib.hid (below_via HM.out.be HBW.out)
      obtain ⟨po, co, rfl⟩ := row_slice HM.out.bn.row
      obtain ⟨zg, cg⟩ := HC5.out wr HM.out.be
      by_cases hf : 1024 < cnt
      · have hfi : (1024 : Int) < (cnt : Int) := by omega
        have HP2 := Lib.hid (HPOST.out (.returned (.int .i64 4)) wr ⟨by rw [if_pos (by rw [← HCN.out]; exact hf)], _, l, HR.out.later HBR2.out, by rw [if_pos (by rw [← HCN.out]; exact hf)], Chg.of_below HBR2.out _, fun k hk => .inl hk⟩)
        clear hlo hf
        go_wp2
        go_ret
        exact HP2.out
      · have hfi : ¬ (1024 : Int) < (cnt : Int) := by omega
        have fz : wr.frozen? ⟨g, 0, none⟩ = false := frozen_of_row _ _ _ _ _ (HR.out.later HBR2.out).pr
        have HDN := Lib.hid (reg_done HR.out HBW.out HM.out.be HM.out.bn)
        have HP2 := Lib.hid (HPOST.out (.returned (.int .i64 0)) (wr.setCell ⟨g, 0, none⟩ (.slice po out.length co)) ⟨by rw [if_neg (by rw [← HCN.out]; exact hf)], _, out, HDN.out.1, by rw [if_neg (by rw [← HCN.out]; exact hf)]; exact HFIN.out, HDN.out.2.1, HDN.out.2.2⟩)
        clear hlo hf
        go_wp2
        go_ret
        exact HP2.out⟩
end Go.Proofs.Ytekcheccelllcaa
