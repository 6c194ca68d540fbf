/- Focus: contract of Send, whatever the takers do. -/
import Derived.Test.YtihjefncjkdnpaaRoB
namespace Go.Proofs.Ytihjefncjkdnpaa
open Go.RowKit Go.Deep
set_option linter.unusedVariables false
set_option linter.unusedSimpArgs false

/-- the nodes from n up to the root -/
def wayP (P : List Int) : Nat → Int → List Int
  | 0, _ => []
  | f + 1, n => if n < 0 then [] else n :: wayP P f (P.getD n.toNat 0)
theorem wayP_len (P : List Int) : ∀ f n, (wayP P f n).length ≤ f
  | 0, _ => Nat.le_refl _
  | f + 1, n => by
    rw [wayP]
    split
    · simp
    · have := wayP_len P f (P.getD n.toNat 0)
      rw [List.length_cons]
      omega
theorem wayP_neg (P : List Int) (f : Nat) {n : Int} (h : n < 0) : wayP P f n = [] := by
  cases f with
  | zero => rfl
  | succ f => rw [wayP, if_pos h]
def UpOk (P : List Int) : Prop := ∀ i : Nat, i < P.length → -1 ≤ P.getD i 0 ∧ P.getD i 0 < (i : Int)
theorem wayP_in {P : List Int} (hP : UpOk P) : ∀ f n, n < (P.length : Int) → ∀ k ∈ wayP P f n, 0 ≤ k ∧ k < (P.length : Int)
  | 0, _, _, k, hk => by cases hk
  | f + 1, n, hn, k, hk => by
    rw [wayP] at hk
    by_cases h : n < 0
    · rw [if_pos h] at hk; cases hk
    · rw [if_neg h] at hk
      rcases List.mem_cons.1 hk with rfl | hk
      · omega
      · have := hP n.toNat (by omega)
        exact wayP_in hP f _ (by omega) k hk
section
variable {γ : Type} (step : γ → Value → γ × Bool) (Ok : γ → Value → Prop) (ts : Int → List Value)
/-- takers are called till one says yes -/
def callL : γ → List Value → γ × Bool
  | g, [] => (g, false)
  | g, tk :: l => if (step g tk).2 = true then ((step g tk).1, true) else callL (step g tk).1 l
def okL : γ → List Value → Prop
  | _, [] => True
  | g, tk :: l => Ok g tk ∧ ((step g tk).2 = false → okL (step g tk).1 l)
def sendS : γ → List Int → γ × Int
  | g, [] => (g, -1)
  | g, k :: l => if (callL step g (ts k)).2 = true then ((callL step g (ts k)).1, k) else sendS (callL step g (ts k)).1 l
def okS : γ → List Int → Prop
  | _, [] => True
  | g, k :: l => okL step Ok g (ts k) ∧ ((callL step g (ts k)).2 = false → okS (callL step g (ts k)).1 l)
end
theorem drop_at {α : Type} {l : List α} {i : Nat} (h : i < l.length) : l.drop i = l[i] :: l.drop (i + 1) := List.drop_eq_getElem_cons h
theorem getD_at {α : Type} {l : List α} {i : Nat} (z : α) (h : i < l.length) : l.getD i z = l[i] := by rw [List.getD_eq_getElem?_getD, List.getElem?_eq_getElem h]; rfl
/-- an own row of single cells, cell by cell -/
theorem row_vals {w : World} {base : Nat} {t : TypeId} {n : Nat} {v : Value} {xs : List Value} (h : w.ownsRow base t 1 v n xs) : ∃ p c, v = .slice p n c ∧ n ≤ c ∧ c ≤ 9223372036854775807 ∧ xs.length = n ∧ (0 < n → ∃ b, p = some ⟨b, 0, none⟩ ∧ b < w.heap.size ∧ base ≤ b ∧ ∀ i, i < n → w.cell? ⟨b, i, none⟩ = xs[i]?) := by
  have hl : xs.length = n := by have := h.1; omega
  rcases row_form h with ⟨rfl, rfl, rfl⟩ | ⟨g, c, rfl, h1, h2, h3, h4⟩
  · exact ⟨none, 0, rfl, Nat.le_refl _, by omega, rfl, fun h => by cases h⟩
  · refine ⟨_, _, rfl, h1, by unfold maxLen at h2; omega, hl, fun _ => ⟨g, rfl, h3, h4, fun i hi => ?_⟩⟩
    have := row_cells h i xs[i] (List.getElem?_eq_getElem (by omega))
    rw [Nat.zero_add] at this
    rw [this, List.getElem?_eq_getElem (by omega)]
theorem DPost.call {γ : Type} {Inv : γ → (Nat → Prop) → World → Prop} {g g' : γ} {O : Nat → Prop} {W W1 W' : World} (h : DPost Inv g O W W1) (hc : ∀ O1, Inv g O1 W1 → (∀ b, O1 b → O b ∨ W.heap.size ≤ b) → DPost Inv g' O1 W1 W') : DPost Inv g' O W W' := by
  obtain ⟨O1, h1, h2, h3, h4⟩ := h
  exact (hc O1 h1 h4).trans h2 h3 h4
/-- what is asked of the takers -/
structure Crowd {γ : Type} (Inv : γ → (Nat → Prop) → World → Prop) (step : γ → Value → γ × Bool) (Ok : γ → Value → Prop) (w0 : World) (ev : Value) : Prop where
  be : ∀ {g O W}, Inv g O W → Below w0.heap.size w0 W
  later : ∀ {g O W W'}, Inv g O W → Below W.heap.size W W' → Inv g O W'
  own : ∀ {g O W}, Inv g O W → ∀ b, O b → b < W.heap.size
  call : ∀ {g O W} (tk : Value), Ok g tk → Inv g O W → ∃ K cap, tk = .func (.func K) #[] cap ∧ (∀ (args : Array Value) (w : World), (callFunc K args).run Try.prog w = .ok (.enter K args) w) ∧ Calls Try.prog K (#[ev] ++ cap) W fun e W' => e = .returned (.bool (step g tk).2) ∧ DPost Inv (step g tk).1 O W W'
theorem DPost.refl {γ : Type} {Inv : γ → (Nat → Prop) → World → Prop} {g : γ} {O : Nat → Prop} {W : World} (h : Inv g O W) : DPost Inv g O W W := ⟨O, h, Nat.le_refl _, fun _ _ _ => rfl, fun b hb => .inl hb⟩
def evV (k c m x y : Int) (s : ByteArray) : Value := .agg #[.int .i8 k, .int .i32 c, .int .u8 m, .int .i64 x, .int .i64 y, .string s]
def RetS {γ : Type} (Inv : γ → (Nat → Prop) → World → Prop) (r : γ × Int) (O : Nat → Prop) (W : World) (e : Ending) (W' : World) : Prop := e = .returned (.tuple #[.int .i64 r.2, .int .i64 0]) ∧ DPost Inv r.1 O W W'
theorem infoFuns_ : (Try.prog.info? 105).map (fun i => (i.zero, i.size, i.bytes)) = some (some (.slice none 0 0), 1, 24) := by kernel_rfl
theorem infoIntR_ : (Try.prog.info? 3).map (fun i => (i.zero, i.size, i.bytes)) = some (some (.int .i64 0), 1, 8) := by kernel_rfl
set_option maxRecDepth 100000 in
set_option maxHeartbeats 16000000 in
theorem Send_any {γ : Type} {Inv : γ → (Nat → Prop) → World → Prop} {step : γ → Value → γ × Bool} {Ok : γ → Value → Prop} {w0 : World} (k c md x y : Int) (s : ByteArray) (V : Crowd Inv step Ok w0 (evV k c md x y s)) (rb mb : Nat) (pv : Value) (P : List Int) (m : Nat) (f : Int → Sl) (ts : Int → List Value) (many : Nat) (n : Nat) (W : World) (h : RouterAt w0 W rb mb pv P m f ts many) (hn : n < P.length) (hP : P.length ≤ 4096) (hU : UpOk P) (hm : many ≤ 4096) (hf : ∀ k, ∀ t ∈ ts k, t.oneCell' = true) (g : γ) (O : Nat → Prop) (hI : Inv g O W) (hok : okS step Ok ts g (wayP P P.length n)) :
    Calls Try.prog 45 #[.pointer (some ⟨rb, 0, none⟩), .int .i64 n, evV k c md x y s] W (RetS Inv (sendS step ts g (wayP P P.length n)) O W) := by
  obtain ⟨i0, hi, hz0, hz1, hz2⟩ := info_parts infoIntR_
  have HI := Lib.hid (And.intro hi (And.intro hz0 (And.intro hz1 hz2)))
  clear hi hz0 hz1 hz2
  obtain ⟨i1, hi, hz0, hz1, hz2⟩ := info_parts infoFuns_
  have HJ := Lib.hid (And.intro hi (And.intro hz0 (And.intro hz1 hz2)))
  clear hi hz0 hz1 hz2
  have hent : ∀ (args : Array Value) (w : World), (callFunc 50 args).run Try.prog w = .ok (.enter 50 args) w := fun _ _ => rfl
  have c0 : W.cell? ⟨rb, 0, none⟩ = some (.int .i64 P.length) := by rw [cell_of_row _ _ _ _ _ _ h.ro]; rfl
  have zb := lt_of_block h.ro
  have hni : (n : Int) < (P.length : Int) := by omega
  have HPOST := Lib.hid (fun (r : γ × Int) (W' : World) (e : sendS step ts g (wayP P P.length n) = r) (hd : DPost Inv r.1 O W W') => show RetS Inv (sendS step ts g (wayP P P.length n)) O W (.returned (.tuple #[.int .i64 r.2, .int .i64 0])) W' by rw [e]; exact ⟨rfl, hd⟩)
  have HR := Lib.hid h
  have HV := Lib.hid V
  have HU := Lib.hid hU
  have HF := Lib.hid hf
  have HIN := Lib.hid hI
  have HOK := Lib.hid hok
  clear h V hU hf hI hok
  generalize RetS Inv (sendS step ts g (wayP P P.length n)) O W = post at *
  have d1 : decide (P.length ≤ n) = false := by first | (simp; done) | (simp; omega)
  have d2 : decide ((n : Int) < 0) = false := by first | (simp; done) | (simp; omega)
  unfold evV
  go_enter Try.func45, Try.ntmps45
  obtain ⟨W1, hW1⟩ : ∃ W1, W1 = W.alloc (.cells #[.int .i8 k, .int .i32 c, .int .u8 md, .int .i64 x, .int .i64 y, .string s] 62) := ⟨_, rfl⟩
  have BW1 : Below W.heap.size W W1 := by rw [hW1]; exact below_al (Below.refl _ _) _
  have EV1 := heap_alloc_new W (.cells #[.int .i8 k, .int .i32 c, .int .u8 md, .int .i64 x, .int .i64 y, .string s] 62)
  have z1 : W1.heap.size = W.heap.size + 1 := by rw [hW1]; simp
  rw [← hW1] at EV1
  have HEV := Lib.hid EV1
  have HZ1 := Lib.hid z1
  have HB1 := Lib.hid BW1
  have HW1 := Lib.hid hW1
  clear hW1 EV1 z1 BW1
  go_wp2
  rw [← HW1.out]
  clear HW1 c0
  go_loopw [1, 8, 9] (fun nv wv av wr => ∃ (q : Int) (fu : Nat) (done : List Int) (cl : List Sl), nv = .int .i64 q ∧ -1 ≤ q ∧ q < (P.length : Int) ∧ q < (fu : Int) ∧ done.length + fu ≤ P.length ∧ cl.length = done.length ∧ RowKit.Hid (done ++ wayP P fu q = wayP P P.length n) ∧ RowKit.Hid (wr.ownsRow W1.heap.size 3 1 wv done.length (done.map (Value.int .i64))) ∧ RowKit.Hid (wr.ownsRow W1.heap.size 105 1 av done.length (cl.map slV)) ∧ RowKit.Hid (∀ i, i < done.length → wr.ownsRow W1.heap.size 91 1 (slV (cl.getD i none)) (ts (done.getD i 0)).length (ts (done.getD i 0))) ∧ Below W1.heap.size W1 wr) (fun nv _ _ _ => (intOf nv + 1).toNat)
  case atStart => exact ⟨n, P.length, [], [], rfl, by omega, by omega, by omega, by simp, rfl, Lib.hid rfl, Lib.hid ⟨rfl, .inl ⟨rfl, rfl⟩⟩, Lib.hid ⟨rfl, .inl ⟨rfl, rfl⟩⟩, Lib.hid (fun i hi => by simp at hi), Below.refl _ _⟩
  case round =>
    obtain ⟨q, fu, done, cl, rfl, hq0, hqN, hqf, hdf, hcl, HWY, HWO, HAO, HCO, BR⟩ := hrel
    obtain ⟨wo, rfl⟩ : ∃ wo : World, wo = wr := ⟨_, rfl⟩
    have zr := BR.size
    by_cases hq : q < 0
    · have hnil := wayP_neg P fu hq
      obtain rfl : done = wayP P P.length n := by rw [← HWY.out, hnil, List.append_nil]
      have HOK1 := Lib.hid HOK.out
      obtain ⟨WL, hWL⟩ : ∃ WL, WL = wayP P P.length n := ⟨_, rfl⟩
      have HIW := Lib.hid (show ∀ kk ∈ WL, 0 ≤ kk ∧ kk < (P.length : Int) by rw [hWL]; exact wayP_in HU.out _ _ (by omega))
      rw [← hWL] at HOK1 HWO HAO HCO HPOST hcl hdf
      have hwl : WL.length ≤ 4096 := by omega
      have BWO := below_via BR HB1.out
      -- what lies in the new blocks
      obtain ⟨pw, cw, rfl, hcw, hcw2, _, hwc⟩ := row_vals HWO.out
      obtain ⟨pa, ca, rfl, hca, hca2, _, hac⟩ := row_vals HAO.out
      have HWC := Lib.hid hwc
      have HAC := Lib.hid hac
      have hz1 := HB1.out.size
      have zW : W.heap.size ≤ wo.heap.size := BWO.size
      have HID := Lib.hid (DPost.refl (HV.out.later HIN.out BWO))
      have HOO := Lib.hid (HV.out.own HIN.out)
      have HEV2 := Lib.hid ((BR.block _ (lt_of_block HEV.out)).trans HEV.out)
      have zE := lt_of_block HEV2.out
      have HFRM := Lib.hid (fun (wr : World) (g1 : γ) (hd : DPost Inv g1 O wo wr) (b : Nat) (h1 : W.heap.size ≤ b) (h2 : b < wo.heap.size) => show wr.heap[b]? = wo.heap[b]? by
        obtain ⟨O1, _, _, hf, _⟩ := hd
        exact hf b h2 (fun e => by have := HOO.out b e; omega))
      have HPO := Lib.hid (fun (r : γ × Int) (W' : World) (e : sendS step ts g WL = r) (hd : DPost Inv r.1 O wo W') => HPOST.out r W' e (hd.from BWO))
      clear hnil HWY HWO HOK HIN hqf hqN hq0 hdf hWL hwc hac HPOST
      go_wp2
      go_loopw [50] (fun iv wr => ∃ (i : Nat) (g1 : γ), iv = .int .i64 i ∧ i ≤ WL.length ∧ RowKit.Hid (sendS step ts g WL = sendS step ts g1 (WL.drop i)) ∧ RowKit.Hid (okS step Ok ts g1 (WL.drop i)) ∧ RowKit.Hid (DPost Inv g1 O wo wr)) (fun iv _ => WL.length - (intOf iv).toNat)
      case atStart => exact ⟨0, g, rfl, by omega, Lib.hid rfl, HOK1, HID⟩
      case round =>
        obtain ⟨i, g1, rfl, hi, HSE, HOS, HD1⟩ := hrel
        obtain ⟨wi, rfl⟩ : ∃ wi : World, wi = wr := ⟨_, rfl⟩
        by_cases hlt : i < WL.length
        · have hii : (i : Int) < (WL.length : Int) := by omega
          obtain ⟨ba, rfl, hba1, hba2, hac⟩ := HAC.out (by omega)
          obtain ⟨bw, rfl, hbw1, hbw2, hwc⟩ := HWC.out (by omega)
          have ci := hac i hlt
          rw [List.getElem?_map, List.getElem?_eq_getElem (by omega : i < cl.length)] at ci
          have hcd := getD_at none (by omega : i < cl.length)
          have hwd := getD_at (0 : Int) hlt
          have hrow := HCO.out i hlt
          rw [hcd, hwd] at hrow
          obtain ⟨ps, cs, hsv, hcs, hcs2, _, hsc⟩ := row_vals hrow
          rw [show Option.map slV (some cl[i]) = some (slV cl[i]) from rfl, hsv, ← World.cell?_of_block (HFRM.out wi g1 HD1.out ba (by omega) hba1)] at ci
          have hbaw : ba < wi.heap.size := by have := HD1.out; obtain ⟨_, _, h, _⟩ := this; omega
          have HSC := Lib.hid hsc
          obtain ⟨kk, hkk⟩ : ∃ kk, kk = WL[i] := ⟨_, rfl⟩
          have wi_ := hwc i hlt
          rw [List.getElem?_map, List.getElem?_eq_getElem hlt, ← hkk] at wi_
          have HWI := Lib.hid wi_
          have hdr := drop_at hlt
          rw [← hkk] at hdr hsc
          have HSE2 := HSE.out
          have HOS2 := HOS.out
          rw [hdr, sendS] at HSE2
          rw [hdr, okS] at HOS2
          have hts : (ts kk).length ≤ 4096 := by have := HR.out.tl kk; omega
          rw [← hkk] at ci hcs HSC
          obtain ⟨TL, hTL⟩ : ∃ TL, TL = ts kk := ⟨_, rfl⟩
          rw [← hTL] at HSE2 HOS2 hts ci hcs HSC
          have HS1 := Lib.hid HSE2
          have HO1 := Lib.hid HOS2.1
          have HO2 := Lib.hid HOS2.2
          clear hac hwc hcd hwd hrow hsv hsc wi_ hdr HSE HOS HSE2 HOS2 hTL hkk
          go_wp2
          go_loopw [57] (fun jv wr2 => ∃ (j : Nat) (g2 : γ), jv = .int .i64 j ∧ j ≤ TL.length ∧ RowKit.Hid (callL step g1 TL = callL step g2 (TL.drop j)) ∧ RowKit.Hid (okL step Ok g2 (TL.drop j)) ∧ RowKit.Hid (DPost Inv g2 O wo wr2)) (fun jv _ => TL.length - (intOf jv).toNat)
          case atStart => exact ⟨0, g1, rfl, by omega, Lib.hid rfl, HO1, HD1⟩
          case round =>
            obtain ⟨j, g2, rfl, hj, HCE, HOL, HD2⟩ := hrel
            obtain ⟨wj, rfl⟩ : ∃ wj : World, wj = wr := ⟨_, rfl⟩
            by_cases hlt2 : j < TL.length
            · have hji : (j : Int) < (TL.length : Int) := by omega
              obtain ⟨bs, rfl, hbs1, hbs2, hsc⟩ := HSC.out (by omega)
              have cj := hsc j hlt2
              rw [List.getElem?_eq_getElem hlt2, ← World.cell?_of_block (HFRM.out wj g2 HD2.out bs (by omega) hbs1)] at cj
              have zwj : wo.heap.size ≤ wj.heap.size := by have := HD2.out; obtain ⟨_, _, h, _⟩ := this; exact h
              have hbsw : bs < wj.heap.size := by omega
              have hevj := (HFRM.out wj g2 HD2.out W.heap.size (Nat.le_refl _) zE).trans HEV2.out
              have e0 : wj.cell? ⟨W.heap.size, 0, none⟩ = some (.int .i8 k) := by rw [cell_of_row _ _ _ _ _ _ hevj]; rfl
              have e1 : wj.cell? ⟨W.heap.size, 1, none⟩ = some (.int .i32 c) := by rw [cell_of_row _ _ _ _ _ _ hevj]; rfl
              have e2 : wj.cell? ⟨W.heap.size, 2, none⟩ = some (.int .u8 md) := by rw [cell_of_row _ _ _ _ _ _ hevj]; rfl
              have e3 : wj.cell? ⟨W.heap.size, 3, none⟩ = some (.int .i64 x) := by rw [cell_of_row _ _ _ _ _ _ hevj]; rfl
              have e4 : wj.cell? ⟨W.heap.size, 4, none⟩ = some (.int .i64 y) := by rw [cell_of_row _ _ _ _ _ _ hevj]; rfl
              have e5 : wj.cell? ⟨W.heap.size, 5, none⟩ = some (.string s) := by rw [cell_of_row _ _ _ _ _ _ hevj]; rfl
              have zEj : W.heap.size < wj.heap.size := by omega
              have hdr := drop_at hlt2
              obtain ⟨tk, htk⟩ : ∃ tk, tk = TL[j] := ⟨_, rfl⟩
              rw [← htk] at hdr cj
              have HCE2 := HCE.out
              have HOL2 := HOL.out
              rw [hdr, callL] at HCE2
              rw [hdr, okL] at HOL2
              have hd2 := HD2.out
              obtain ⟨O1, hI1, hz1', hf1, hg1⟩ := hd2
              obtain ⟨K, cap, rfl, henK, hcall⟩ := HV.out.call tk HOL2.1 hI1
              have HHC := Lib.hid hcall
              have HO3 := Lib.hid HOL2.2
              have HC2 := Lib.hid HCE2
              have HTR := Lib.hid (fun (g' : γ) (W' : World) (h : DPost Inv g' O1 wj W') => h.trans hz1' hf1 hg1)
              generalize hst : step g2 (.func (.func K) #[] cap) = r at *
              obtain ⟨g3, br⟩ := r
              clear hsc hevj hdr HCE HOL HCE2 HOL2 hI1 hf1 hg1 hcall htk hst
              simp only at HC2 HO3 HHC
              unfold evV at HHC
              go_wp2_with fail
              refine HHC.out.mono ?_
              rintro e w3 ⟨rfl, hd3⟩
              have HD3 := Lib.hid (HTR.out g3 w3 hd3)
              have zw3 : wo.heap.size ≤ w3.heap.size := by have := HD3.out; obtain ⟨_, _, h, _⟩ := this; exact h
              cases br with
              | true =>
                have cw : w3.cell? ⟨bw, i, none⟩ = some (.int .i64 kk) := by
                  rw [World.cell?_of_block (HFRM.out w3 g3 HD3.out bw (by omega) hbw1)]
                  exact HWI.out
                have hbw3 : bw < w3.heap.size := by omega
                have HE := Lib.hid (show sendS step ts g WL = (g3, kk) by
                  rw [HS1.out, HC2.out]; rfl)
                have HP2 := Lib.hid (HPO.out (g3, kk) w3 HE.out HD3.out)
                clear cj e0 e1 e2 e3 e4 e5 HE HC2 HO3 HHC HTR hd3 henK
                go_wp2
                exact HP2.out
              | false =>
                have HC3 := Lib.hid (show callL step g1 TL = callL step g3 (TL.drop (j + 1)) by rw [HC2.out]; rfl)
                have HO4 := Lib.hid (HO3.out rfl)
                clear cj e0 e1 e2 e3 e4 e5 HC2 HO3 HHC HTR hd3 henK
                go_wp2
                go_roundw
                case rel => exact ⟨j + 1, g3, by go_num, by omega, HC3, HO4, HD3⟩
                case measure => simp [intOf]; omega
            · obtain rfl : j = TL.length := by omega
              have HE := Lib.hid (show callL step g1 TL = (g2, false) by rw [HCE.out, List.drop_length]; rfl)
              have HS2 := Lib.hid (show sendS step ts g WL = sendS step ts g2 (WL.drop (i + 1)) by rw [HS1.out, HE.out]; rfl)
              have HO4 := Lib.hid (show okS step Ok ts g2 (WL.drop (i + 1)) by have := HO2.out (by rw [HE.out]); rwa [HE.out] at this)
              clear HCE HOL HE HS1 HO1 HO2
              go_wp2
              go_roundw
              case rel => exact ⟨i + 1, g2, by go_num, by omega, HS2, HO4, HD2⟩
              case measure => simp [intOf]; omega
        · obtain rfl : i = WL.length := by omega
          have HE := Lib.hid (show sendS step ts g WL = (g1, -1) by rw [HSE.out, List.drop_length]; rfl)
          have HP2 := Lib.hid (HPO.out (g1, -1) wi HE.out HD1.out)
          clear HSE HOS HE
          go_wp2
          exact HP2.out
    · obtain ⟨q, rfl⟩ := Int.eq_ofNat_of_zero_le (show 0 ≤ q by omega)
      have hqn : q < P.length := by omega
      have hqi : (0 : Int) ≤ (q : Int) := by omega
      obtain ⟨fv, hfv⟩ : ∃ fv, fu = fv + 1 := ⟨fu - 1, by omega⟩
      have HFV := Lib.hid hfv
      have hdl : done.length ≤ 4096 := by omega
      have hup := HU.out q hqn
      have HWY2 := Lib.hid (show (done ++ [(q : Int)]) ++ wayP P fv (P.getD q 0) = wayP P P.length n by
        rw [← HWY.out, hfv, wayP, if_neg hq, Int.toNat_natCast, List.append_assoc]; rfl)
      have BWO := below_via BR HB1.out
      have OWN := Lib.hid (HWO.out.alloc (.cells #[.int .i64 (q : Int)] 3))
      have HON := Lib.hid (show ∀ u ∈ [Value.int .i64 (q : Int)], u.oneCell' = true from fun u hu => by simp at hu; rcases hu with rfl; rfl)
      have h63 : done.length + 1 ≤ maxLen := by unfold maxLen; omega
      clear hfv hup
      go_wp2_with (at_builtin; go_must (refine append_keep rfl (.tmp 34) (.tmp 36) 25 rfl W1.heap.size 3 i0 _ 1 8 Try.underlying25 HI.out.1 HI.out.2.1 HI.out.2.2.1 HI.out.2.2.2 rfl (by decide) _ done.length _ rfl OWN.out ⟨wo.heap.size, 0, none⟩ 1 1 [.int .i64 (q : Int)] rfl rfl ?n1 HON.out h63 ?n2 ?n3 ?_))
      try case n1 => exact World.news_of_block (cs := #[.int .i64 (q : Int)]) (t := 3) (fr := (0, 0)) (heap_alloc_new wo _)
      case n2 => omega
      case n3 => first | omega | (simp; omega)
      intro v' w2 own2 gr2 pl2
      have BA := below_al (Below.refl wo.heap.size wo) (.cells #[.int .i64 (q : Int)] 3)
      have g2 : Below W1.heap.size W1 w2 := Below.grown (below_via BA BR) gr2 (by simp; omega) (fun k hk => (row_lt HWO.out k hk).2)
      have z2 : wo.heap.size < w2.heap.size := by have := gr2.size; simp at this; omega
      have HWO2 := Lib.hid (show w2.ownsRow W1.heap.size 3 1 v' (done ++ [(q : Int)]).length ((done ++ [(q : Int)]).map (Value.int .i64)) by simpa using own2)
      have HAO2 := Lib.hid (show w2.ownsRow W1.heap.size 105 1 u9 done.length (cl.map slV) from (row_later HAO.out BA).kept gr2 (row_ne HAO.out HWO.out (by decide)))
      have HCO2 := Lib.hid (show ∀ i, i < done.length → w2.ownsRow W1.heap.size 91 1 (slV (cl.getD i none)) (ts (done.getD i 0)).length (ts (done.getD i 0)) from fun i hi => (row_later (HCO.out i hi) BA).kept gr2 (row_ne (HCO.out i hi) HWO.out (by decide)))
      have B2 : Below W.heap.size W w2 := below_via (g2.mono (by have := HB1.out.size; omega)) HB1.out
      have hrb : rb < W.heap.size := zb
      have c2 : w2.cell? ⟨rb, 2, none⟩ = some (.map (some mb)) := by rw [(bcell B2).1 _ _ hrb, cell_of_row _ _ _ _ _ _ HR.out.ro]; rfl
      have hwf : (Lit.int .i64 (q : Int)).wf = true := WalkArith.wf_i64 (by omega)
      have hlk := (HR.out.mp.of_block (B2.block _ HR.out.mp.lt)).look (q : Int) hwf
      have HCL := Lib.hid (Clone_any w0.heap.size (f q) (ts q) w2 (row_later (HR.out.rw q) B2) (HF.out q) (by have := HR.out.tl q; omega))
      have zbw2 : rb < w2.heap.size := by have := B2.size; omega
      clear own2 gr2 pl2 OWN HON HWO HAO HCO BA BWO
      go_wp2_with fail
      refine HCL.out.mono ?_
      clear hlk c2 hwf HCL
      rintro e w3 ⟨s', rfl, own3, hb3⟩
      have z3 := hb3.size
      have B3 : Below W.heap.size W w3 := below_via hb3 B2
      have g3 : Below W1.heap.size W1 w3 := below_via hb3 g2
      have HWO3 := Lib.hid (row_later HWO2.out hb3)
      have HAO3 := Lib.hid (row_later HAO2.out hb3)
      have HCO3 := Lib.hid (show ∀ i, i < (done ++ [(q : Int)]).length → w3.ownsRow W1.heap.size 91 1 (slV ((cl ++ [s']).getD i none)) (ts ((done ++ [(q : Int)]).getD i 0)).length (ts ((done ++ [(q : Int)]).getD i 0)) from fun i hi => by
        rw [List.length_append, List.length_singleton] at hi
        by_cases e : i < done.length
        · rw [List.getD_eq_getElem?_getD, List.getElem?_append_left (by omega), ← List.getD_eq_getElem?_getD, List.getD_eq_getElem?_getD (l := done ++ _), List.getElem?_append_left e, ← List.getD_eq_getElem?_getD]
          exact row_later (HCO2.out i e) hb3
        · obtain rfl : i = done.length := by omega
          rw [List.getD_eq_getElem?_getD, List.getElem?_append_right (by omega), List.getD_eq_getElem?_getD (l := done ++ _), List.getElem?_append_right (by omega), hcl]
          simp only [Nat.sub_self, List.getElem?_cons_zero, Option.getD_some]
          exact row_sink_ own3 g2.size)
      have OWN := Lib.hid (HAO3.out.alloc (.cells #[slV s'] 105))
      have HON := Lib.hid (show ∀ u ∈ [slV s'], u.oneCell' = true from fun u hu => by simp at hu; rcases hu with rfl; rcases s' with _ | ⟨_, _, _⟩ <;> rfl)
      clear HWO2 HAO2 HCO2 own3 hb3
      generalize hsv : slV s' = sv at *
      obtain ⟨sp, sn, sc, rfl⟩ : ∃ p n c, sv = .slice p n c := by rcases s' with _ | ⟨_, _, _⟩ <;> exact ⟨_, _, _, hsv.symm⟩
      have HSV := Lib.hid hsv
      clear hsv
      go_wp2_with (at_builtin; go_must (refine append_keep rfl (.tmp 38) (.tmp 46) 125 rfl W1.heap.size 105 i1 _ 1 24 Try.underlying125 HJ.out.1 HJ.out.2.1 HJ.out.2.2.1 HJ.out.2.2.2 rfl (by decide) _ done.length _ rfl OWN.out ⟨w3.heap.size, 0, none⟩ 1 1 [.slice sp sn sc] rfl rfl ?m1 HON.out h63 ?m2 ?m3 ?_))
      try case m1 => exact World.news_of_block (cs := #[.slice sp sn sc]) (t := 105) (fr := (0, 0)) (heap_alloc_new w3 _)
      case m2 => omega
      case m3 => first | omega | (simp; have := g3.size; omega)
      intro v'' w4 own4 gr4 pl4
      have BA := below_al (Below.refl w3.heap.size w3) (.cells #[.slice sp sn sc] 105)
      have g4 : Below W1.heap.size W1 w4 := Below.grown (below_via BA g3) gr4 (by simp; have := g3.size; omega) (fun k hk => (row_lt HAO3.out k hk).2)
      have HWO4 := Lib.hid (show w4.ownsRow W1.heap.size 3 1 v' (done ++ [(q : Int)]).length ((done ++ [(q : Int)]).map (Value.int .i64)) from (row_later HWO3.out BA).kept gr4 (row_ne HWO3.out HAO3.out (by decide)))
      have HAO4 := Lib.hid (show w4.ownsRow W1.heap.size 105 1 v'' (done ++ [(q : Int)]).length ((cl ++ [s']).map slV) by rw [List.length_append, List.map_append, List.map_singleton, HSV.out]; exact own4)
      have HCO4 := Lib.hid (show ∀ i, i < (done ++ [(q : Int)]).length → w4.ownsRow W1.heap.size 91 1 (slV ((cl ++ [s']).getD i none)) (ts ((done ++ [(q : Int)]).getD i 0)).length (ts ((done ++ [(q : Int)]).getD i 0)) from fun i hi => (row_later (HCO3.out i hi) BA).kept gr4 (row_ne (HCO3.out i hi) HAO3.out (by decide)))
      have B4 : Below W.heap.size W w4 := below_via (g4.mono (by have := HB1.out.size; omega)) HB1.out
      have c1 : w4.cell? ⟨rb, 1, none⟩ = some (parF pv) := by rw [(bcell B4).1 _ _ hrb, cell_of_row _ _ _ _ _ _ HR.out.ro]; rfl
      have zbw4 : rb < w4.heap.size := by have := B4.size; omega
      have HPA := Lib.hid (parent_any pv P q w4 ((row_ints HR.out.pa).later B4 (Nat.le_refl _)) hqn)
      have hup := HU.out q hqn
      have HDL := Lib.hid (show (cl ++ [s']).length = (done ++ [(q : Int)]).length by rw [List.length_append, List.length_append, hcl]; rfl)
      have HDF := Lib.hid (show (done ++ [(q : Int)]).length + fv ≤ P.length by rw [List.length_append]; have := HFV.out; simp; omega)
      have HUP := Lib.hid hup
      have hqf2 : (q : Int) ≤ (fv : Int) := by have := HFV.out; omega
      clear own4 gr4 pl4 OWN HON HWO3 HAO3 HCO3 BA hup HSV
      unfold parF at c1
      generalize P.getD q 0 = pq at *
      go_wp2_with fail
      refine HPA.out.mono ?_
      rintro e w5 ⟨rfl, rfl⟩
      clear c1 HPA
      go_wp2
      go_roundw
      case rel => exact ⟨pq, fv, done ++ [(q : Int)], cl ++ [s'], rfl, HUP.out.1, by have := HUP.out.2; omega, by have := HUP.out.2; omega, HDF.out, HDL.out, HWY2, HWO4, HAO4, HCO4, g4⟩
      case measure => have h1 := HUP.out.2; have h2 := HUP.out.1; simp [intOf]; omega
end Go.Proofs.Ytihjefncjkdnpaa
