/- Focus: works. -/
import Derived.Test.YtihjefncjkdnpaaRoD
namespace Go.Proofs.Ytihjefncjkdnpaa
open Go.RowKit Go.Deep
set_option linter.unusedVariables false
set_option linter.unusedSimpArgs false

theorem RouterAt.later {w0 W W' : World} {rb mb : Nat} {pv : Value} {P : List Int} {m : Nat} {f : Int → Sl} {ts : Int → List Value} {many : Nat} (h : RouterAt w0 W rb mb pv P m f ts many) (hb : Below W.heap.size W W') : RouterAt w0 W' rb mb pv P m f ts many :=
  ⟨below_via hb h.be, (hb.block _ (lt_of_block h.ro)).trans h.ro, row_later h.pa hb, h.mp.of_block (hb.block _ h.mp.lt), h.mm, fun k => row_later (h.rw k) hb, h.ap, h.zr, h.zm, h.tl⟩
def smP : List Int := [-1, 0, 0, 2, 2, 0]
theorem smP_up : UpOk smP := fun i hi => by
  have : i = 0 ∨ i = 1 ∨ i = 2 ∨ i = 3 ∨ i = 4 ∨ i = 5 := by have : smP.length = 6 := rfl; omega
  rcases this with rfl | rfl | rfl | rfl | rfl | rfl <;> exact ⟨by decide, by decide⟩
def tsW (nb : Nat) : Int → List Value := putT (fun _ => []) 0 ([] ++ [takerW nb])
theorem send_W (nb : Nat) : sendS stepW (tsW nb) 0 (wayP smP smP.length 4) = (5, 0) := rfl
theorem ok_W (nb : Nat) : okS stepW (fun g tk => tk = takerW nb ∧ 0 ≤ g ∧ g ≤ 100) (tsW nb) 0 (wayP smP smP.length 4) :=
  ⟨trivial, fun _ => ⟨trivial, fun _ => ⟨⟨⟨rfl, show (0 : Int) ≤ 0 by decide, show (0 : Int) ≤ 100 by decide⟩, fun h => by cases h⟩, fun h => by cases h⟩⟩⟩
theorem one_W (nb : Nat) : ∀ k, ∀ t ∈ tsW nb k, t.oneCell' = true := fun k t ht => by
  unfold tsW putT at ht
  split at ht
  · simp at ht
    subst ht
    rfl
  · cases ht
set_option maxRecDepth 100000 in
set_option maxHeartbeats 16000000 in
theorem works_any (w : World) : Calls Try.prog 17 #[] w fun e w' => e = .returned (.bool true) ∧ Below w.heap.size w w' := by
  have hmf : ∀ (fn : Fn) (first cap : Array Value) (w : World), (Instr.makeFunc fn first cap).run Try.prog w = .ok (.func fn first cap) w := fun _ _ _ _ => rfl
  go_enter Try.func17, Try.ntmps17
  go_wp2_with fail
  refine (small_any w).mono ?_
  rintro e w1 ⟨g, rfl, TT, hb1⟩
  have HTT := Lib.hid TT
  have B1 := Lib.hid hb1
  clear TT hb1
  go_wp2_with fail
  obtain ⟨w2, hw2⟩ : ∃ w2, w2 = w1.alloc (.cells #[.slice (some ⟨g, 0, none⟩) 6 6] 24) := ⟨_, rfl⟩
  have C2 : Below w1.heap.size w1 w2 := by rw [hw2]; exact below_al (Below.refl _ _) _
  have z2 : w2.heap.size = w1.heap.size + 1 := by rw [hw2]; simp
  have x2 : w2.heap[w1.heap.size]? = some (.cells #[.slice (some ⟨g, 0, none⟩) 6 6] 24 (0, 0)) := by rw [hw2]; exact heap_alloc_new _ _
  rw [← hw2]
  have HT2 := Lib.hid (HTT.out.later C2)
  have HX2 := Lib.hid x2
  have HC2 := Lib.hid C2
  have HZ2 := Lib.hid z2
  have HN := Lib.hid (show Calls Try.prog 20 #[.agg #[.slice (some ⟨g, 0, none⟩) 6 6]] w2 _ from focus_New_yes (some ⟨g, 0, none⟩) 6 smT w2 HT2.out smT_check)
  clear hw2 x2 C2 z2
  refine HN.out.mono ?_
  clear HN
  rw [smT_par]
  rintro e w3 ⟨rb, mb, pv, rfl, RA⟩
  have HR3 := Lib.hid (show RouterAt w2 w3 rb mb pv smP 0 (fun _ => none) (fun _ => []) 0 from RA)
  have x0 := cell_of_one ((RA.be.block _ (by have := HZ2.out; omega)).trans HX2.out)
  have z3 : w1.heap.size < w3.heap.size := by have := HZ2.out; have := RA.be.size; omega
  clear RA
  go_wp2_with fail
  obtain ⟨w4, hw4⟩ : ∃ w4, w4 = w3.alloc (.cells #[.int .i64 0] 3) := ⟨_, rfl⟩
  have C4 : Below w3.heap.size w3 w4 := by rw [hw4]; exact below_al (Below.refl _ _) _
  have x4 : w4.heap[w3.heap.size]? = some (.cells #[.int .i64 0] 3 (0, 0)) := by rw [hw4]; exact heap_alloc_new _ _
  rw [← hw4]
  obtain ⟨nb, hnb⟩ : ∃ nb, nb = w3.heap.size := ⟨_, rfl⟩
  have HNB := Lib.hid hnb
  rw [← hnb] at x4 ⊢
  have HX4 := Lib.hid x4
  have HR4 := Lib.hid (HR3.out.later C4)
  have HON := Lib.hid (show Calls Try.prog 22 #[.pointer (some ⟨rb, 0, none⟩), .int .i64 0, takerW nb] w4 _ from On_yes w2 rb mb pv smP 0 (fun _ => none) (fun _ => []) 0 0 _ _ w4 HR4.out (by decide) (by decide) (by decide))
  have HNBZ := Lib.hid (show nb < w4.heap.size from lt_of_block x4)
  clear hw4 C4 x4 hnb x0 z3
  unfold takerW at HON
  refine HON.out.mono ?_
  clear HON
  rintro e w5 ⟨rfl, OP⟩
  obtain ⟨⟨m5, f5, RA5, hO5⟩, hz5, hfr5⟩ := OP
  have HR5 := Lib.hid (show RouterAt w2 w5 rb mb pv smP m5 f5 (tsW nb) 1 from RA5)
  have x5 : w5.heap[nb]? = some (.cells #[.int .i64 0] 3 (0, 0)) := by
    rw [hfr5 nb HNBZ.out (fun h => by
      rcases h with h | h | ⟨k, h⟩
      · have := lt_of_block HR3.out.ro; have := HNB.out; omega
      · have := HR3.out.mp.lt; have := HNB.out; omega
      · simp [slV, Value.ownBlock] at h)]
    exact HX4.out
  have HI := Lib.hid (show InvW w2 nb 0 (fun b => b = nb) w5 from ⟨RA5.be, x5, by have := HR3.out.be.size; have := HNB.out; omega, fun b => Iff.rfl⟩)
  have HS := Lib.hid (show Calls Try.prog 45 #[.pointer (some ⟨rb, 0, none⟩), .int .i64 4, .agg #[.int .i8 0, .int .i32 5, .int .u8 0, .int .i64 0, .int .i64 0, .string ByteArray.empty]] w5 (RetS (InvW w2 nb) (5, 0) (fun b => b = nb) w5) from by
    have := Send_any 0 5 0 0 0 ByteArray.empty (works_crowd w2 nb) rb mb pv smP m5 f5 (tsW nb) 1 4 w5 HR5.out (by decide) (by decide) smP_up (by decide) (one_W nb) 0 _ HI.out (ok_W nb)
    rw [show (((4 : Nat) : Int)) = 4 from rfl, send_W] at this
    exact this)
  clear RA5 hO5 hz5 hfr5 x5 HI HR5
  go_wp2_with fail
  refine HS.out.mono ?_
  clear HS
  rintro e w6 ⟨rfl, O6, HI6, _⟩
  have B26 := HI6.be
  have x6 := cell_of_one ((B26.block _ (by have := HZ2.out; omega)).trans HX2.out)
  have y6 := cell_of_one HI6.at_
  have z6 : w1.heap.size < w6.heap.size := by have := HZ2.out; have := B26.size; omega
  have zn6 := lt_of_block HI6.at_
  have B16 := below_via B26 HC2.out
  have HT6 := Lib.hid (HTT.out.later B16)
  have HB6 := Lib.hid (below_via B16 B1.out)
  have HOR := Lib.hid (show Calls Try.prog 12 #[.agg #[.slice (some ⟨g, 0, none⟩) 6 6]] w6 _ from focus_Order_any (some ⟨g, 0, none⟩) 6 smT w6 HT6.out)
  clear HI6 B26 B16 HR3 HR4 HX4 HNB HNBZ HTT HT2 HX2 HC2 HZ2 B1
  go_wp2_with fail
  refine HOR.out.mono ?_
  rw [smT_fos]
  clear HOR
  rintro e w7 ⟨v, rfl, own, hb7⟩
  have HI7 := Lib.hid (row_ints (L := [1, 3, 4]) own)
  have x7 : w7.cell? ⟨w1.heap.size, 0, none⟩ = some (.slice (some ⟨g, 0, none⟩) 6 6) := by rw [(bcell hb7).1 _ _ z6]; exact x6
  have y7 : w7.cell? ⟨nb, 0, none⟩ = some (.int .i64 5) := by rw [(bcell hb7).1 _ _ zn6]; exact y6
  have z7 : w1.heap.size < w7.heap.size := by have := hb7.size; omega
  have zn7 : nb < w7.heap.size := by have := hb7.size; omega
  have HT7 := Lib.hid (HT6.out.later hb7)
  have HB7 := Lib.hid (below_via hb7 HB6.out)
  clear own hb7 x6 y6 z6 zn6 HT6 HB6
  go_wp2_with fail
  obtain ⟨w8, hw8⟩ : ∃ w8, w8 = w7.alloc (.cells #[.int .i64 1, .int .i64 3, .int .i64 4] 3) := ⟨_, rfl⟩
  have C8 : Below w7.heap.size w7 w8 := by rw [hw8]; exact below_al (Below.refl _ _) _
  have k8 : w8.heap[w7.heap.size]? = some (.cells #[.int .i64 1, .int .i64 3, .int .i64 4] 3 (0, 0)) := by rw [hw8]; exact heap_alloc_new _ _
  rw [← hw8]
  have HS8 := Lib.hid (same_Ints_any v (.slice (some ⟨w7.heap.size, 0, none⟩) 3 3) [1, 3, 4] w8 (HI7.out.later C8 (Nat.le_refl _)) (ints_block (L := [1, 3, 4]) k8 (by decide)))
  have x8 : w8.cell? ⟨w1.heap.size, 0, none⟩ = some (.slice (some ⟨g, 0, none⟩) 6 6) := by rw [(bcell C8).1 _ _ z7]; exact x7
  have y8 : w8.cell? ⟨nb, 0, none⟩ = some (.int .i64 5) := by rw [(bcell C8).1 _ _ zn7]; exact y7
  have z8 : w1.heap.size < w8.heap.size := by have := C8.size; omega
  have zn8 : nb < w8.heap.size := by have := C8.size; omega
  have HT8 := Lib.hid (HT7.out.later C8)
  have HB8 := Lib.hid (below_via C8 HB7.out)
  clear hw8 k8 C8 x7 y7 z7 zn7 HT7 HB7 HI7
  refine HS8.out.mono ?_
  clear HS8
  rintro e w9 ⟨rfl, hb9⟩
  have x9 : w9.cell? ⟨w1.heap.size, 0, none⟩ = some (.slice (some ⟨g, 0, none⟩) 6 6) := by rw [(bcell hb9).1 _ _ z8]; exact x8
  have y9 : w9.cell? ⟨nb, 0, none⟩ = some (.int .i64 5) := by rw [(bcell hb9).1 _ _ zn8]; exact y8
  have z9 : w1.heap.size < w9.heap.size := by have := hb9.size; omega
  have zn9 : nb < w9.heap.size := by have := hb9.size; omega
  have HT9 := Lib.hid (HT8.out.later hb9)
  have HB9 := Lib.hid (below_via hb9 HB8.out)
  have HNX := Lib.hid (show Calls Try.prog 14 #[.agg #[.slice (some ⟨g, 0, none⟩) 6 6], .int .i64 4, .int .i64 1] w9 (RetN [1, 3, 4] 4 1 w9) from by
    have := focus_Next_any (some ⟨g, 0, none⟩) 6 smT 4 1 w9 HT9.out
    rw [smT_fos] at this
    exact this)
  clear hb9 x8 y8 z8 zn8 HT8 HB8
  go_wp2_with fail
  refine HNX.out.mono ?_
  clear HNX
  rintro e w10 ⟨rfl, hb10⟩
  rw [smT_next]
  have x10 : w10.cell? ⟨w1.heap.size, 0, none⟩ = some (.slice (some ⟨g, 0, none⟩) 6 6) := by rw [(bcell hb10).1 _ _ z9]; exact x9
  have y10 : w10.cell? ⟨nb, 0, none⟩ = some (.int .i64 5) := by rw [(bcell hb10).1 _ _ zn9]; exact y9
  have z10 : w1.heap.size < w10.heap.size := by have := hb10.size; omega
  have zn10 : nb < w10.heap.size := by have := hb10.size; omega
  have HT10 := Lib.hid (HT9.out.later hb10)
  have HB10 := Lib.hid (below_via hb10 HB9.out)
  have HCA := Lib.hid (show Calls Try.prog 18 #[.agg #[.slice (some ⟨g, 0, none⟩) 6 6], .agg #[.slice (some ⟨g, 0, none⟩) 6 6], .int .i64 3] w10 (RetC smT smT 3 w10) from focus_Carry_any (some ⟨g, 0, none⟩) (some ⟨g, 0, none⟩) 6 6 smT smT 3 w10 HT10.out HT10.out)
  clear hb10 x9 y9 z9 zn9 HT9 HB9
  go_wp2_with fail
  refine HCA.out.mono ?_
  clear HCA
  rintro e w11 ⟨rfl, hb11⟩
  rw [smT_carry]
  have y11 : w11.cell? ⟨nb, 0, none⟩ = some (.int .i64 5) := by rw [(bcell hb11).1 _ _ zn10]; exact y10
  have HB11 := Lib.hid (below_via hb11 HB10.out)
  clear hb11 x10 y10 z10 HT10 HB10
  go_wp2
  go_ret
  exact ⟨rfl, HB11.out⟩
end Go.Proofs.Ytihjefncjkdnpaa
