/- Trees' bytes: the writer's closures. -/
import Derived.Test.YtcihihncgpddfaaWrA
import Derived.Test.YtcihihncgpddfaaTreN
namespace Go.Proofs.Ytcihihncgpddfaa
open Go.RowKit Go.Deep
set_option linter.unusedVariables false
set_option linter.unusedSimpArgs false

/-- a node that may be written: every number fits, none is too many -/
structure NdWr (x : Nd) : Prop where
  fit : NdFit x
  kind : 0 ≤ x.kind
  iwk : 0 ≤ x.iw.k
  ihk : 0 ≤ x.ih.k
  colk : ∀ y ∈ x.cols, 0 ≤ y.k
  bd : 0 ≤ x.border
  al : 0 ≤ x.align
  cr : 0 ≤ x.cross
  wr : 0 ≤ x.wrap
  fl : 0 ≤ x.flags
  ad : 0 ≤ x.add
  dr : 0 ≤ x.drop
  id : x.id.size ≤ 65536
  cls : x.cls.size ≤ 65536
  text : x.text.size ≤ 65536
  kidl : x.kids.length ≤ 4096
  coll : x.cols.length ≤ 4096
/-- where the node lies: in the world ahead of all writing -/
structure Src1 (w0 : World) (b o : Nat) (x : Nd) (W : World) : Prop where
  nd : NdAt w0 b o x
  lt : b < w0.heap.size
  be : Below w0.heap.size w0 W
theorem Src1.now {w0 W : World} {b o : Nat} {x : Nd} (h : Src1 w0 b o x W) : NdAt W b o x := h.nd.later h.be (Nat.le_refl _) h.lt
theorem Src1.ltW {w0 W : World} {b o : Nat} {x : Nd} (h : Src1 w0 b o x W) : b < W.heap.size := Nat.lt_of_lt_of_le h.lt h.be.size
theorem Src1.next {w0 W W' : World} {b o : Nat} {x : Nd} (h : Src1 w0 b o x W) (hb : Below w0.heap.size W W') : Src1 w0 b o x W' := ⟨h.nd, h.lt, h.be.trans hb⟩
theorem numB_len (n : Int) : (numB n).length ≤ 11 := numF_len 10 _
theorem kidsB_len : ∀ (l : List Int), (kidsB l).length ≤ 11 * l.length
  | [] => by simp [kidsB]
  | a :: l => by
    have h := kidsB_len l
    have h1 := numB_len a
    unfold kidsB at *
    rw [List.flatMap_cons, List.length_append, List.length_cons]
    omega
theorem itB_len (x : It) : (itB x).length ≤ 45 := by
  have h1 := numB_len x.n
  have h2 := numB_len x.d
  have h3 := numB_len x.lo
  have h4 := numB_len x.hi
  simp [itB]; omega
theorem itsB_len : ∀ (l : List It), (itsB l).length ≤ 45 * l.length
  | [] => by simp [itsB]
  | a :: l => by
    have h := itsB_len l
    have h1 := itB_len a
    unfold itsB at *
    rw [List.flatMap_cons, List.length_append, List.length_cons]
    omega
theorem sgnB_len (n : Int) : (sgnB n).length ≤ 11 := numF_len 10 _
theorem txtB_len (s : ByteArray) : (txtB s).length ≤ 11 + s.size := by
  have := numB_len s.size
  unfold txtB
  rw [List.length_append, strB_len]
  omega
theorem partB_len {x : Nd} (h : NdWr x) (k : Nat) : (partB x k).length ≤ 300000 := by
  have a1 := h.id
  have a2 := h.cls
  have a3 := h.text
  have a4 := h.kidl
  have a5 := h.coll
  have c1 := txtB_len x.id
  have c2 := txtB_len x.cls
  have c3 := txtB_len x.text
  have c4 := kidsB_len x.kids
  have c5 := itsB_len x.cols
  have c6 := itB_len x.iw
  have c7 := itB_len x.ih
  have n0 := numB_len x.kids.length
  have n1 := numB_len x.cols.length
  have n2 := numB_len x.gap
  have n3 := numB_len x.p0
  have n4 := numB_len x.p1
  have n5 := numB_len x.p2
  have n6 := numB_len x.p3
  have n7 := numB_len x.fg
  have n8 := numB_len x.bg
  have s0 := sgnB_len x.x0
  have s1 := sgnB_len x.x1
  have s2 := sgnB_len x.x2
  have s3 := sgnB_len x.x3
  unfold partB
  split <;> (try simp only [List.length_append, List.length_cons, List.length_nil]) <;> omega
theorem kidsB_take {l : List Int} {j : Nat} (h : j < l.length) : kidsB (l.take (j + 1)) = kidsB (l.take j) ++ numB (l.getD j 0) := by
  unfold kidsB
  rw [List.take_succ_eq_append_getElem h, List.flatMap_append]
  simp [List.getD_eq_getElem?_getD, List.getElem?_eq_getElem h]
theorem itsB_take {l : List It} {j : Nat} (h : j < l.length) : itsB (l.take (j + 1)) = itsB (l.take j) ++ itB (l.getD j zIt) := by
  unfold itsB
  rw [List.take_succ_eq_append_getElem h, List.flatMap_append]
  simp [List.getD_eq_getElem?_getD, List.getElem?_eq_getElem h]
theorem mem_getD {α : Type} {l : List α} {j : Nat} (d : α) (h : j < l.length) : l.getD j d ∈ l := by
  rw [List.getD_eq_getElem?_getD, List.getElem?_eq_getElem h]; exact List.getElem_mem h
theorem WrPost.self {base : Nat} {W W' : World} {wb : Nat} {v v' : Value} {L : List Int} (h : WrS base W wb v L v' W') : WrPost base W wb v L (.returned (.tuple #[])) W' := ⟨rfl, v', h⟩
set_option maxRecDepth 100000 in
set_option maxHeartbeats 8000000 in
theorem put0 (w0 : World) (wb : Nat) (v : Value) (L : List Int) (b o : Nat) (x : Nd) (W : World) (h : WrAt w0.heap.size W wb v L) (hN : Src1 w0 b o x W) (hx : NdWr x) (hl : L.length ≤ 4294967296) : Calls Try.prog 73 #[.pointer (some ⟨wb, 0, none⟩), .pointer (some ⟨b, o, none⟩)] W (WrPost w0.heap.size W wb v (L ++ partB x 0)) := by
  obtain ⟨kv, cv, hkv, hcv, hc⟩ := hN.now
  have zb := hN.ltW
  have c0 : W.cell? ⟨b, o, none⟩ = some (.int .i8 x.kind) := hc 0 (by omega)
  have HC := Lib.hid (octet_any w0.heap.size wb v L x.kind W h hx.kind hx.fit.kind (by omega))
  clear h hx hN hkv hcv hc
  go_enter Try.func73, Try.ntmps73
  go_wp2_with fail
  refine HC.out.mono ?_
  clear HC
  rintro e w1 ⟨rfl, v1, hs⟩
  have HS := Lib.hid hs
  clear hs
  go_wp2
  exact bodyPost_ret (v := .tuple #[]) (results_none rfl _ _ _) rfl ⟨rfl, v1, HS.out⟩
set_option maxRecDepth 100000 in
set_option maxHeartbeats 8000000 in
theorem put1 (w0 : World) (wb : Nat) (v : Value) (L : List Int) (b o : Nat) (x : Nd) (W : World) (h : WrAt w0.heap.size W wb v L) (hN : Src1 w0 b o x W) (hx : NdWr x) (hl : L.length ≤ 4294967296) : Calls Try.prog 76 #[.pointer (some ⟨wb, 0, none⟩), .pointer (some ⟨b, o, none⟩)] W (WrPost w0.heap.size W wb v (L ++ partB x 1)) := by
  obtain ⟨kv, cv, hkv, hcv, hc⟩ := hN.now
  have zb := hN.ltW
  have c1 : W.cell? ⟨b, o + 1, none⟩ = some (.string x.id) := hc 1 (by omega)
  have HC := Lib.hid (text_any w0.heap.size wb v L x.id W h (by have := hx.id; omega) (by omega))
  clear h hx hN hkv hcv hc
  go_enter Try.func76, Try.ntmps76
  go_wp2_with fail
  refine HC.out.mono ?_
  clear HC
  rintro e w1 ⟨rfl, v1, hs⟩
  have HS := Lib.hid hs
  clear hs
  go_wp2
  exact bodyPost_ret (v := .tuple #[]) (results_none rfl _ _ _) rfl ⟨rfl, v1, HS.out⟩
set_option maxRecDepth 100000 in
set_option maxHeartbeats 8000000 in
theorem put2 (w0 : World) (wb : Nat) (v : Value) (L : List Int) (b o : Nat) (x : Nd) (W : World) (h : WrAt w0.heap.size W wb v L) (hN : Src1 w0 b o x W) (hx : NdWr x) (hl : L.length ≤ 4294967296) : Calls Try.prog 80 #[.pointer (some ⟨wb, 0, none⟩), .pointer (some ⟨b, o, none⟩)] W (WrPost w0.heap.size W wb v (L ++ partB x 2)) := by
  obtain ⟨kv, cv, hkv, hcv, hc⟩ := hN.now
  have zb := hN.ltW
  have c2 : W.cell? ⟨b, o + 2, none⟩ = some (.string x.cls) := hc 2 (by omega)
  have HC := Lib.hid (text_any w0.heap.size wb v L x.cls W h (by have := hx.cls; omega) (by omega))
  clear h hx hN hkv hcv hc
  go_enter Try.func80, Try.ntmps80
  go_wp2_with fail
  refine HC.out.mono ?_
  clear HC
  rintro e w1 ⟨rfl, v1, hs⟩
  have HS := Lib.hid hs
  clear hs
  go_wp2
  exact bodyPost_ret (v := .tuple #[]) (results_none rfl _ _ _) rfl ⟨rfl, v1, HS.out⟩
set_option maxRecDepth 100000 in
set_option maxHeartbeats 8000000 in
theorem put3 (w0 : World) (wb : Nat) (v : Value) (L : List Int) (b o : Nat) (x : Nd) (W : World) (h : WrAt w0.heap.size W wb v L) (hN : Src1 w0 b o x W) (hx : NdWr x) (hl : L.length ≤ 4294967296) : Calls Try.prog 82 #[.pointer (some ⟨wb, 0, none⟩), .pointer (some ⟨b, o, none⟩)] W (WrPost w0.heap.size W wb v (L ++ partB x 3)) := by
  obtain ⟨kv, cv, hkv, hcv, hc⟩ := hN.now
  have zb := hN.ltW
  have c22 : W.cell? ⟨b, o + 22, none⟩ = some (.string x.text) := hc 22 (by omega)
  have HC := Lib.hid (text_any w0.heap.size wb v L x.text W h (by have := hx.text; omega) (by omega))
  clear h hx hN hkv hcv hc
  go_enter Try.func82, Try.ntmps82
  go_wp2_with fail
  refine HC.out.mono ?_
  clear HC
  rintro e w1 ⟨rfl, v1, hs⟩
  have HS := Lib.hid hs
  clear hs
  go_wp2
  exact bodyPost_ret (v := .tuple #[]) (results_none rfl _ _ _) rfl ⟨rfl, v1, HS.out⟩
set_option maxRecDepth 100000 in
set_option maxHeartbeats 8000000 in
theorem put5 (w0 : World) (wb : Nat) (v : Value) (L : List Int) (b o : Nat) (x : Nd) (W : World) (h : WrAt w0.heap.size W wb v L) (hN : Src1 w0 b o x W) (hx : NdWr x) (hl : L.length ≤ 4294967296) : Calls Try.prog 86 #[.pointer (some ⟨wb, 0, none⟩), .pointer (some ⟨b, o, none⟩)] W (WrPost w0.heap.size W wb v (L ++ partB x 5)) := by
  obtain ⟨kv, cv, hkv, hcv, hc⟩ := hN.now
  have zb := hN.ltW
  have c4 : W.cell? ⟨b, o + 4, none⟩ = some (.int .i8 x.iw.k) := hc 4 (by omega)
  have c5 : W.cell? ⟨b, o + 5, none⟩ = some (.int .i64 x.iw.n) := hc 5 (by omega)
  have c6 : W.cell? ⟨b, o + 6, none⟩ = some (.int .i64 x.iw.d) := hc 6 (by omega)
  have c7 : W.cell? ⟨b, o + 7, none⟩ = some (.int .i64 x.iw.lo) := hc 7 (by omega)
  have c8 : W.cell? ⟨b, o + 8, none⟩ = some (.int .i64 x.iw.hi) := hc 8 (by omega)
  have HC := Lib.hid (item_any w0.heap.size wb v L x.iw W h hx.fit.iw hx.iwk (by omega))
  clear h hx hN hkv hcv hc
  go_enter Try.func86, Try.ntmps86
  go_wp2_with fail
  refine HC.out.mono ?_
  clear HC
  rintro e w1 ⟨rfl, v1, hs⟩
  have HS := Lib.hid hs
  clear hs
  go_wp2
  exact bodyPost_ret (v := .tuple #[]) (results_none rfl _ _ _) rfl ⟨rfl, v1, HS.out⟩
set_option maxRecDepth 100000 in
set_option maxHeartbeats 8000000 in
theorem put6 (w0 : World) (wb : Nat) (v : Value) (L : List Int) (b o : Nat) (x : Nd) (W : World) (h : WrAt w0.heap.size W wb v L) (hN : Src1 w0 b o x W) (hx : NdWr x) (hl : L.length ≤ 4294967296) : Calls Try.prog 90 #[.pointer (some ⟨wb, 0, none⟩), .pointer (some ⟨b, o, none⟩)] W (WrPost w0.heap.size W wb v (L ++ partB x 6)) := by
  obtain ⟨kv, cv, hkv, hcv, hc⟩ := hN.now
  have zb := hN.ltW
  have c9 : W.cell? ⟨b, o + 9, none⟩ = some (.int .i8 x.ih.k) := hc 9 (by omega)
  have c10 : W.cell? ⟨b, o + 10, none⟩ = some (.int .i64 x.ih.n) := hc 10 (by omega)
  have c11 : W.cell? ⟨b, o + 11, none⟩ = some (.int .i64 x.ih.d) := hc 11 (by omega)
  have c12 : W.cell? ⟨b, o + 12, none⟩ = some (.int .i64 x.ih.lo) := hc 12 (by omega)
  have c13 : W.cell? ⟨b, o + 13, none⟩ = some (.int .i64 x.ih.hi) := hc 13 (by omega)
  have HC := Lib.hid (item_any w0.heap.size wb v L x.ih W h hx.fit.ih hx.ihk (by omega))
  clear h hx hN hkv hcv hc
  go_enter Try.func90, Try.ntmps90
  go_wp2_with fail
  refine HC.out.mono ?_
  clear HC
  rintro e w1 ⟨rfl, v1, hs⟩
  have HS := Lib.hid hs
  clear hs
  go_wp2
  exact bodyPost_ret (v := .tuple #[]) (results_none rfl _ _ _) rfl ⟨rfl, v1, HS.out⟩
set_option maxRecDepth 100000 in
set_option maxHeartbeats 8000000 in
theorem put7 (w0 : World) (wb : Nat) (v : Value) (L : List Int) (b o : Nat) (x : Nd) (W : World) (h : WrAt w0.heap.size W wb v L) (hN : Src1 w0 b o x W) (hx : NdWr x) (hl : L.length ≤ 4294967296) : Calls Try.prog 92 #[.pointer (some ⟨wb, 0, none⟩), .pointer (some ⟨b, o, none⟩)] W (WrPost w0.heap.size W wb v (L ++ partB x 7)) := by
  obtain ⟨kv, cv, hkv, hcv, hc⟩ := hN.now
  have zb := hN.ltW
  have c14 : W.cell? ⟨b, o + 14, none⟩ = some (.int .i64 x.gap) := hc 14 (by omega)
  have HC := Lib.hid (number_any w0.heap.size wb v L x.gap W h hx.fit.gap.lo hx.fit.gap.hi (by omega))
  clear h hx hN hkv hcv hc
  go_enter Try.func92, Try.ntmps92
  go_wp2_with fail
  refine HC.out.mono ?_
  clear HC
  rintro e w1 ⟨rfl, v1, hs⟩
  have HS := Lib.hid hs
  clear hs
  go_wp2
  exact bodyPost_ret (v := .tuple #[]) (results_none rfl _ _ _) rfl ⟨rfl, v1, HS.out⟩
set_option maxRecDepth 100000 in
set_option maxHeartbeats 8000000 in
theorem put4 (w0 : World) (wb : Nat) (v : Value) (L : List Int) (b o : Nat) (x : Nd) (W : World) (h : WrAt w0.heap.size W wb v L) (hN : Src1 w0 b o x W) (hx : NdWr x) (hl : L.length ≤ 4294967296) : Calls Try.prog 84 #[.pointer (some ⟨wb, 0, none⟩), .pointer (some ⟨b, o, none⟩)] W (WrPost w0.heap.size W wb v (L ++ partB x 4)) := by
  obtain ⟨kv, cv, hkv, hcv, hc⟩ := hN.now
  have zb := hN.ltW
  obtain ⟨pk, ck, rfl, hk1, hk2, _, _⟩ := hkv
  have c3 : W.cell? ⟨b, o + 3, none⟩ = some (.slice pk x.kids.length ck) := hc 3 (by omega)
  have hkl := hx.kidl
  have HKN := Lib.hid hx.fit.kids
  have HN0 := Lib.hid hN
  have HC := Lib.hid (number_any w0.heap.size wb v L x.kids.length W h (by omega) (by omega) (by omega))
  have HKC := Lib.hid (fun (w' : World) (hb : Below w0.heap.size W w') => show w'.cell? ⟨b, o + 3, none⟩ = some (.slice pk x.kids.length ck) ∧ IntsAt w' (.slice pk x.kids.length ck) x.kids by
    have h1 := (hN.next hb).now
    have h2 : w'.cell? ⟨b, o + 3, none⟩ = some (.slice pk x.kids.length ck) := by rw [(bcell hb).1 _ _ hN.lt]; exact c3
    obtain ⟨kv', cv', hk', _, hc'⟩ := h1
    have e : kv' = .slice pk x.kids.length ck := by
      have := hc' 3 (by omega)
      rw [h2] at this
      exact (Option.some.inj this).symm
    rw [e] at hk'
    exact ⟨h2, hk'⟩)
  have HPB := Lib.hid (show L ++ partB x 4 = L ++ numB x.kids.length ++ kidsB x.kids by rw [List.append_assoc]; rfl)
  rw [HPB.out]
  have hn11 := numB_len (x.kids.length : Int)
  have hkb : ∀ j, (kidsB (x.kids.take j)).length ≤ 11 * x.kids.length := fun j => Nat.le_trans (kidsB_len _) (Nat.mul_le_mul_left _ (by rw [List.length_take]; omega))
  have HT := Lib.hid (fun j (h : j < x.kids.length) => kidsB_take h)
  have HM := Lib.hid (fun j (h : j < x.kids.length) => HKN.out _ (mem_getD 0 h))
  have HALL := Lib.hid (show kidsB (x.kids.take x.kids.length) = kidsB x.kids by rw [List.take_length])
  clear h hx hN hcv hc HPB HKN
  generalize hKS : x.kids = ks at *
  obtain ⟨L0, hL0⟩ : ∃ L0, L0 = L ++ numB ks.length := ⟨_, rfl⟩
  have hL0l : L0.length ≤ 4294967307 := by rw [hL0, List.length_append]; omega
  rw [← hL0]
  rw [← hL0] at HC
  clear hL0 hn11
  go_enter Try.func84, Try.ntmps84
  go_wp2_with fail
  refine HC.out.mono ?_
  clear HC
  rintro e w1 ⟨rfl, v1, hs⟩
  have HS := Lib.hid hs
  have BB := hs.be
  have zb1 : b < w1.heap.size := Nat.lt_of_lt_of_le zb hs.sz
  obtain ⟨d3, _⟩ := HKC.out _ BB
  clear hs c3 BB zb
  go_wp2
  go_loopw [18] (fun i wr => ∃ (j : Nat) (v2 : Value), j ≤ ks.length ∧ i = .int .i64 j ∧ RowKit.Hid (WrS w0.heap.size W wb v (L0 ++ kidsB (ks.take j)) v2 wr)) (fun i _ => ks.length - (intOf i).toNat)
  case atStart => exact ⟨0, v1, Nat.zero_le _, rfl, Lib.hid (by simpa [kidsB] using HS.out)⟩
  case round =>
    clear HS d3 zb1
    obtain ⟨j, v2, hj, rfl, HS⟩ := hrel
    have BR := HS.out.be
    by_cases hlt : j < ks.length
    · have hji : (j : Int) < (ks.length : Int) := by omega
      obtain ⟨_, p', c', e', _, _, _, hkc⟩ := HKC.out _ BR
      injection e' with e1 _ e3
      subst e1 e3
      obtain ⟨bk, ok, rfl, hbk, hkc⟩ := hkc (by omega)
      have ck0 := hkc j hlt
      have hm := HM.out j hlt
      have HC2 := Lib.hid (number_any w0.heap.size wb v2 _ (ks.getD j 0) wr HS.out.at_ hm.lo hm.hi (by rw [List.length_append]; have := hkb j; omega))
      have HT2 := Lib.hid (HT.out j hlt)
      clear hkc hm BR
      generalize ks.getD j 0 = kq at *
      go_wp2_with fail
      refine HC2.out.mono ?_
      clear HC2
      rintro e w2 ⟨rfl, v3, hs⟩
      rw [List.append_assoc, ← HT2.out] at hs
      have HS2 := Lib.hid (HS.out.trans hs)
      clear hs HS
      go_wp2
      go_roundw
      case rel => exact ⟨j + 1, v3, by omega, by go_num, HS2⟩
      case measure => simp [intOf]; omega
    · obtain rfl : j = ks.length := by omega
      clear BR
      go_wp2
      exact bodyPost_ret (v := .tuple #[]) (results_none rfl _ _ _) rfl (WrPost.self (by rw [← HALL.out]; exact HS.out))
set_option maxRecDepth 100000 in
set_option maxHeartbeats 8000000 in
theorem put11 (w0 : World) (wb : Nat) (v : Value) (L : List Int) (b o : Nat) (x : Nd) (W : World) (h : WrAt w0.heap.size W wb v L) (hN : Src1 w0 b o x W) (hx : NdWr x) (hl : L.length ≤ 4294967296) : Calls Try.prog 100 #[.pointer (some ⟨wb, 0, none⟩), .pointer (some ⟨b, o, none⟩)] W (WrPost w0.heap.size W wb v (L ++ partB x 11)) := by
  obtain ⟨kv, cv, hkv, hcv, hc⟩ := hN.now
  have zb := hN.ltW
  obtain ⟨pk, ck, rfl, hk1, hk2, _, _⟩ := hcv
  have c28 : W.cell? ⟨b, o + 28, none⟩ = some (.slice pk x.cols.length ck) := hc 28 (by omega)
  have hkl := hx.coll
  have HKN := Lib.hid hx.fit.cols
  have HK0 := Lib.hid hx.colk
  have HN0 := Lib.hid hN
  have HC := Lib.hid (number_any w0.heap.size wb v L x.cols.length W h (by omega) (by omega) (by omega))
  have HKC := Lib.hid (fun (w' : World) (hb : Below w0.heap.size W w') => show w'.cell? ⟨b, o + 28, none⟩ = some (.slice pk x.cols.length ck) ∧ ItsAt w' (.slice pk x.cols.length ck) x.cols by
    have h1 := (hN.next hb).now
    have h2 : w'.cell? ⟨b, o + 28, none⟩ = some (.slice pk x.cols.length ck) := by rw [(bcell hb).1 _ _ hN.lt]; exact c28
    obtain ⟨kv', cv', _, hk', hc'⟩ := h1
    have e : cv' = .slice pk x.cols.length ck := by
      have := hc' 28 (by omega)
      rw [h2] at this
      exact (Option.some.inj this).symm
    rw [e] at hk'
    exact ⟨h2, hk'⟩)
  have HPB := Lib.hid (show L ++ partB x 11 = L ++ numB x.cols.length ++ itsB x.cols by rw [List.append_assoc]; rfl)
  rw [HPB.out]
  have hn11 := numB_len (x.cols.length : Int)
  have hkb : ∀ j, (itsB (x.cols.take j)).length ≤ 45 * x.cols.length := fun j => Nat.le_trans (itsB_len _) (Nat.mul_le_mul_left _ (by rw [List.length_take]; omega))
  have HT := Lib.hid (fun j (h : j < x.cols.length) => itsB_take h)
  have HM := Lib.hid (fun j (h : j < x.cols.length) => HKN.out _ (mem_getD zIt h))
  have HM0 := Lib.hid (fun j (h : j < x.cols.length) => HK0.out _ (mem_getD zIt h))
  have HALL := Lib.hid (show itsB (x.cols.take x.cols.length) = itsB x.cols by rw [List.take_length])
  clear h hx hN hkv hc HPB HKN HK0
  generalize hKS : x.cols = ks at *
  obtain ⟨L0, hL0⟩ : ∃ L0, L0 = L ++ numB ks.length := ⟨_, rfl⟩
  have hL0l : L0.length ≤ 4294967307 := by rw [hL0, List.length_append]; omega
  rw [← hL0]
  rw [← hL0] at HC
  clear hL0 hn11
  go_enter Try.func100, Try.ntmps100
  go_wp2_with fail
  refine HC.out.mono ?_
  clear HC
  rintro e w1 ⟨rfl, v1, hs⟩
  have HS := Lib.hid hs
  have BB := hs.be
  have zb1 : b < w1.heap.size := Nat.lt_of_lt_of_le zb hs.sz
  obtain ⟨d3, _⟩ := HKC.out _ BB
  clear hs c28 BB zb
  go_wp2
  go_loopw [18] (fun i wr => ∃ (j : Nat) (v2 : Value), j ≤ ks.length ∧ i = .int .i64 j ∧ RowKit.Hid (WrS w0.heap.size W wb v (L0 ++ itsB (ks.take j)) v2 wr)) (fun i _ => ks.length - (intOf i).toNat)
  case atStart => exact ⟨0, v1, Nat.zero_le _, rfl, Lib.hid (by simpa [itsB] using HS.out)⟩
  case round =>
    clear HS d3 zb1
    obtain ⟨j, v2, hj, rfl, HS⟩ := hrel
    have BR := HS.out.be
    by_cases hlt : j < ks.length
    · have hji : (j : Int) < (ks.length : Int) := by omega
      obtain ⟨_, p', c', e', _, _, _, hkc⟩ := HKC.out _ BR
      injection e' with e1 _ e3
      subst e1 e3
      obtain ⟨bk, ok, rfl, hbk, hkc⟩ := hkc (by omega)
      have i0 : wr.cell? ⟨bk, ok + j * 5, none⟩ = some (.int .i8 (ks.getD j zIt).k) := hkc j hlt 0 (by omega)
      have i1 : wr.cell? ⟨bk, ok + j * 5 + 1, none⟩ = some (.int .i64 (ks.getD j zIt).n) := hkc j hlt 1 (by omega)
      have i2 : wr.cell? ⟨bk, ok + j * 5 + 2, none⟩ = some (.int .i64 (ks.getD j zIt).d) := hkc j hlt 2 (by omega)
      have i3 : wr.cell? ⟨bk, ok + j * 5 + 3, none⟩ = some (.int .i64 (ks.getD j zIt).lo) := hkc j hlt 3 (by omega)
      have i4 : wr.cell? ⟨bk, ok + j * 5 + 4, none⟩ = some (.int .i64 (ks.getD j zIt).hi) := hkc j hlt 4 (by omega)
      have hm := HM.out j hlt
      have BA := below_al (Below.refl wr.heap.size wr) (.cells #[.int .i8 (ks.getD j zIt).k, .int .i64 (ks.getD j zIt).n, .int .i64 (ks.getD j zIt).d, .int .i64 (ks.getD j zIt).lo, .int .i64 (ks.getD j zIt).hi] 57)
      have HC2 := Lib.hid (item_any w0.heap.size wb v2 _ (ks.getD j zIt) _ (HS.out.at_.later BA) hm (HM0.out j hlt) (by rw [List.length_append]; have := hkb j; omega))
      have hzz : w0.heap.size ≤ wr.heap.size := by have := HS.out.at_.zb; have := HS.out.at_.lt; omega
      have HT2 := Lib.hid (HT.out j hlt)
      have HBA := Lib.hid BA
      clear hkc hm BR BA
      generalize ks.getD j zIt = kq at *
      obtain ⟨kk, kn, kd, klo, khi⟩ := kq
      go_wp2_with fail
      refine HC2.out.mono ?_
      clear HC2
      rintro e w2 ⟨rfl, v3, hs⟩
      rw [List.append_assoc, ← HT2.out] at hs
      have HS2 := Lib.hid (HS.out.trans (hs.from HBA.out hzz))
      clear hs HS HBA
      go_wp2
      go_roundw
      case rel => exact ⟨j + 1, v3, by omega, by go_num, HS2⟩
      case measure => simp [intOf]; omega
    · obtain rfl : j = ks.length := by omega
      clear BR
      go_wp2
      exact bodyPost_ret (v := .tuple #[]) (results_none rfl _ _ _) rfl (WrPost.self (by rw [← HALL.out]; exact HS.out))
set_option maxRecDepth 100000 in
set_option maxHeartbeats 8000000 in
theorem put8 (w0 : World) (wb : Nat) (v : Value) (L : List Int) (b o : Nat) (x : Nd) (W : World) (h : WrAt w0.heap.size W wb v L) (hN : Src1 w0 b o x W) (hx : NdWr x) (hl : L.length ≤ 4294967296) : Calls Try.prog 94 #[.pointer (some ⟨wb, 0, none⟩), .pointer (some ⟨b, o, none⟩)] W (WrPost w0.heap.size W wb v (L ++ partB x 8)) := by
  obtain ⟨kv, cv, hkv, hcv, hc⟩ := hN.now
  have zb := hN.ltW
  have c15 : W.cell? ⟨b, o + 15, none⟩ = some (.int .i64 x.p0) := hc 15 (by omega)
  have c16 : W.cell? ⟨b, o + 16, none⟩ = some (.int .i64 x.p1) := hc 16 (by omega)
  have c17 : W.cell? ⟨b, o + 17, none⟩ = some (.int .i64 x.p2) := hc 17 (by omega)
  have c18 : W.cell? ⟨b, o + 18, none⟩ = some (.int .i64 x.p3) := hc 18 (by omega)
  have HW := Lib.hid h
  have HX := Lib.hid hx
  clear h hx hN hkv hcv hc
  have hlen : ∀ n, (numB n).length ≤ 11 := fun n => numF_len 10 _
  have ix0 : ∀ w, (Instr.index 58 (.agg #[.int .i64 x.p0, .int .i64 x.p1, .int .i64 x.p2, .int .i64 x.p3]) (.int .i64 0)).run Try.prog w = .ok (.int .i64 x.p0) w := fun w => by kernel_rfl
  have ix1 : ∀ w, (Instr.index 58 (.agg #[.int .i64 x.p0, .int .i64 x.p1, .int .i64 x.p2, .int .i64 x.p3]) (.int .i64 1)).run Try.prog w = .ok (.int .i64 x.p1) w := fun w => by kernel_rfl
  have ix2 : ∀ w, (Instr.index 58 (.agg #[.int .i64 x.p0, .int .i64 x.p1, .int .i64 x.p2, .int .i64 x.p3]) (.int .i64 2)).run Try.prog w = .ok (.int .i64 x.p2) w := fun w => by kernel_rfl
  have ix3 : ∀ w, (Instr.index 58 (.agg #[.int .i64 x.p0, .int .i64 x.p1, .int .i64 x.p2, .int .i64 x.p3]) (.int .i64 3)).run Try.prog w = .ok (.int .i64 x.p3) w := fun w => by kernel_rfl
  go_enter Try.func94, Try.ntmps94
  go_wp2
  refine wp_loop_rounds 5 ?_
  rw [rounds_succ]
  have HC0 := Lib.hid (number_any w0.heap.size wb v L x.p0 W HW.out (HX.out.fit.p0).lo (HX.out.fit.p0).hi (by omega))
  go_wp2_with fail
  refine HC0.out.mono ?_
  clear HC0
  obtain ⟨L1, hL1⟩ : ∃ l, l = L ++ numB x.p0 := ⟨_, rfl⟩
  rw [← hL1]
  have hl1 : L1.length ≤ 4294967296 + 11 := by rw [hL1, List.length_append]; have := hlen x.p0; omega
  have HL1 := Lib.hid hL1
  clear hL1
  rintro e w1 ⟨rfl, v1, hs⟩
  have HS1 := Lib.hid hs
  clear hs
  go_wp2
  rw [rounds_succ]
  have HC1 := Lib.hid (number_any w0.heap.size wb v1 L1 x.p1 w1 HS1.out.at_ (HX.out.fit.p1).lo (HX.out.fit.p1).hi (by omega))
  go_wp2_with fail
  refine HC1.out.mono ?_
  clear HC1
  obtain ⟨L2, hL2⟩ : ∃ l, l = L1 ++ numB x.p1 := ⟨_, rfl⟩
  rw [← hL2]
  have hl2 : L2.length ≤ 4294967296 + 22 := by rw [hL2, List.length_append]; have := hlen x.p1; omega
  have HL2 := Lib.hid hL2
  clear hL2
  rintro e w2 ⟨rfl, v2, hs⟩
  have HS2 := Lib.hid (HS1.out.trans hs)
  clear hs
  go_wp2
  rw [rounds_succ]
  have HC2 := Lib.hid (number_any w0.heap.size wb v2 L2 x.p2 w2 HS2.out.at_ (HX.out.fit.p2).lo (HX.out.fit.p2).hi (by omega))
  go_wp2_with fail
  refine HC2.out.mono ?_
  clear HC2
  obtain ⟨L3, hL3⟩ : ∃ l, l = L2 ++ numB x.p2 := ⟨_, rfl⟩
  rw [← hL3]
  have hl3 : L3.length ≤ 4294967296 + 33 := by rw [hL3, List.length_append]; have := hlen x.p2; omega
  have HL3 := Lib.hid hL3
  clear hL3
  rintro e w3 ⟨rfl, v3, hs⟩
  have HS3 := Lib.hid (HS2.out.trans hs)
  clear hs
  go_wp2
  rw [rounds_succ]
  have HC3 := Lib.hid (number_any w0.heap.size wb v3 L3 x.p3 w3 HS3.out.at_ (HX.out.fit.p3).lo (HX.out.fit.p3).hi (by omega))
  go_wp2_with fail
  refine HC3.out.mono ?_
  clear HC3
  obtain ⟨L4, hL4⟩ : ∃ l, l = L3 ++ numB x.p3 := ⟨_, rfl⟩
  rw [← hL4]
  have hl4 : L4.length ≤ 4294967296 + 44 := by rw [hL4, List.length_append]; have := hlen x.p3; omega
  have HL4 := Lib.hid hL4
  clear hL4
  rintro e w4 ⟨rfl, v4, hs⟩
  have HS4 := Lib.hid (HS3.out.trans hs)
  clear hs
  go_wp2
  rw [rounds_succ]
  go_wp2
  have E : L ++ partB x 8 = L4 := by rw [HL4.out, HL3.out, HL2.out, HL1.out]; simp [partB]
  rw [E]
  exact bodyPost_ret (v := .tuple #[]) (results_none rfl _ _ _) rfl ⟨rfl, v4, HS4.out⟩
set_option maxRecDepth 100000 in
set_option maxHeartbeats 8000000 in
theorem put12 (w0 : World) (wb : Nat) (v : Value) (L : List Int) (b o : Nat) (x : Nd) (W : World) (h : WrAt w0.heap.size W wb v L) (hN : Src1 w0 b o x W) (hx : NdWr x) (hl : L.length ≤ 4294967296) : Calls Try.prog 102 #[.pointer (some ⟨wb, 0, none⟩), .pointer (some ⟨b, o, none⟩)] W (WrPost w0.heap.size W wb v (L ++ partB x 12)) := by
  obtain ⟨kv, cv, hkv, hcv, hc⟩ := hN.now
  have zb := hN.ltW
  have c29 : W.cell? ⟨b, o + 29, none⟩ = some (.int .i64 x.x0) := hc 29 (by omega)
  have c30 : W.cell? ⟨b, o + 30, none⟩ = some (.int .i64 x.x1) := hc 30 (by omega)
  have c31 : W.cell? ⟨b, o + 31, none⟩ = some (.int .i64 x.x2) := hc 31 (by omega)
  have c32 : W.cell? ⟨b, o + 32, none⟩ = some (.int .i64 x.x3) := hc 32 (by omega)
  have HW := Lib.hid h
  have HX := Lib.hid hx
  clear h hx hN hkv hcv hc
  have hlen : ∀ n, (sgnB n).length ≤ 11 := fun n => numF_len 10 _
  have ix0 : ∀ w, (Instr.index 58 (.agg #[.int .i64 x.x0, .int .i64 x.x1, .int .i64 x.x2, .int .i64 x.x3]) (.int .i64 0)).run Try.prog w = .ok (.int .i64 x.x0) w := fun w => by kernel_rfl
  have ix1 : ∀ w, (Instr.index 58 (.agg #[.int .i64 x.x0, .int .i64 x.x1, .int .i64 x.x2, .int .i64 x.x3]) (.int .i64 1)).run Try.prog w = .ok (.int .i64 x.x1) w := fun w => by kernel_rfl
  have ix2 : ∀ w, (Instr.index 58 (.agg #[.int .i64 x.x0, .int .i64 x.x1, .int .i64 x.x2, .int .i64 x.x3]) (.int .i64 2)).run Try.prog w = .ok (.int .i64 x.x2) w := fun w => by kernel_rfl
  have ix3 : ∀ w, (Instr.index 58 (.agg #[.int .i64 x.x0, .int .i64 x.x1, .int .i64 x.x2, .int .i64 x.x3]) (.int .i64 3)).run Try.prog w = .ok (.int .i64 x.x3) w := fun w => by kernel_rfl
  go_enter Try.func102, Try.ntmps102
  go_wp2
  refine wp_loop_rounds 5 ?_
  rw [rounds_succ]
  have HC0 := Lib.hid (signed_any w0.heap.size wb v L x.x0 W HW.out HX.out.fit.pl.1.1 HX.out.fit.pl.1.2 (by omega))
  go_wp2_with fail
  refine HC0.out.mono ?_
  clear HC0
  obtain ⟨L1, hL1⟩ : ∃ l, l = L ++ sgnB x.x0 := ⟨_, rfl⟩
  rw [← hL1]
  have hl1 : L1.length ≤ 4294967296 + 11 := by rw [hL1, List.length_append]; have := hlen x.x0; omega
  have HL1 := Lib.hid hL1
  clear hL1
  rintro e w1 ⟨rfl, v1, hs⟩
  have HS1 := Lib.hid hs
  clear hs
  go_wp2
  rw [rounds_succ]
  have HC1 := Lib.hid (signed_any w0.heap.size wb v1 L1 x.x1 w1 HS1.out.at_ HX.out.fit.pl.2.1.1 HX.out.fit.pl.2.1.2 (by omega))
  go_wp2_with fail
  refine HC1.out.mono ?_
  clear HC1
  obtain ⟨L2, hL2⟩ : ∃ l, l = L1 ++ sgnB x.x1 := ⟨_, rfl⟩
  rw [← hL2]
  have hl2 : L2.length ≤ 4294967296 + 22 := by rw [hL2, List.length_append]; have := hlen x.x1; omega
  have HL2 := Lib.hid hL2
  clear hL2
  rintro e w2 ⟨rfl, v2, hs⟩
  have HS2 := Lib.hid (HS1.out.trans hs)
  clear hs
  go_wp2
  rw [rounds_succ]
  have HC2 := Lib.hid (signed_any w0.heap.size wb v2 L2 x.x2 w2 HS2.out.at_ HX.out.fit.pl.2.2.1.1 HX.out.fit.pl.2.2.1.2 (by omega))
  go_wp2_with fail
  refine HC2.out.mono ?_
  clear HC2
  obtain ⟨L3, hL3⟩ : ∃ l, l = L2 ++ sgnB x.x2 := ⟨_, rfl⟩
  rw [← hL3]
  have hl3 : L3.length ≤ 4294967296 + 33 := by rw [hL3, List.length_append]; have := hlen x.x2; omega
  have HL3 := Lib.hid hL3
  clear hL3
  rintro e w3 ⟨rfl, v3, hs⟩
  have HS3 := Lib.hid (HS2.out.trans hs)
  clear hs
  go_wp2
  rw [rounds_succ]
  have HC3 := Lib.hid (signed_any w0.heap.size wb v3 L3 x.x3 w3 HS3.out.at_ HX.out.fit.pl.2.2.2.1 HX.out.fit.pl.2.2.2.2 (by omega))
  go_wp2_with fail
  refine HC3.out.mono ?_
  clear HC3
  obtain ⟨L4, hL4⟩ : ∃ l, l = L3 ++ sgnB x.x3 := ⟨_, rfl⟩
  rw [← hL4]
  have hl4 : L4.length ≤ 4294967296 + 44 := by rw [hL4, List.length_append]; have := hlen x.x3; omega
  have HL4 := Lib.hid hL4
  clear hL4
  rintro e w4 ⟨rfl, v4, hs⟩
  have HS4 := Lib.hid (HS3.out.trans hs)
  clear hs
  go_wp2
  rw [rounds_succ]
  go_wp2
  have E : L ++ partB x 12 = L4 := by rw [HL4.out, HL3.out, HL2.out, HL1.out]; simp [partB]
  rw [E]
  exact bodyPost_ret (v := .tuple #[]) (results_none rfl _ _ _) rfl ⟨rfl, v4, HS4.out⟩
end Go.Proofs.Ytcihihncgpddfaa
