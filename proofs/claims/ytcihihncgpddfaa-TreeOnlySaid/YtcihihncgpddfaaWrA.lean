/- Trees' bytes: the writer: its state, contracts of octet, number, signed, text, item. -/
import Derived.Test.YtcihihncgpddfaaEncL
import Derived.Test.YtcihihncgpddfaaLntO
import Derived.Test.YtcihihncgpddfaaAppK
import Derived.Lib.AppendStr
import Derived.Lib.Zigzag
import Derived.LoopN
import Derived.Lib.QuoteBits
import Derived.Deep.OwnRows
namespace Go.Proofs.Ytcihihncgpddfaa
open Go.RowKit Go.Deep
set_option linter.unusedVariables false
set_option linter.unusedSimpArgs false

def u8L (L : List Int) : List Value := L.map (Value.int .u8)
theorem u8L_len (L : List Int) : (u8L L).length = L.length := by simp [u8L]
theorem u8L_app (L M : List Int) : u8L (L ++ M) = u8L L ++ u8L M := by simp [u8L]
theorem infoU8_ : (Try.prog.info? 5).map (fun i => (i.zero, i.size, i.bytes)) = some (some (.int .u8 0), 1, 1) := by kernel_rfl
/-- a writer: its block, the bytes that it owns -/
structure WrAt (base : Nat) (W : World) (wb : Nat) (v : Value) (L : List Int) : Prop where
  blk : W.heap[wb]? = some (.cells #[v] 83 (0, 0))
  own : W.ownsRow base 5 1 v L.length (u8L L)
  zb : base ≤ wb
/-- what a writer's work makes of a world -/
structure WrS (base : Nat) (W : World) (wb : Nat) (v : Value) (L : List Int) (v' : Value) (W' : World) : Prop where
  at_ : WrAt base W' wb v' L
  be : Below base W W'
  sz : W.heap.size ≤ W'.heap.size
  fr : ∀ b, b < W.heap.size → b ≠ wb → v.ownBlock ≠ some b → W'.heap[b]? = W.heap[b]?
  gr : ∀ b, v'.ownBlock = some b → v.ownBlock = some b ∨ W.heap.size ≤ b
theorem row_blk_ne {w : World} {base : Nat} {t t' : TypeId} {k : Nat} {v : Value} {n g : Nat} {xs : List Value} {cur : Array Value} {fr : Nat × Nat} (h : w.ownsRow base t k v n xs) (hh : w.heap[g]? = some (.cells cur t' fr)) (hne : t ≠ t') : v.ownBlock ≠ some g := by
  rcases h.2 with ⟨rfl, _⟩ | ⟨g', c, cur', rfl, _, hb, _⟩
  · simp [Value.ownBlock]
  · simp only [Value.ownBlock]
    intro e
    injection e with e
    subst e
    rw [hb] at hh
    injection hh with hh
    injection hh with _ hh
    exact hne hh
theorem WrAt.ne {base : Nat} {W : World} {wb : Nat} {v : Value} {L : List Int} (h : WrAt base W wb v L) : v.ownBlock ≠ some wb := row_blk_ne h.own h.blk (by decide)
theorem WrAt.lt {base : Nat} {W : World} {wb : Nat} {v : Value} {L : List Int} (h : WrAt base W wb v L) : wb < W.heap.size := lt_of_block h.blk
theorem WrAt.later {base : Nat} {W W' : World} {wb : Nat} {v : Value} {L : List Int} (h : WrAt base W wb v L) (hb : Below W.heap.size W W') : WrAt base W' wb v L :=
  ⟨(hb.block _ h.lt).trans h.blk, row_later h.own hb, h.zb⟩
theorem WrS.refl {base : Nat} {W : World} {wb : Nat} {v : Value} {L : List Int} (h : WrAt base W wb v L) : WrS base W wb v L v W := ⟨h, Below.refl _ _, Nat.le_refl _, fun _ _ _ _ => rfl, fun b hb => .inl hb⟩
theorem WrS.trans {base : Nat} {W W1 W2 : World} {wb : Nat} {v v1 v2 : Value} {L L1 : List Int} (h : WrS base W wb v L v1 W1) (h' : WrS base W1 wb v1 L1 v2 W2) : WrS base W wb v L1 v2 W2 := by
  have z := h.sz
  have z' := h'.sz
  refine ⟨h'.at_, h.be.trans h'.be, by omega, fun b hb h1 h2 => ?_, fun b hb => ?_⟩
  · rw [h'.fr b (by omega) h1 (fun e => (h.gr b e).elim h2 (fun h => by omega))]
    exact h.fr b hb h1 h2
  · rcases h'.gr b hb with e | e
    · exact h.gr b e
    · exact .inr (by omega)
theorem WrS.from {base : Nat} {W W1 W2 : World} {wb : Nat} {v v2 : Value} {L : List Int} (h : WrS base W1 wb v L v2 W2) (hb : Below W.heap.size W W1) (hz : base ≤ W.heap.size) : WrS base W wb v L v2 W2 := by
  have z := hb.size
  have z' := h.sz
  refine ⟨h.at_, (hb.mono hz).trans h.be, by omega, fun b hb' h1 h2 => ?_, fun b hb' => ?_⟩
  · rw [h.fr b (by omega) h1 h2]
    exact hb.block b hb'
  · rcases h.gr b hb' with e | e
    · exact .inl e
    · exact .inr (by omega)
theorem one_set {w : World} {b : Nat} {x v : Value} {t : TypeId} (h : w.heap[b]? = some (.cells #[x] t (0, 0))) : (w.setCell ⟨b, 0, none⟩ v).heap[b]? = some (.cells #[v] t (0, 0)) := by
  have hlt := lt_of_block h
  have h' : w.heap[b] = .cells #[x] t (0, 0) := by simpa [Array.getElem?_eq_getElem hlt] using h
  show (w.heap.modify b _)[b]? = _
  rw [Array.getElem?_eq_getElem (by simpa using hlt), Array.getElem_modify_self, h']
  rfl
/-- bytes have been appended, the field has been set -/
theorem WrAt.push {base : Nat} {W W1 W2 : World} {wb : Nat} {v v' : Value} {L N : List Int} {m : Nat} {xs : List Value} (h : WrAt base W wb v L) (B1 : Below W.heap.size W W1) (own : W2.ownsRow base 5 1 v' m xs) (hm : m = (L ++ N).length) (hxs : xs = u8L (L ++ N)) (gr : W1.grownBy W2 v.ownBlock) (pl : v'.ownBlock = v.ownBlock ∨ v'.ownBlock = some W1.heap.size) : WrS base W wb v (L ++ N) v' (W2.setCell ⟨wb, 0, none⟩ v') := by
  have z1 := B1.size
  have zg := gr.size
  have zw := h.lt
  have hne := h.ne
  have hb2 : W2.heap[wb]? = some (.cells #[v] 83 (0, 0)) := by rw [gr.block wb (by omega) (fun e => hne e.symm)]; exact (B1.block _ zw).trans h.blk
  have hne' : v'.ownBlock ≠ some wb := row_blk_ne own hb2 (by decide)
  have hzb : base ≤ W.heap.size := by have := h.zb; omega
  have hB : Below base W W2 := Below.grown (B1.mono hzb) gr (by omega) (fun k hk => (row_lt h.own k hk).2)
  subst hm hxs
  refine ⟨⟨one_set hb2, ownsRow_setCell_other own hne' _, h.zb⟩, hB.setCell (p := ⟨wb, 0, none⟩) h.zb v', by simp; omega, fun b hb h1 h2 => ?_, fun b hb => ?_⟩
  · rw [blk_setCell_other _ _ _ _ (by simpa using h1), gr.block b (by omega) (fun e => h2 e.symm), B1.block b hb]
  · rcases pl with e | e
    · rw [e] at hb; exact .inl hb
    · rw [e] at hb; injection hb with hb; exact .inr (by omega)
theorem WrAt.cells {base : Nat} {W W1 W2 : World} {wb : Nat} {v : Value} {L : List Int} (h : WrAt base W wb v L) (B1 : Below W.heap.size W W1) (gr : W1.grownBy W2 v.ownBlock) : W2.cell? ⟨wb, 0, none⟩ = some v ∧ W2.frozen? ⟨wb, 0, none⟩ = false ∧ wb < W2.heap.size := by
  have z1 := B1.size
  have zw := h.lt
  have zg := gr.size
  have hne := h.ne
  have hb2 : W2.heap[wb]? = some (.cells #[v] 83 (0, 0)) := by rw [gr.block wb (by omega) (fun e => hne e.symm)]; exact (B1.block _ zw).trans h.blk
  exact ⟨cell_of_one hb2, by unfold World.frozen?; rw [hb2]; simp, by omega⟩
theorem row_slice {w : World} {base : Nat} {t : TypeId} {k n : Nat} {v : Value} {xs : List Value} (h : w.ownsRow base t k v n xs) : ∃ p n c, v = .slice p n c := by
  rcases row_form h with ⟨rfl, _⟩ | ⟨g, c, rfl, _⟩
  · exact ⟨_, _, _, rfl⟩
  · exact ⟨_, _, _, rfl⟩
def WrPost (base : Nat) (W : World) (wb : Nat) (v : Value) (L : List Int) (e : Ending) (W' : World) : Prop := e = .returned (.tuple #[]) ∧ ∃ v', WrS base W wb v L v' W'
theorem or_128 : ∀ n : Fin 256, bits BinOp.or IntKind.u8 (n.val : Int) 128 = ((n.val % 128 + 128 : Nat) : Int) := by decide +kernel
section
variable {P : Program}
/-- append of a string's bytes: where the new row lies -/
theorem append_string_at {ops : Array Oper} {rest : List Oper} {o : Oper} {a : Act} {w : World} {Q : Exit → Act → World → Prop} (hgd : o.guard = none) (sl x : Operand) (t u : TypeId)
    (ho : o.op = .call { callee := .builtin .append, args := #[sl, x], argTypes := #[t, u] })
    (base : Nat) (e : TypeId) (i : TypeInfo) (ht : P.underlying t = some (.slice e)) (hu : P.underlying u = some .string) (hi : P.info? e = some i) (hz : i.zero = some (.int .u8 0))
    (hsize : i.size = 1) (hby : i.bytes = 1)
    (v : Value) (n : Nat) (xs : List Value) (hs : a.eval sl = v) (hown : w.ownsRow base e 1 v n xs) (s : ByteArray) (hx : a.eval x = .string s)
    (h63 : n + s.size ≤ maxLen) (hbytes : n + s.size ≤ 140737488355328) (hbase : base ≤ w.heap.size)
    (h : ∀ v' w', w'.ownsRow base e 1 v' (n + s.size) (xs ++ Lib.strCells s) → w.grownBy w' v.ownBlock → (v'.ownBlock = v.ownBlock ∨ v'.ownBlock = some w.heap.size) → wpList P ops Q rest (a.put o.dst v') w') : wpList P ops Q (o :: rest) a w := by
  refine wpList_plain hgd fun K hK => ?_
  obtain ⟨v', w', hr, h2, h3, h4⟩ := Lib.run_append_own_string (P := P) w base t u o.type e i ht hu hi hz hsize hby v n xs hown s h63 hbytes hbase
  have h6 : v'.ownBlock = v.ownBlock ∨ v'.ownBlock = some w.heap.size := by
    have hxl : xs.length = n := by simpa using hown.1
    have hsmall : n + s.size ≤ 9223372036854775807 := by simp only [maxLen] at h63; omega
    rcases hown.2 with ⟨rfl, rfl⟩ | ⟨g, cap, cur, rfl, _, hg, hnc, _, hcs, _⟩
    · by_cases hm : s.size = 0
      · rw [h4.2 ⟨rfl, hm⟩]; exact .inl rfl
      · have hr2 := run_append_nil_string (P := P) w t u o.type e i (.int .u8 0) ht hu hi hz s (by omega) (by omega) (by rw [hby]; omega)
        rw [hr2] at hr
        injection hr with hv _
        exact .inr (by rw [← hv]; rfl)
    · by_cases hroom : n + s.size ≤ cap
      · have hcs' : cur.size = cap := by simpa using hcs
        have hr2 := Lib.run_append_room_string (P := P) w t u o.type e i ht hu hi hsize g n cap cur hg s hroom (by omega)
        rw [hr2] at hr
        injection hr with hv _
        exact .inl (by rw [← hv]; rfl)
      · have holds : ∀ j u, xs[j]? = some u → w.cell? ((⟨g, 0, none⟩ : Addr).add j) = some u := hown.cells (g := g) rfl
        have hr2 := Lib.run_append_grow_string (P := P) w t u o.type e i (.int .u8 0) ht hu hi hz ⟨g, 0, none⟩ n cap xs (by rw [hsize]; simpa using hxl) holds s (by omega) (by omega) (by rw [hby]; exact growslice_fits (by omega) (by omega))
        rw [hr2] at hr
        injection hr with hv _
        exact .inr (by rw [← hv]; rfl)
  unfold Oper.wp execOp
  simp only [ho, resolve, invoke, builtin, Sem.run_bind, Sem.run_pure, Result.andThen_ok, List.map_toArray, List.map_cons, List.map_nil, hs, hx, hr]
  exact hK _ _ (h v' w' h2 h3 h6)
end
theorem strCells_u8 (s : ByteArray) : Lib.strCells s = u8L (strB s) := by
  unfold Lib.strCells u8L strB
  rw [List.map_map]
  rfl
set_option maxRecDepth 100000 in
set_option maxHeartbeats 4000000 in
theorem octet_any (base : Nat) (wb : Nat) (v : Value) (L : List Int) (n : Int) (W : World) (h : WrAt base W wb v L) (h0 : 0 ≤ n) (h1 : n ≤ 127) (hl : L.length ≤ 2199023255552) : Calls Try.prog 74 #[.pointer (some ⟨wb, 0, none⟩), .int .i8 n] W (WrPost base W wb v (L ++ [n])) := by
  obtain ⟨i0, hi, hz0, hz1, hz2⟩ := info_parts infoU8_
  have HI := Lib.hid (And.intro hi (And.intro hz0 (And.intro hz1 hz2)))
  have c0 := cell_of_one h.blk
  have f0 : W.frozen? ⟨wb, 0, none⟩ = false := by unfold World.frozen?; rw [h.blk]; simp
  have zw := h.lt
  have OWN := Lib.hid ((row_later h.own (Below.refl _ _)).alloc (.cells #[.int .u8 n] 5))
  have HON := Lib.hid (show ∀ u ∈ [Value.int .u8 n], u.oneCell' = true from fun u hu => by simp at hu; rcases hu with rfl; rfl)
  have h63 : L.length + 1 ≤ maxLen := by unfold maxLen; omega
  have hzb : base ≤ W.heap.size := by have := h.zb; omega
  have HP := Lib.hid (fun v' W2 own gr pl => h.push (N := [n]) (below_al (Below.refl _ _) (.cells #[.int .u8 n] 5)) (W2 := W2) (v' := v') (m := L.length + 1) (xs := u8L L ++ [.int .u8 n]) own (by simp) (by rw [u8L_app]; rfl) gr pl)
  have HC := Lib.hid (fun W2 gr => h.cells (below_al (Below.refl _ _) (.cells #[.int .u8 n] 5)) (W2 := W2) gr)
  clear h hi hz0 hz1 hz2
  go_enter Try.func74, Try.ntmps74
  go_wp2_with (at_builtin; go_must (refine append_keep rfl (.tmp 8) (.tmp 11) 36 rfl base 5 i0 _ 1 1 Try.underlying36 HI.out.1 HI.out.2.1 HI.out.2.2.1 HI.out.2.2.2 rfl (by decide) _ L.length _ rfl OWN.out ⟨W.heap.size, 0, none⟩ 1 1 [.int .u8 n] rfl rfl ?n1 HON.out h63 ?n2 ?n3 ?_))
  case n1 => exact World.news_of_block (cs := #[.int .u8 n]) (t := 5) (fr := (0, 0)) (heap_alloc_new W _)
  case n2 => omega
  case n3 => first | omega | (simp; omega)
  intro v' W2 own gr pl
  have HS := Lib.hid (HP.out _ W2 own gr (pl.imp id (fun h => h.1.trans (by simp))))
  obtain ⟨c2, f2, z2⟩ := HC.out W2 gr
  obtain ⟨p2, n2, k2, rfl⟩ := row_slice own
  clear c0 f0 own gr pl OWN HON HP HC
  go_wp2
  exact bodyPost_ret (v := .tuple #[]) (results_none rfl _ _ _) rfl ⟨rfl, _, HS.out⟩
theorem numF_len : ∀ (f n : Nat), (numF f n).length ≤ f + 1
  | 0, n => by simp [numF]
  | f + 1, n => by
    rw [numF]
    split
    · simp
    · have := numF_len f (n / 128)
      simp
      omega
theorem NumOk.lo {n : Int} (h : NumOk n) : 0 ≤ n := h.1
theorem NumOk.hi {n : Int} (h : NumOk n) : n ≤ 9223372036854775807 := by have := h.2; omega
theorem num_fuel {q f : Nat} (h : 128 ≤ q) (hq : q < 128 ^ f) : ∃ g, f = g + 1 ∧ q / 128 < 128 ^ g := by
  cases f with
  | zero => simp at hq; omega
  | succ g => exact ⟨g, rfl, by rw [Nat.pow_succ] at hq; omega⟩
theorem numF_small {q f : Nat} (h : q < 128) (hq : q < 128 ^ f) : numF f q = [(q : Int)] := by
  cases f with
  | zero =>
    simp at hq
    subst hq
    rfl
  | succ g => rw [numF, if_pos h]
set_option maxRecDepth 100000 in
set_option maxHeartbeats 4000000 in
theorem number_any (base : Nat) (wb : Nat) (v : Value) (L : List Int) (n : Int) (W : World) (h : WrAt base W wb v L) (h0 : 0 ≤ n) (h1 : n ≤ 9223372036854775807) (hl : L.length ≤ 2199023255552) : Calls Try.prog 48 #[.pointer (some ⟨wb, 0, none⟩), .int .i64 n] W (WrPost base W wb v (L ++ numB n)) := by
  obtain ⟨i0, hi, hz0, hz1, hz2⟩ := info_parts infoU8_
  have HI := Lib.hid (And.intro hi (And.intro hz0 (And.intro hz1 hz2)))
  have hzb : base ≤ W.heap.size := by have := h.zb; have := h.lt; omega
  obtain ⟨n, rfl⟩ := Int.eq_ofNat_of_zero_le h0
  have HW := Lib.hid h
  have HQ := Lib.hid (show WrPost base W wb v (L ++ numB n) = WrPost base W wb v (L ++ numB n) from rfl)
  have HP := Lib.hid (fun (L1 : List Int) v1 W1 (e : L1 = L ++ numB n) (hs : WrS base W wb v L1 v1 W1) => show WrPost base W wb v (L ++ numB n) (.returned (.tuple #[])) W1 by rw [← e]; exact ⟨rfl, v1, hs⟩)
  clear hi hz0 hz1 hz2 h h0 HQ
  generalize WrPost base W wb v (L ++ numB n) = post at *
  go_enter Try.func48, Try.ntmps48
  go_wp2
  go_loopw [1] (fun nv wr => ∃ (q f : Nat) (v1 : Value) (L1 : List Int), nv = .int .i64 q ∧ q ≤ 9223372036854775807 ∧ RowKit.Hid (q < 128 ^ f) ∧ RowKit.Hid (WrS base W wb v L1 v1 wr) ∧ RowKit.Hid (L1 ++ numF f q = L ++ numB n) ∧ L1.length + f ≤ L.length + 10) (fun nv _ => (intOf nv).toNat)
  case atStart => exact ⟨n, 10, v, L, rfl, by omega, Lib.hid (by omega), Lib.hid (WrS.refl HW.out), Lib.hid (by unfold numB; rw [Int.toNat_natCast]), by omega⟩
  case round =>
    obtain ⟨q, f, v1, L1, rfl, hq1, HQF, HS, HE, hf⟩ := hrel
    have c0 := cell_of_one HS.out.at_.blk
    have f0 : wr.frozen? ⟨wb, 0, none⟩ = false := by unfold World.frozen?; rw [HS.out.at_.blk]; simp
    have zw := HS.out.at_.lt
    have zbr : base ≤ wr.heap.size := by have := HS.out.sz; omega
    by_cases hq : 128 ≤ q
    · obtain ⟨g, hg, hq2⟩ := num_fuel hq HQF.out
      have HG := Lib.hid hg
      have hfg : 1 ≤ f := by omega
      have HQ2 := Lib.hid hq2
      have HE2 := Lib.hid (show (L1 ++ [((q % 128 + 128 : Nat) : Int)]) ++ numF g (q / 128) = L ++ numB n by
        rw [← HE.out, HG.out, numF, if_neg (by omega), List.append_assoc]; rfl)
      have OWN := Lib.hid ((row_later HS.out.at_.own (Below.refl _ _)).alloc (.cells #[.int .u8 ((q % 128 + 128 : Nat) : Int)] 5))
      have HON := Lib.hid (show ∀ u ∈ [Value.int .u8 ((q % 128 + 128 : Nat) : Int)], u.oneCell' = true from fun u hu => by simp at hu; rcases hu with rfl; rfl)
      have h63 : L1.length + 1 ≤ maxLen := by unfold maxLen; omega
      have HPU := Lib.hid (fun v' W2 own gr pl => HS.out.trans (HS.out.at_.push (N := [((q % 128 + 128 : Nat) : Int)]) (below_al (Below.refl _ _) (.cells #[.int .u8 ((q % 128 + 128 : Nat) : Int)] 5)) (W2 := W2) (v' := v') (m := L1.length + 1) (xs := u8L L1 ++ [.int .u8 ((q % 128 + 128 : Nat) : Int)]) own (by simp) (by rw [u8L_app]; rfl) gr pl))
      have HC := Lib.hid (fun W2 gr => HS.out.at_.cells (below_al (Below.refl _ _) (.cells #[.int .u8 ((q % 128 + 128 : Nat) : Int)] 5)) (W2 := W2) gr)
      have hq127 : (127 : Int) < (q : Int) := by omega
      have hor : bits BinOp.or IntKind.u8 ((q : Int) % 256) 128 = ((q % 128 + 128 : Nat) : Int) := by
        have e : (q : Int) % 256 = ((q % 256 : Nat) : Int) := by omega
        rw [e]
        have := or_128 ⟨q % 256, by omega⟩
        rw [this]
        show ((q % 256 % 128 + 128 : Nat) : Int) = _
        omega
      clear hq2 hg HQF HE
      go_wp2_with (at_builtin; go_must (refine append_keep rfl (.tmp 12) (.tmp 16) 36 rfl base 5 i0 _ 1 1 Try.underlying36 HI.out.1 HI.out.2.1 HI.out.2.2.1 HI.out.2.2.2 rfl (by decide) _ L1.length _ rfl OWN.out ⟨wr.heap.size, 0, none⟩ 1 1 [.int .u8 ((q % 128 + 128 : Nat) : Int)] rfl rfl ?n1 HON.out h63 ?n2 ?n3 ?_))
      case n1 => exact World.news_of_block (cs := #[.int .u8 ((q % 128 + 128 : Nat) : Int)]) (t := 5) (fr := (0, 0)) (heap_alloc_new wr _)
      case n2 => omega
      case n3 => first | omega | (simp; omega)
      intro v' W2 own gr pl
      have HS2 := Lib.hid (HPU.out _ W2 own gr (pl.imp id (fun h => h.1.trans (by simp))))
      obtain ⟨c2, f2, z2⟩ := HC.out W2 gr
      obtain ⟨p2, n2, k2, rfl⟩ := row_slice own
      have hsh : (q : Int) / 128 = ((q / 128 : Nat) : Int) := by omega
      have HSH := Lib.hid hsh
      clear c0 f0 own gr pl OWN HON HPU HC HS hsh hor
      go_wp2
      go_roundw
      case rel => exact ⟨q / 128, g, _, _, by rw [HSH.out], by omega, HQ2, HS2, HE2, by rw [List.length_append]; have := HG.out; simp; omega⟩
      case measure => simp [intOf]; omega
    · have hq8 : ¬ (127 : Int) < (q : Int) := by omega
      have hnf := numF_small (by omega) HQF.out
      have HE2 := Lib.hid (show L1 ++ [(q : Int)] = L ++ numB n by rw [← HE.out, hnf])
      have OWN := Lib.hid ((row_later HS.out.at_.own (Below.refl _ _)).alloc (.cells #[.int .u8 (q : Int)] 5))
      have HON := Lib.hid (show ∀ u ∈ [Value.int .u8 (q : Int)], u.oneCell' = true from fun u hu => by simp at hu; rcases hu with rfl; rfl)
      have h63 : L1.length + 1 ≤ maxLen := by unfold maxLen; omega
      have HPU := Lib.hid (fun v' W2 own gr pl => HS.out.trans (HS.out.at_.push (N := [(q : Int)]) (below_al (Below.refl _ _) (.cells #[.int .u8 (q : Int)] 5)) (W2 := W2) (v' := v') (m := L1.length + 1) (xs := u8L L1 ++ [.int .u8 (q : Int)]) own (by simp) (by rw [u8L_app]; rfl) gr pl))
      have HC := Lib.hid (fun W2 gr => HS.out.at_.cells (below_al (Below.refl _ _) (.cells #[.int .u8 (q : Int)] 5)) (W2 := W2) gr)
      have hmod : (q : Int) % 256 = (q : Int) := by omega
      clear hnf HQF HE hq
      go_wp2_with (at_builtin; go_must (refine append_keep rfl (.tmp 24) (.tmp 27) 36 rfl base 5 i0 _ 1 1 Try.underlying36 HI.out.1 HI.out.2.1 HI.out.2.2.1 HI.out.2.2.2 rfl (by decide) _ L1.length _ rfl OWN.out ⟨wr.heap.size, 0, none⟩ 1 1 [.int .u8 (q : Int)] rfl rfl ?n1 HON.out h63 ?n2 ?n3 ?_))
      try case n1 => exact World.news_of_block (cs := #[.int .u8 (q : Int)]) (t := 5) (fr := (0, 0)) (heap_alloc_new wr _)
      case n2 => omega
      case n3 => first | omega | (simp; omega)
      intro v' W2 own gr pl
      have HS2 := Lib.hid (HPU.out _ W2 own gr (pl.imp id (fun h => h.1.trans (by simp))))
      obtain ⟨c2, f2, z2⟩ := HC.out W2 gr
      obtain ⟨p2, n2, k2, rfl⟩ := row_slice own
      clear c0 f0 own gr pl OWN HON HPU HC HS hmod
      go_wp2
      exact bodyPost_ret (v := .tuple #[]) (results_none rfl _ _ _) rfl (HP.out _ _ _ HE2.out HS2.out)
theorem xor_neg {n : Int} (h : n < 0) (h' : -4096 ≤ n) : bits BinOp.xor IntKind.i64 (-1) n = -n - 1 := by
  show IntKind.i64.wrap ((BitVec.ofInt 64 (-1) ^^^ BitVec.ofInt 64 n).toNat : Int) = _
  have h1 : (BitVec.ofInt 64 (-1)).toNat = 2 ^ 64 - 1 := by decide
  have h2 : (BitVec.ofInt 64 n).toNat = (n + 18446744073709551616).toNat := by
    rw [BitVec.toNat_ofInt]
    congr 1
    omega
  rw [BitVec.toNat_xor, h1, h2, Lib.xor_ones64 _ (by omega), IntKind.wrap_i64]
  omega
theorem or_one_ {n : Int} (h : 0 ≤ n) (h' : n ≤ 4096) : bits BinOp.or IntKind.i64 (n * 2) 1 = n * 2 + 1 := by
  obtain ⟨k, rfl⟩ := Int.eq_ofNat_of_zero_le h
  have := Lib.or_one (k * 2) (by omega)
  rw [Int.natCast_mul] at this
  rw [show ((2 : Nat) : Int) = 2 from rfl] at this
  rw [this]
  omega
theorem sgnB_eq (n : Int) : sgnB n = numB (sgnN n) := rfl
set_option maxRecDepth 100000 in
set_option maxHeartbeats 4000000 in
theorem signed_any (base : Nat) (wb : Nat) (v : Value) (L : List Int) (n : Int) (W : World) (h : WrAt base W wb v L) (h0 : -4096 ≤ n) (h1 : n ≤ 4096) (hl : L.length ≤ 1099511627776) : Calls Try.prog 103 #[.pointer (some ⟨wb, 0, none⟩), .int .i64 n] W (WrPost base W wb v (L ++ sgnB n)) := by
  have HN := Lib.hid (fun m (e : m = sgnN n) => show Calls Try.prog 48 #[.pointer (some ⟨wb, 0, none⟩), .int .i64 m] W (WrPost base W wb v (L ++ sgnB n)) by
    rw [sgnB_eq, ← e]
    exact number_any base wb v L m W h (by rw [e]; unfold sgnN; split <;> omega) (by rw [e]; unfold sgnN; split <;> omega) (by omega))
  clear h
  by_cases hn : n < 0
  · have hx : bits BinOp.xor IntKind.i64 (-1) n = -n - 1 := xor_neg hn h0
    have ho : bits BinOp.or IntKind.i64 ((-n - 1) * 2) 1 = -2 * n - 1 := by
      rw [or_one_ (by omega) (by omega)]
      omega
    have hw : wrap64 ((-n - 1) * 2) = (-n - 1) * 2 := IntWalk.wrap64_in _ ⟨by omega, by omega⟩
    have HE := Lib.hid (show -2 * n - 1 = sgnN n by unfold sgnN; rw [if_pos hn])
    go_enter Try.func103, Try.ntmps103
    go_wp2_with fail
    refine (HN.out _ HE.out).mono ?_
    rintro e w1 ⟨rfl, hs⟩
    have HS := Lib.hid hs
    clear hs
    go_wp2
    exact bodyPost_ret (v := .tuple #[]) (results_none rfl _ _ _) rfl ⟨rfl, HS.out⟩
  · have HE := Lib.hid (show n * 2 = sgnN n by unfold sgnN; rw [if_neg hn]; omega)
    have hw : wrap64 (n * 2) = n * 2 := IntWalk.wrap64_in _ ⟨by omega, by omega⟩
    go_enter Try.func103, Try.ntmps103
    go_wp2_with fail
    refine (HN.out _ HE.out).mono ?_
    rintro e w1 ⟨rfl, hs⟩
    have HS := Lib.hid hs
    clear hs
    go_wp2
    exact bodyPost_ret (v := .tuple #[]) (results_none rfl _ _ _) rfl ⟨rfl, HS.out⟩
theorem infoStr_ : Try.prog.underlying 9 = some .string := by kernel_rfl
set_option maxRecDepth 100000 in
set_option maxHeartbeats 4000000 in
theorem text_any (base : Nat) (wb : Nat) (v : Value) (L : List Int) (s : ByteArray) (W : World) (h : WrAt base W wb v L) (hs : s.size ≤ 1099511627776) (hl : L.length ≤ 1099511627776) : Calls Try.prog 77 #[.pointer (some ⟨wb, 0, none⟩), .string s] W (WrPost base W wb v (L ++ txtB s)) := by
  obtain ⟨i0, hi, hz0, hz1, hz2⟩ := info_parts infoU8_
  have HI := Lib.hid (And.intro hi (And.intro hz0 (And.intro hz1 hz2)))
  have hzb : base ≤ W.heap.size := by have := h.zb; have := h.lt; omega
  have HN := Lib.hid (number_any base wb v L s.size W h (by omega) (by omega) (by omega))
  have hnl : (numB (s.size : Int)).length ≤ 11 := numF_len 10 _
  clear hi hz0 hz1 hz2 h
  go_enter Try.func77, Try.ntmps77
  go_wp2_with fail
  refine HN.out.mono ?_
  clear HN
  obtain ⟨L1, hL1⟩ : ∃ L1, L1 = L ++ numB (s.size : Int) := ⟨_, rfl⟩
  rw [← hL1]
  have hll : L1.length ≤ L.length + 11 := by rw [hL1, List.length_append]; omega
  rintro e w1 ⟨rfl, v1, hs1⟩
  have HS := Lib.hid hs1
  have HE := Lib.hid (show L1 ++ strB s = L ++ txtB s by rw [hL1]; unfold txtB; rw [List.append_assoc])
  clear hs1 hL1
  have c0 := cell_of_one HS.out.at_.blk
  have f0 : w1.frozen? ⟨wb, 0, none⟩ = false := by unfold World.frozen?; rw [HS.out.at_.blk]; simp
  have zw := HS.out.at_.lt
  have zbr : base ≤ w1.heap.size := by have := HS.out.sz; omega
  have OWN := Lib.hid HS.out.at_.own
  have h63 : L1.length + s.size ≤ maxLen := by unfold maxLen; omega
  have HPU := Lib.hid (fun v' W2 own gr pl => HS.out.trans (HS.out.at_.push (N := strB s) (Below.refl _ _) (W2 := W2) (v' := v') (m := L1.length + s.size) (xs := u8L L1 ++ Lib.strCells s) own (by rw [List.length_append, strB_len]) (by rw [u8L_app, strCells_u8]) gr pl))
  have HC := Lib.hid (fun W2 gr => HS.out.at_.cells (Below.refl _ _) (W2 := W2) gr)
  go_wp2_with (at_builtin; go_must (refine append_string_at rfl (.tmp 12) (.tmp 13) 36 9 rfl base 5 i0 Try.underlying36 infoStr_ HI.out.1 HI.out.2.1 HI.out.2.2.1 HI.out.2.2.2 _ L1.length _ rfl OWN.out s rfl h63 ?n2 ?n3 ?_))
  case n2 => omega
  case n3 => first | omega | (simp; omega)
  intro v' W2 own gr pl
  have HS2 := Lib.hid (HPU.out _ W2 own gr pl)
  rw [HE.out] at HS2
  obtain ⟨c2, f2, z2⟩ := HC.out W2 gr
  obtain ⟨p2, n2, k2, rfl⟩ := row_slice own
  clear c0 f0 own gr pl OWN HPU HC HS
  go_wp2
  exact bodyPost_ret (v := .tuple #[]) (results_none rfl _ _ _) rfl ⟨rfl, _, HS2.out⟩
/-- an item's bytes, up to the k-th number -/
def itTo (x : It) : Nat → List Int
  | 0 => [x.k]
  | 1 => [x.k] ++ numB x.n
  | 2 => [x.k] ++ (numB x.n ++ numB x.d)
  | 3 => [x.k] ++ (numB x.n ++ (numB x.d ++ numB x.lo))
  | _ => itB x
theorem itTo_len (x : It) (k : Nat) : (itTo x k).length ≤ 100 := by
  have h (n : Int) : (numB n).length ≤ 11 := numF_len 10 _
  have h1 := h x.n
  have h2 := h x.d
  have h3 := h x.lo
  have h4 := h x.hi
  unfold itTo
  split <;> simp [itB] <;> omega
set_option maxRecDepth 100000 in
set_option maxHeartbeats 8000000 in
theorem item_any (base : Nat) (wb : Nat) (v : Value) (L : List Int) (x : It) (W : World) (h : WrAt base W wb v L) (hx : ItFit x) (h0 : 0 ≤ x.k) (hl : L.length ≤ 1099511627776) : Calls Try.prog 87 #[.pointer (some ⟨wb, 0, none⟩), .agg #[.int .i8 x.k, .int .i64 x.n, .int .i64 x.d, .int .i64 x.lo, .int .i64 x.hi]] W (WrPost base W wb v (L ++ itB x)) := by
  have hk := hx.k
  have HN := Lib.hid (fun (L1 : List Int) (v1 : Value) (W1 : World) {m : Int} (h : WrAt base W1 wb v1 L1) (hm : NumOk m) => number_any base wb v1 L1 m W1 h (NumOk.lo hm) (NumOk.hi hm))
  have HF := Lib.hid hx
  have HO := Lib.hid (fun L1 v1 W1 h => octet_any base wb v1 L1 x.k W1 h h0 hk)
  have HW := Lib.hid h
  clear h hx
  go_enter Try.func87, Try.ntmps87
  go_wp2_with fail
  refine (HO.out L v _ (HW.out.later (by go_grown)) (by omega)).mono ?_
  obtain ⟨W1, hW1⟩ : ∃ W1, W1 = W.alloc (.cells #[.int .i8 x.k, .int .i64 x.n, .int .i64 x.d, .int .i64 x.lo, .int .i64 x.hi] 57) := ⟨_, rfl⟩
  have B1 : Below W.heap.size W W1 := by rw [hW1]; exact below_al (Below.refl _ _) _
  have hb1 : W1.heap[W.heap.size]? = some (.cells #[.int .i8 x.k, .int .i64 x.n, .int .i64 x.d, .int .i64 x.lo, .int .i64 x.hi] 57 (0, 0)) := by rw [hW1]; exact heap_alloc_new _ _
  rw [← hW1]
  rintro e w2 ⟨rfl, v1, hs1⟩
  have zb := HW.out.lt
  have zbb := HW.out.zb
  have hne : W.heap.size ≠ wb := by omega
  have hvo : v.ownBlock ≠ some W.heap.size := fun e => by have := (row_lt HW.out.own _ e).1; omega
  have hb2 := (hs1.fr W.heap.size (lt_of_block hb1) hne hvo).trans hb1
  have HS := Lib.hid (hs1.from B1 (by omega))
  have x1 : w2.cell? ⟨W.heap.size, 1, none⟩ = some (.int .i64 x.n) := by rw [cell_of_row _ _ _ _ _ _ hb2]; rfl
  have x2 : w2.cell? ⟨W.heap.size, 2, none⟩ = some (.int .i64 x.d) := by rw [cell_of_row _ _ _ _ _ _ hb2]; rfl
  have x3 : w2.cell? ⟨W.heap.size, 3, none⟩ = some (.int .i64 x.lo) := by rw [cell_of_row _ _ _ _ _ _ hb2]; rfl
  have x4 : w2.cell? ⟨W.heap.size, 4, none⟩ = some (.int .i64 x.hi) := by rw [cell_of_row _ _ _ _ _ _ hb2]; rfl
  have hz2 := lt_of_block hb2
  clear hs1 hb1 hb2 hvo hne hW1 B1 HO
  go_wp2
  have hlen := itTo_len x
  have ix0 : ∀ w, (Instr.index 58 (.agg #[.int .i64 x.n, .int .i64 x.d, .int .i64 x.lo, .int .i64 x.hi]) (.int .i64 0)).run Try.prog w = .ok (.int .i64 x.n) w := fun w => by kernel_rfl
  have ix1 : ∀ w, (Instr.index 58 (.agg #[.int .i64 x.n, .int .i64 x.d, .int .i64 x.lo, .int .i64 x.hi]) (.int .i64 1)).run Try.prog w = .ok (.int .i64 x.d) w := fun w => by kernel_rfl
  have ix2 : ∀ w, (Instr.index 58 (.agg #[.int .i64 x.n, .int .i64 x.d, .int .i64 x.lo, .int .i64 x.hi]) (.int .i64 2)).run Try.prog w = .ok (.int .i64 x.lo) w := fun w => by kernel_rfl
  have ix3 : ∀ w, (Instr.index 58 (.agg #[.int .i64 x.n, .int .i64 x.d, .int .i64 x.lo, .int .i64 x.hi]) (.int .i64 3)).run Try.prog w = .ok (.int .i64 x.hi) w := fun w => by kernel_rfl
  refine wp_loop_rounds 5 ?_
  have HX0 := Lib.hid (HN.out (L ++ itTo x 0) v1 w2 (m := x.n) HS.out.at_ HF.out.n (by have := hlen 0; rw [List.length_append]; omega))
  have HE0 := Lib.hid (show (L ++ itTo x 0) ++ numB x.n = L ++ itTo x 1 by simp [itTo, itB])
  rw [rounds_succ]
  go_wp2_with fail
  refine HX0.out.mono ?_
  rintro e w3 ⟨rfl, v2, hs⟩
  rw [HE0.out] at hs
  have HS0 := HS
  have HS := Lib.hid (HS0.out.trans hs)
  clear hs HX0 HE0 HS0
  go_wp2
  have HX1 := Lib.hid (HN.out (L ++ itTo x 1) v2 w3 (m := x.d) HS.out.at_ HF.out.d (by have := hlen 1; rw [List.length_append]; omega))
  have HE1 := Lib.hid (show (L ++ itTo x 1) ++ numB x.d = L ++ itTo x 2 by simp [itTo, itB])
  rw [rounds_succ]
  go_wp2_with fail
  refine HX1.out.mono ?_
  rintro e w4 ⟨rfl, v3, hs⟩
  rw [HE1.out] at hs
  have HS1 := HS
  have HS := Lib.hid (HS1.out.trans hs)
  clear hs HX1 HE1 HS1
  go_wp2
  have HX2 := Lib.hid (HN.out (L ++ itTo x 2) v3 w4 (m := x.lo) HS.out.at_ HF.out.lo (by have := hlen 2; rw [List.length_append]; omega))
  have HE2 := Lib.hid (show (L ++ itTo x 2) ++ numB x.lo = L ++ itTo x 3 by simp [itTo, itB])
  rw [rounds_succ]
  go_wp2_with fail
  refine HX2.out.mono ?_
  rintro e w5 ⟨rfl, v4, hs⟩
  rw [HE2.out] at hs
  have HS2 := HS
  have HS := Lib.hid (HS2.out.trans hs)
  clear hs HX2 HE2 HS2
  go_wp2
  have HX3 := Lib.hid (HN.out (L ++ itTo x 3) v4 w5 (m := x.hi) HS.out.at_ HF.out.hi (by have := hlen 3; rw [List.length_append]; omega))
  have HE3 := Lib.hid (show (L ++ itTo x 3) ++ numB x.hi = L ++ itTo x 4 by simp [itTo, itB])
  rw [rounds_succ]
  go_wp2_with fail
  refine HX3.out.mono ?_
  rintro e w6 ⟨rfl, v5, hs⟩
  rw [HE3.out] at hs
  have HS3 := HS
  have HS := Lib.hid (HS3.out.trans hs)
  clear hs HX3 HE3 HS3
  go_wp2
  rw [rounds_succ] 
  go_wp2
  exact bodyPost_ret (v := .tuple #[]) (results_none rfl _ _ _) rfl ⟨rfl, _, HS.out⟩
end Go.Proofs.Ytcihihncgpddfaa
