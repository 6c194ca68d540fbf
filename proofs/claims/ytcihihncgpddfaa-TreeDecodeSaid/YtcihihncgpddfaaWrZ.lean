/- WrZ: WrA WrB WrC in one text. -/
import Derived.Test.YtcihihncgpddfaaEncZ
import Derived.Test.YtcihihncgpddfaaLntO
import Derived.Test.YtcihihncgpddfaaAppK
import Derived.Lib.AppendStr
import Derived.Lib.Zigzag
import Derived.LoopN
import Derived.Lib.QuoteBits
import Derived.Deep.OwnRows
import Derived.Test.YtcihihncgpddfaaTreN
import Derived.Deep.AppendLies
import Derived.Test.YtcihihncgpddfaaAnyZ
namespace Go.Proofs.Ytcihihncgpddfaa
open Go.RowKit Go.Deep
set_option linter.unusedVariables false
set_option linter.unusedSimpArgs false

def u8L (L : List Int) : List Value := L.map (Value.int .u8)
theorem u8L_len (L : List Int) : (u8L L).length = L.length := by simp [u8L]
theorem u8L_app (L M : List Int) : u8L (L ++ M) = u8L L ++ u8L M := by simp [u8L]
theorem infoU8_ : (Try.prog.info? 5).map (fun i => (i.zero, i.size, i.bytes)) = some (some (.int .u8 0), 1, 1) := by kernel_rfl
/-- a writer: its block, the bytes that it owns -/
structure WrAt (base : Nat) (W : World) (wb : Nat) (v : Value) (L : List Int) : Prop where
  blk : W.heap[wb]? = some (.cells #[v] 83 (0, 0))
  own : W.ownsRow base 5 1 v L.length (u8L L)
  zb : base ≤ wb
/-- what a writer's work makes of a world -/
structure WrS (base : Nat) (W : World) (wb : Nat) (v : Value) (L : List Int) (v' : Value) (W' : World) : Prop where
  at_ : WrAt base W' wb v' L
  be : Below base W W'
  sz : W.heap.size ≤ W'.heap.size
  fr : ∀ b, b < W.heap.size → b ≠ wb → v.ownBlock ≠ some b → W'.heap[b]? = W.heap[b]?
  gr : ∀ b, v'.ownBlock = some b → v.ownBlock = some b ∨ W.heap.size ≤ b
theorem row_blk_ne {w : World} {base : Nat} {t t' : TypeId} {k : Nat} {v : Value} {n g : Nat} {xs : List Value} {cur : Array Value} {fr : Nat × Nat} (h : w.ownsRow base t k v n xs) (hh : w.heap[g]? = some (.cells cur t' fr)) (hne : t ≠ t') : v.ownBlock ≠ some g := by
  rcases h.2 with ⟨rfl, _⟩ | ⟨g', c, cur', rfl, _, hb, _⟩
  · simp [Value.ownBlock]
  · simp only [Value.ownBlock]
    intro e
    injection e with e
    subst e
    rw [hb] at hh
    injection hh with hh
    injection hh with _ hh
    exact hne hh
theorem WrAt.ne {base : Nat} {W : World} {wb : Nat} {v : Value} {L : List Int} (h : WrAt base W wb v L) : v.ownBlock ≠ some wb := row_blk_ne h.own h.blk (by decide)
theorem WrAt.lt {base : Nat} {W : World} {wb : Nat} {v : Value} {L : List Int} (h : WrAt base W wb v L) : wb < W.heap.size := lt_of_block h.blk
theorem WrAt.later {base : Nat} {W W' : World} {wb : Nat} {v : Value} {L : List Int} (h : WrAt base W wb v L) (hb : Below W.heap.size W W') : WrAt base W' wb v L :=
  ⟨(hb.block _ h.lt).trans h.blk, row_later h.own hb, h.zb⟩
theorem WrS.refl {base : Nat} {W : World} {wb : Nat} {v : Value} {L : List Int} (h : WrAt base W wb v L) : WrS base W wb v L v W := ⟨h, Below.refl _ _, Nat.le_refl _, fun _ _ _ _ => rfl, fun b hb => .inl hb⟩
theorem WrS.trans {base : Nat} {W W1 W2 : World} {wb : Nat} {v v1 v2 : Value} {L L1 : List Int} (h : WrS base W wb v L v1 W1) (h' : WrS base W1 wb v1 L1 v2 W2) : WrS base W wb v L1 v2 W2 := by
  have z := h.sz
  have z' := h'.sz
  refine ⟨h'.at_, h.be.trans h'.be, by omega, fun b hb h1 h2 => ?_, fun b hb => ?_⟩
  · rw [h'.fr b (by omega) h1 (fun e => (h.gr b e).elim h2 (fun h => by omega))]
    exact h.fr b hb h1 h2
  · rcases h'.gr b hb with e | e
    · exact h.gr b e
    · exact .inr (by omega)
theorem WrS.from {base : Nat} {W W1 W2 : World} {wb : Nat} {v v2 : Value} {L : List Int} (h : WrS base W1 wb v L v2 W2) (hb : Below W.heap.size W W1) (hz : base ≤ W.heap.size) : WrS base W wb v L v2 W2 := by
  have z := hb.size
  have z' := h.sz
  refine ⟨h.at_, (hb.mono hz).trans h.be, by omega, fun b hb' h1 h2 => ?_, fun b hb' => ?_⟩
  · rw [h.fr b (by omega) h1 h2]
    exact hb.block b hb'
  · rcases h.gr b hb' with e | e
    · exact .inl e
    · exact .inr (by omega)
theorem one_set {w : World} {b : Nat} {x v : Value} {t : TypeId} (h : w.heap[b]? = some (.cells #[x] t (0, 0))) : (w.setCell ⟨b, 0, none⟩ v).heap[b]? = some (.cells #[v] t (0, 0)) := by
  have hlt := lt_of_block h
  have h' : w.heap[b] = .cells #[x] t (0, 0) := by simpa [Array.getElem?_eq_getElem hlt] using h
  show (w.heap.modify b _)[b]? = _
  rw [Array.getElem?_eq_getElem (by simpa using hlt), Array.getElem_modify_self, h']
  rfl
/-- bytes have been appended, the field has been set -/
theorem WrAt.push {base : Nat} {W W1 W2 : World} {wb : Nat} {v v' : Value} {L N : List Int} {m : Nat} {xs : List Value} (h : WrAt base W wb v L) (B1 : Below W.heap.size W W1) (own : W2.ownsRow base 5 1 v' m xs) (hm : m = (L ++ N).length) (hxs : xs = u8L (L ++ N)) (gr : W1.grownBy W2 v.ownBlock) (pl : v'.ownBlock = v.ownBlock ∨ v'.ownBlock = some W1.heap.size) : WrS base W wb v (L ++ N) v' (W2.setCell ⟨wb, 0, none⟩ v') := by
  have z1 := B1.size
  have zg := gr.size
  have zw := h.lt
  have hne := h.ne
  have hb2 : W2.heap[wb]? = some (.cells #[v] 83 (0, 0)) := by rw [gr.block wb (by omega) (fun e => hne e.symm)]; exact (B1.block _ zw).trans h.blk
  have hne' : v'.ownBlock ≠ some wb := row_blk_ne own hb2 (by decide)
  have hzb : base ≤ W.heap.size := by have := h.zb; omega
  have hB : Below base W W2 := Below.grown (B1.mono hzb) gr (by omega) (fun k hk => (row_lt h.own k hk).2)
  subst hm hxs
  refine ⟨⟨one_set hb2, ownsRow_setCell_other own hne' _, h.zb⟩, hB.setCell (p := ⟨wb, 0, none⟩) h.zb v', by simp; omega, fun b hb h1 h2 => ?_, fun b hb => ?_⟩
  · rw [blk_setCell_other _ _ _ _ (by simpa using h1), gr.block b (by omega) (fun e => h2 e.symm), B1.block b hb]
  · rcases pl with e | e
    · rw [e] at hb; exact .inl hb
    · rw [e] at hb; injection hb with hb; exact .inr (by omega)
theorem WrAt.cells {base : Nat} {W W1 W2 : World} {wb : Nat} {v : Value} {L : List Int} (h : WrAt base W wb v L) (B1 : Below W.heap.size W W1) (gr : W1.grownBy W2 v.ownBlock) : W2.cell? ⟨wb, 0, none⟩ = some v ∧ W2.frozen? ⟨wb, 0, none⟩ = false ∧ wb < W2.heap.size := by
  have z1 := B1.size
  have zw := h.lt
  have zg := gr.size
  have hne := h.ne
  have hb2 : W2.heap[wb]? = some (.cells #[v] 83 (0, 0)) := by rw [gr.block wb (by omega) (fun e => hne e.symm)]; exact (B1.block _ zw).trans h.blk
  exact ⟨cell_of_one hb2, by unfold World.frozen?; rw [hb2]; simp, by omega⟩
theorem row_slice {w : World} {base : Nat} {t : TypeId} {k n : Nat} {v : Value} {xs : List Value} (h : w.ownsRow base t k v n xs) : ∃ p n c, v = .slice p n c := by
  rcases row_form h with ⟨rfl, _⟩ | ⟨g, c, rfl, _⟩
  · exact ⟨_, _, _, rfl⟩
  · exact ⟨_, _, _, rfl⟩
def WrPost (base : Nat) (W : World) (wb : Nat) (v : Value) (L : List Int) (e : Ending) (W' : World) : Prop := e = .returned (.tuple #[]) ∧ ∃ v', WrS base W wb v L v' W'
theorem or_128 : ∀ n : Fin 256, bits BinOp.or IntKind.u8 (n.val : Int) 128 = ((n.val % 128 + 128 : Nat) : Int) := by decide +kernel
section
variable {P : Program}
/-- append of a string's bytes: where the new row lies -/
theorem append_string_at {ops : Array Oper} {rest : List Oper} {o : Oper} {a : Act} {w : World} {Q : Exit → Act → World → Prop} (hgd : o.guard = none) (sl x : Operand) (t u : TypeId)
    (ho : o.op = .call { callee := .builtin .append, args := #[sl, x], argTypes := #[t, u] })
    (base : Nat) (e : TypeId) (i : TypeInfo) (ht : P.underlying t = some (.slice e)) (hu : P.underlying u = some .string) (hi : P.info? e = some i) (hz : i.zero = some (.int .u8 0))
    (hsize : i.size = 1) (hby : i.bytes = 1)
    (v : Value) (n : Nat) (xs : List Value) (hs : a.eval sl = v) (hown : w.ownsRow base e 1 v n xs) (s : ByteArray) (hx : a.eval x = .string s)
    (h63 : n + s.size ≤ maxLen) (hbytes : n + s.size ≤ 140737488355328) (hbase : base ≤ w.heap.size)
    (h : ∀ v' w', w'.ownsRow base e 1 v' (n + s.size) (xs ++ Lib.strCells s) → w.grownBy w' v.ownBlock → (v'.ownBlock = v.ownBlock ∨ v'.ownBlock = some w.heap.size) → wpList P ops Q rest (a.put o.dst v') w') : wpList P ops Q (o :: rest) a w := by
  refine wpList_plain hgd fun K hK => ?_
  obtain ⟨v', w', hr, h2, h3, h4⟩ := Lib.run_append_own_string (P := P) w base t u o.type e i ht hu hi hz hsize hby v n xs hown s h63 hbytes hbase
  have h6 : v'.ownBlock = v.ownBlock ∨ v'.ownBlock = some w.heap.size := by
    have hxl : xs.length = n := by simpa using hown.1
    have hsmall : n + s.size ≤ 9223372036854775807 := by simp only [maxLen] at h63; omega
    rcases hown.2 with ⟨rfl, rfl⟩ | ⟨g, cap, cur, rfl, _, hg, hnc, _, hcs, _⟩
    · by_cases hm : s.size = 0
      · rw [h4.2 ⟨rfl, hm⟩]; exact .inl rfl
      · have hr2 := run_append_nil_string (P := P) w t u o.type e i (.int .u8 0) ht hu hi hz s (by omega) (by omega) (by rw [hby]; omega)
        rw [hr2] at hr
        injection hr with hv _
        exact .inr (by rw [← hv]; rfl)
    · by_cases hroom : n + s.size ≤ cap
      · have hcs' : cur.size = cap := by simpa using hcs
        have hr2 := Lib.run_append_room_string (P := P) w t u o.type e i ht hu hi hsize g n cap cur hg s hroom (by omega)
        rw [hr2] at hr
        injection hr with hv _
        exact .inl (by rw [← hv]; rfl)
      · have holds : ∀ j u, xs[j]? = some u → w.cell? ((⟨g, 0, none⟩ : Addr).add j) = some u := hown.cells (g := g) rfl
        have hr2 := Lib.run_append_grow_string (P := P) w t u o.type e i (.int .u8 0) ht hu hi hz ⟨g, 0, none⟩ n cap xs (by rw [hsize]; simpa using hxl) holds s (by omega) (by omega) (by rw [hby]; exact growslice_fits (by omega) (by omega))
        rw [hr2] at hr
        injection hr with hv _
        exact .inr (by rw [← hv]; rfl)
  unfold Oper.wp execOp
  simp only [ho, resolve, invoke, builtin, Sem.run_bind, Sem.run_pure, Result.andThen_ok, List.map_toArray, List.map_cons, List.map_nil, hs, hx, hr]
  exact hK _ _ (h v' w' h2 h3 h6)
end
theorem strCells_u8 (s : ByteArray) : Lib.strCells s = u8L (strB s) := by
  unfold Lib.strCells u8L strB
  rw [List.map_map]
  rfl
set_option maxRecDepth 100000 in
set_option maxHeartbeats 4000000 in
theorem octet_any (base : Nat) (wb : Nat) (v : Value) (L : List Int) (n : Int) (W : World) (h : WrAt base W wb v L) (h0 : 0 ≤ n) (h1 : n ≤ 127) (hl : L.length ≤ 2199023255552) : Calls Try.prog 74 #[.pointer (some ⟨wb, 0, none⟩), .int .i8 n] W (WrPost base W wb v (L ++ [n])) := by
  obtain ⟨i0, hi, hz0, hz1, hz2⟩ := info_parts infoU8_
  have HI := Lib.hid (And.intro hi (And.intro hz0 (And.intro hz1 hz2)))
  have c0 := cell_of_one h.blk
  have f0 : W.frozen? ⟨wb, 0, none⟩ = false := by unfold World.frozen?; rw [h.blk]; simp
  have zw := h.lt
  have OWN := Lib.hid ((row_later h.own (Below.refl _ _)).alloc (.cells #[.int .u8 n] 5))
  have HON := Lib.hid (show ∀ u ∈ [Value.int .u8 n], u.oneCell' = true from fun u hu => by simp at hu; rcases hu with rfl; rfl)
  have h63 : L.length + 1 ≤ maxLen := by unfold maxLen; omega
  have hzb : base ≤ W.heap.size := by have := h.zb; omega
  have HP := Lib.hid (fun v' W2 own gr pl => h.push (N := [n]) (below_al (Below.refl _ _) (.cells #[.int .u8 n] 5)) (W2 := W2) (v' := v') (m := L.length + 1) (xs := u8L L ++ [.int .u8 n]) own (by simp) (by rw [u8L_app]; rfl) gr pl)
  have HC := Lib.hid (fun W2 gr => h.cells (below_al (Below.refl _ _) (.cells #[.int .u8 n] 5)) (W2 := W2) gr)
  clear h hi hz0 hz1 hz2
  go_enter Try.func74, Try.ntmps74
  go_wp2_with (at_builtin; go_must (refine append_keep rfl (.tmp 8) (.tmp 11) 36 rfl base 5 i0 _ 1 1 Try.underlying36 HI.out.1 HI.out.2.1 HI.out.2.2.1 HI.out.2.2.2 rfl (by decide) _ L.length _ rfl OWN.out ⟨W.heap.size, 0, none⟩ 1 1 [.int .u8 n] rfl rfl ?n1 HON.out h63 ?n2 ?n3 ?_))
  case n1 => exact World.news_of_block (cs := #[.int .u8 n]) (t := 5) (fr := (0, 0)) (heap_alloc_new W _)
  case n2 => omega
  case n3 => first | omega | (simp; omega)
  intro v' W2 own gr pl
  have HS := Lib.hid (HP.out _ W2 own gr (pl.imp id (fun h => h.1.trans (by simp))))
  obtain ⟨c2, f2, z2⟩ := HC.out W2 gr
  obtain ⟨p2, n2, k2, rfl⟩ := row_slice own
  clear c0 f0 own gr pl OWN HON HP HC
  go_wp2
  exact bodyPost_ret (v := .tuple #[]) (results_none rfl _ _ _) rfl ⟨rfl, _, HS.out⟩
theorem numF_len : ∀ (f n : Nat), (numF f n).length ≤ f + 1
  | 0, n => by simp [numF]
  | f + 1, n => by
    rw [numF]
    split
    · simp
    · have := numF_len f (n / 128)
      simp
      omega
theorem NumOk.lo {n : Int} (h : NumOk n) : 0 ≤ n := h.1
theorem NumOk.hi {n : Int} (h : NumOk n) : n ≤ 9223372036854775807 := by have := h.2; omega
theorem num_fuel {q f : Nat} (h : 128 ≤ q) (hq : q < 128 ^ f) : ∃ g, f = g + 1 ∧ q / 128 < 128 ^ g := by
  cases f with
  | zero => simp at hq; omega
  | succ g => exact ⟨g, rfl, by rw [Nat.pow_succ] at hq; omega⟩
theorem numF_small {q f : Nat} (h : q < 128) (hq : q < 128 ^ f) : numF f q = [(q : Int)] := by
  cases f with
  | zero =>
    simp at hq
    subst hq
    rfl
  | succ g => rw [numF, if_pos h]
set_option maxRecDepth 100000 in
set_option maxHeartbeats 4000000 in
theorem number_any (base : Nat) (wb : Nat) (v : Value) (L : List Int) (n : Int) (W : World) (h : WrAt base W wb v L) (h0 : 0 ≤ n) (h1 : n ≤ 9223372036854775807) (hl : L.length ≤ 2199023255552) : Calls Try.prog 48 #[.pointer (some ⟨wb, 0, none⟩), .int .i64 n] W (WrPost base W wb v (L ++ numB n)) := by
  obtain ⟨i0, hi, hz0, hz1, hz2⟩ := info_parts infoU8_
  have HI := Lib.hid (And.intro hi (And.intro hz0 (And.intro hz1 hz2)))
  have hzb : base ≤ W.heap.size := by have := h.zb; have := h.lt; omega
  obtain ⟨n, rfl⟩ := Int.eq_ofNat_of_zero_le h0
  have HW := Lib.hid h
  have HQ := Lib.hid (show WrPost base W wb v (L ++ numB n) = WrPost base W wb v (L ++ numB n) from rfl)
  have HP := Lib.hid (fun (L1 : List Int) v1 W1 (e : L1 = L ++ numB n) (hs : WrS base W wb v L1 v1 W1) => show WrPost base W wb v (L ++ numB n) (.returned (.tuple #[])) W1 by rw [← e]; exact ⟨rfl, v1, hs⟩)
  clear hi hz0 hz1 hz2 h h0 HQ
  generalize WrPost base W wb v (L ++ numB n) = post at *
  go_enter Try.func48, Try.ntmps48
  go_wp2
  go_loopw [1] (fun nv wr => ∃ (q f : Nat) (v1 : Value) (L1 : List Int), nv = .int .i64 q ∧ q ≤ 9223372036854775807 ∧ RowKit.Hid (q < 128 ^ f) ∧ RowKit.Hid (WrS base W wb v L1 v1 wr) ∧ RowKit.Hid (L1 ++ numF f q = L ++ numB n) ∧ L1.length + f ≤ L.length + 10) (fun nv _ => (intOf nv).toNat)
  case atStart => exact ⟨n, 10, v, L, rfl, by omega, Lib.hid (by omega), Lib.hid (WrS.refl HW.out), Lib.hid (by unfold numB; rw [Int.toNat_natCast]), by omega⟩
  case round =>
    obtain ⟨q, f, v1, L1, rfl, hq1, HQF, HS, HE, hf⟩ := hrel
    have c0 := cell_of_one HS.out.at_.blk
    have f0 : wr.frozen? ⟨wb, 0, none⟩ = false := by unfold World.frozen?; rw [HS.out.at_.blk]; simp
    have zw := HS.out.at_.lt
    have zbr : base ≤ wr.heap.size := by have := HS.out.sz; omega
    by_cases hq : 128 ≤ q
    · obtain ⟨g, hg, hq2⟩ := num_fuel hq HQF.out
      have HG := Lib.hid hg
      have hfg : 1 ≤ f := by omega
      have HQ2 := Lib.hid hq2
      have HE2 := Lib.hid (show (L1 ++ [((q % 128 + 128 : Nat) : Int)]) ++ numF g (q / 128) = L ++ numB n by
        rw [← HE.out, HG.out, numF, if_neg (by omega), List.append_assoc]; rfl)
      have OWN := Lib.hid ((row_later HS.out.at_.own (Below.refl _ _)).alloc (.cells #[.int .u8 ((q % 128 + 128 : Nat) : Int)] 5))
      have HON := Lib.hid (show ∀ u ∈ [Value.int .u8 ((q % 128 + 128 : Nat) : Int)], u.oneCell' = true from fun u hu => by simp at hu; rcases hu with rfl; rfl)
      have h63 : L1.length + 1 ≤ maxLen := by unfold maxLen; omega
      have HPU := Lib.hid (fun v' W2 own gr pl => HS.out.trans (HS.out.at_.push (N := [((q % 128 + 128 : Nat) : Int)]) (below_al (Below.refl _ _) (.cells #[.int .u8 ((q % 128 + 128 : Nat) : Int)] 5)) (W2 := W2) (v' := v') (m := L1.length + 1) (xs := u8L L1 ++ [.int .u8 ((q % 128 + 128 : Nat) : Int)]) own (by simp) (by rw [u8L_app]; rfl) gr pl))
      have HC := Lib.hid (fun W2 gr => HS.out.at_.cells (below_al (Below.refl _ _) (.cells #[.int .u8 ((q % 128 + 128 : Nat) : Int)] 5)) (W2 := W2) gr)
      have hq127 : (127 : Int) < (q : Int) := by omega
      have hor : bits BinOp.or IntKind.u8 ((q : Int) % 256) 128 = ((q % 128 + 128 : Nat) : Int) := by
        have e : (q : Int) % 256 = ((q % 256 : Nat) : Int) := by omega
        rw [e]
        have := or_128 ⟨q % 256, by omega⟩
        rw [this]
        show ((q % 256 % 128 + 128 : Nat) : Int) = _
        omega
      clear hq2 hg HQF HE
      go_wp2_with (at_builtin; go_must (refine append_keep rfl (.tmp 12) (.tmp 16) 36 rfl base 5 i0 _ 1 1 Try.underlying36 HI.out.1 HI.out.2.1 HI.out.2.2.1 HI.out.2.2.2 rfl (by decide) _ L1.length _ rfl OWN.out ⟨wr.heap.size, 0, none⟩ 1 1 [.int .u8 ((q % 128 + 128 : Nat) : Int)] rfl rfl ?n1 HON.out h63 ?n2 ?n3 ?_))
      case n1 => exact World.news_of_block (cs := #[.int .u8 ((q % 128 + 128 : Nat) : Int)]) (t := 5) (fr := (0, 0)) (heap_alloc_new wr _)
      case n2 => omega
      case n3 => first | omega | (simp; omega)
      intro v' W2 own gr pl
      have HS2 := Lib.hid (HPU.out _ W2 own gr (pl.imp id (fun h => h.1.trans (by simp))))
      obtain ⟨c2, f2, z2⟩ := HC.out W2 gr
      obtain ⟨p2, n2, k2, rfl⟩ := row_slice own
      have hsh : (q : Int) / 128 = ((q / 128 : Nat) : Int) := by omega
      have HSH := Lib.hid hsh
      clear c0 f0 own gr pl OWN HON HPU HC HS hsh hor
      go_wp2
      go_roundw
      case rel => exact ⟨q / 128, g, _, _, by rw [HSH.out], by omega, HQ2, HS2, HE2, by rw [List.length_append]; have := HG.out; simp; omega⟩
      case measure => simp [intOf]; omega
    · have hq8 : ¬ (127 : Int) < (q : Int) := by omega
      have hnf := numF_small (by omega) HQF.out
      have HE2 := Lib.hid (show L1 ++ [(q : Int)] = L ++ numB n by rw [← HE.out, hnf])
      have OWN := Lib.hid ((row_later HS.out.at_.own (Below.refl _ _)).alloc (.cells #[.int .u8 (q : Int)] 5))
      have HON := Lib.hid (show ∀ u ∈ [Value.int .u8 (q : Int)], u.oneCell' = true from fun u hu => by simp at hu; rcases hu with rfl; rfl)
      have h63 : L1.length + 1 ≤ maxLen := by unfold maxLen; omega
      have HPU := Lib.hid (fun v' W2 own gr pl => HS.out.trans (HS.out.at_.push (N := [(q : Int)]) (below_al (Below.refl _ _) (.cells #[.int .u8 (q : Int)] 5)) (W2 := W2) (v' := v') (m := L1.length + 1) (xs := u8L L1 ++ [.int .u8 (q : Int)]) own (by simp) (by rw [u8L_app]; rfl) gr pl))
      have HC := Lib.hid (fun W2 gr => HS.out.at_.cells (below_al (Below.refl _ _) (.cells #[.int .u8 (q : Int)] 5)) (W2 := W2) gr)
      have hmod : (q : Int) % 256 = (q : Int) := by omega
      clear hnf HQF HE hq
      go_wp2_with (at_builtin; go_must (refine append_keep rfl (.tmp 24) (.tmp 27) 36 rfl base 5 i0 _ 1 1 Try.underlying36 HI.out.1 HI.out.2.1 HI.out.2.2.1 HI.out.2.2.2 rfl (by decide) _ L1.length _ rfl OWN.out ⟨wr.heap.size, 0, none⟩ 1 1 [.int .u8 (q : Int)] rfl rfl ?n1 HON.out h63 ?n2 ?n3 ?_))
      try case n1 => exact World.news_of_block (cs := #[.int .u8 (q : Int)]) (t := 5) (fr := (0, 0)) (heap_alloc_new wr _)
      case n2 => omega
      case n3 => first | omega | (simp; omega)
      intro v' W2 own gr pl
      have HS2 := Lib.hid (HPU.out _ W2 own gr (pl.imp id (fun h => h.1.trans (by simp))))
      obtain ⟨c2, f2, z2⟩ := HC.out W2 gr
      obtain ⟨p2, n2, k2, rfl⟩ := row_slice own
      clear c0 f0 own gr pl OWN HON HPU HC HS hmod
      go_wp2
      exact bodyPost_ret (v := .tuple #[]) (results_none rfl _ _ _) rfl (HP.out _ _ _ HE2.out HS2.out)
theorem xor_neg {n : Int} (h : n < 0) (h' : -4096 ≤ n) : bits BinOp.xor IntKind.i64 (-1) n = -n - 1 := by
  show IntKind.i64.wrap ((BitVec.ofInt 64 (-1) ^^^ BitVec.ofInt 64 n).toNat : Int) = _
  have h1 : (BitVec.ofInt 64 (-1)).toNat = 2 ^ 64 - 1 := by decide
  have h2 : (BitVec.ofInt 64 n).toNat = (n + 18446744073709551616).toNat := by
    rw [BitVec.toNat_ofInt]
    congr 1
    omega
  rw [BitVec.toNat_xor, h1, h2, Lib.xor_ones64 _ (by omega), IntKind.wrap_i64]
  omega
theorem or_one_ {n : Int} (h : 0 ≤ n) (h' : n ≤ 4096) : bits BinOp.or IntKind.i64 (n * 2) 1 = n * 2 + 1 := by
  obtain ⟨k, rfl⟩ := Int.eq_ofNat_of_zero_le h
  have := Lib.or_one (k * 2) (by omega)
  rw [Int.natCast_mul] at this
  rw [show ((2 : Nat) : Int) = 2 from rfl] at this
  rw [this]
  omega
theorem sgnB_eq (n : Int) : sgnB n = numB (sgnN n) := rfl
set_option maxRecDepth 100000 in
set_option maxHeartbeats 4000000 in
theorem signed_any (base : Nat) (wb : Nat) (v : Value) (L : List Int) (n : Int) (W : World) (h : WrAt base W wb v L) (h0 : -4096 ≤ n) (h1 : n ≤ 4096) (hl : L.length ≤ 1099511627776) : Calls Try.prog 103 #[.pointer (some ⟨wb, 0, none⟩), .int .i64 n] W (WrPost base W wb v (L ++ sgnB n)) := by
  have HN := Lib.hid (fun m (e : m = sgnN n) => show Calls Try.prog 48 #[.pointer (some ⟨wb, 0, none⟩), .int .i64 m] W (WrPost base W wb v (L ++ sgnB n)) by
    rw [sgnB_eq, ← e]
    exact number_any base wb v L m W h (by rw [e]; unfold sgnN; split <;> omega) (by rw [e]; unfold sgnN; split <;> omega) (by omega))
  clear h
  by_cases hn : n < 0
  · have hx : bits BinOp.xor IntKind.i64 (-1) n = -n - 1 := xor_neg hn h0
    have ho : bits BinOp.or IntKind.i64 ((-n - 1) * 2) 1 = -2 * n - 1 := by
      rw [or_one_ (by omega) (by omega)]
      omega
    have hw : wrap64 ((-n - 1) * 2) = (-n - 1) * 2 := IntWalk.wrap64_in _ ⟨by omega, by omega⟩
    have HE := Lib.hid (show -2 * n - 1 = sgnN n by unfold sgnN; rw [if_pos hn])
    go_enter Try.func103, Try.ntmps103
    go_wp2_with fail
    refine (HN.out _ HE.out).mono ?_
    rintro e w1 ⟨rfl, hs⟩
    have HS := Lib.hid hs
    clear hs
    go_wp2
    exact bodyPost_ret (v := .tuple #[]) (results_none rfl _ _ _) rfl ⟨rfl, HS.out⟩
  · have HE := Lib.hid (show n * 2 = sgnN n by unfold sgnN; rw [if_neg hn]; omega)
    have hw : wrap64 (n * 2) = n * 2 := IntWalk.wrap64_in _ ⟨by omega, by omega⟩
    go_enter Try.func103, Try.ntmps103
    go_wp2_with fail
    refine (HN.out _ HE.out).mono ?_
    rintro e w1 ⟨rfl, hs⟩
    have HS := Lib.hid hs
    clear hs
    go_wp2
    exact bodyPost_ret (v := .tuple #[]) (results_none rfl _ _ _) rfl ⟨rfl, HS.out⟩
theorem infoStr_ : Try.prog.underlying 9 = some .string := by kernel_rfl
set_option maxRecDepth 100000 in
set_option maxHeartbeats 4000000 in
theorem text_any (base : Nat) (wb : Nat) (v : Value) (L : List Int) (s : ByteArray) (W : World) (h : WrAt base W wb v L) (hs : s.size ≤ 1099511627776) (hl : L.length ≤ 1099511627776) : Calls Try.prog 77 #[.pointer (some ⟨wb, 0, none⟩), .string s] W (WrPost base W wb v (L ++ txtB s)) := by
  obtain ⟨i0, hi, hz0, hz1, hz2⟩ := info_parts infoU8_
  have HI := Lib.hid (And.intro hi (And.intro hz0 (And.intro hz1 hz2)))
  have hzb : base ≤ W.heap.size := by have := h.zb; have := h.lt; omega
  have HN := Lib.hid (number_any base wb v L s.size W h (by omega) (by omega) (by omega))
  have hnl : (numB (s.size : Int)).length ≤ 11 := numF_len 10 _
  clear hi hz0 hz1 hz2 h
  go_enter Try.func77, Try.ntmps77
  go_wp2_with fail
  refine HN.out.mono ?_
  clear HN
  obtain ⟨L1, hL1⟩ : ∃ L1, L1 = L ++ numB (s.size : Int) := ⟨_, rfl⟩
  rw [← hL1]
  have hll : L1.length ≤ L.length + 11 := by rw [hL1, List.length_append]; omega
  rintro e w1 ⟨rfl, v1, hs1⟩
  have HS := Lib.hid hs1
  have HE := Lib.hid (show L1 ++ strB s = L ++ txtB s by rw [hL1]; unfold txtB; rw [List.append_assoc])
  clear hs1 hL1
  have c0 := cell_of_one HS.out.at_.blk
  have f0 : w1.frozen? ⟨wb, 0, none⟩ = false := by unfold World.frozen?; rw [HS.out.at_.blk]; simp
  have zw := HS.out.at_.lt
  have zbr : base ≤ w1.heap.size := by have := HS.out.sz; omega
  have OWN := Lib.hid HS.out.at_.own
  have h63 : L1.length + s.size ≤ maxLen := by unfold maxLen; omega
  have HPU := Lib.hid (fun v' W2 own gr pl => HS.out.trans (HS.out.at_.push (N := strB s) (Below.refl _ _) (W2 := W2) (v' := v') (m := L1.length + s.size) (xs := u8L L1 ++ Lib.strCells s) own (by rw [List.length_append, strB_len]) (by rw [u8L_app, strCells_u8]) gr pl))
  have HC := Lib.hid (fun W2 gr => HS.out.at_.cells (Below.refl _ _) (W2 := W2) gr)
  go_wp2_with (at_builtin; go_must (refine append_string_at rfl (.tmp 12) (.tmp 13) 36 9 rfl base 5 i0 Try.underlying36 infoStr_ HI.out.1 HI.out.2.1 HI.out.2.2.1 HI.out.2.2.2 _ L1.length _ rfl OWN.out s rfl h63 ?n2 ?n3 ?_))
  case n2 => omega
  case n3 => first | omega | (simp; omega)
  intro v' W2 own gr pl
  have HS2 := Lib.hid (HPU.out _ W2 own gr pl)
  rw [HE.out] at HS2
  obtain ⟨c2, f2, z2⟩ := HC.out W2 gr
  obtain ⟨p2, n2, k2, rfl⟩ := row_slice own
  clear c0 f0 own gr pl OWN HPU HC HS
  go_wp2
  exact bodyPost_ret (v := .tuple #[]) (results_none rfl _ _ _) rfl ⟨rfl, _, HS2.out⟩
/-- an item's bytes, up to the k-th number -/
def itTo (x : It) : Nat → List Int
  | 0 => [x.k]
  | 1 => [x.k] ++ numB x.n
  | 2 => [x.k] ++ (numB x.n ++ numB x.d)
  | 3 => [x.k] ++ (numB x.n ++ (numB x.d ++ numB x.lo))
  | _ => itB x
theorem itTo_len (x : It) (k : Nat) : (itTo x k).length ≤ 100 := by
  have h (n : Int) : (numB n).length ≤ 11 := numF_len 10 _
  have h1 := h x.n
  have h2 := h x.d
  have h3 := h x.lo
  have h4 := h x.hi
  unfold itTo
  split <;> simp [itB] <;> omega
set_option maxRecDepth 100000 in
set_option maxHeartbeats 8000000 in
theorem item_any (base : Nat) (wb : Nat) (v : Value) (L : List Int) (x : It) (W : World) (h : WrAt base W wb v L) (hx : ItFit x) (h0 : 0 ≤ x.k) (hl : L.length ≤ 1099511627776) : Calls Try.prog 87 #[.pointer (some ⟨wb, 0, none⟩), .agg #[.int .i8 x.k, .int .i64 x.n, .int .i64 x.d, .int .i64 x.lo, .int .i64 x.hi]] W (WrPost base W wb v (L ++ itB x)) := by
  have hk := hx.k
  have HN := Lib.hid (fun (L1 : List Int) (v1 : Value) (W1 : World) {m : Int} (h : WrAt base W1 wb v1 L1) (hm : NumOk m) => number_any base wb v1 L1 m W1 h (NumOk.lo hm) (NumOk.hi hm))
  have HF := Lib.hid hx
  have HO := Lib.hid (fun L1 v1 W1 h => octet_any base wb v1 L1 x.k W1 h h0 hk)
  have HW := Lib.hid h
  clear h hx
  go_enter Try.func87, Try.ntmps87
  go_wp2_with fail
  refine (HO.out L v _ (HW.out.later (by go_grown)) (by omega)).mono ?_
  obtain ⟨W1, hW1⟩ : ∃ W1, W1 = W.alloc (.cells #[.int .i8 x.k, .int .i64 x.n, .int .i64 x.d, .int .i64 x.lo, .int .i64 x.hi] 57) := ⟨_, rfl⟩
  have B1 : Below W.heap.size W W1 := by rw [hW1]; exact below_al (Below.refl _ _) _
  have hb1 : W1.heap[W.heap.size]? = some (.cells #[.int .i8 x.k, .int .i64 x.n, .int .i64 x.d, .int .i64 x.lo, .int .i64 x.hi] 57 (0, 0)) := by rw [hW1]; exact heap_alloc_new _ _
  rw [← hW1]
  rintro e w2 ⟨rfl, v1, hs1⟩
  have zb := HW.out.lt
  have zbb := HW.out.zb
  have hne : W.heap.size ≠ wb := by omega
  have hvo : v.ownBlock ≠ some W.heap.size := fun e => by have := (row_lt HW.out.own _ e).1; omega
  have hb2 := (hs1.fr W.heap.size (lt_of_block hb1) hne hvo).trans hb1
  have HS := Lib.hid (hs1.from B1 (by omega))
  have x1 : w2.cell? ⟨W.heap.size, 1, none⟩ = some (.int .i64 x.n) := by rw [cell_of_row _ _ _ _ _ _ hb2]; rfl
  have x2 : w2.cell? ⟨W.heap.size, 2, none⟩ = some (.int .i64 x.d) := by rw [cell_of_row _ _ _ _ _ _ hb2]; rfl
  have x3 : w2.cell? ⟨W.heap.size, 3, none⟩ = some (.int .i64 x.lo) := by rw [cell_of_row _ _ _ _ _ _ hb2]; rfl
  have x4 : w2.cell? ⟨W.heap.size, 4, none⟩ = some (.int .i64 x.hi) := by rw [cell_of_row _ _ _ _ _ _ hb2]; rfl
  have hz2 := lt_of_block hb2
  clear hs1 hb1 hb2 hvo hne hW1 B1 HO
  go_wp2
  have hlen := itTo_len x
  have ix0 : ∀ w, (Instr.index 58 (.agg #[.int .i64 x.n, .int .i64 x.d, .int .i64 x.lo, .int .i64 x.hi]) (.int .i64 0)).run Try.prog w = .ok (.int .i64 x.n) w := fun w => by kernel_rfl
  have ix1 : ∀ w, (Instr.index 58 (.agg #[.int .i64 x.n, .int .i64 x.d, .int .i64 x.lo, .int .i64 x.hi]) (.int .i64 1)).run Try.prog w = .ok (.int .i64 x.d) w := fun w => by kernel_rfl
  have ix2 : ∀ w, (Instr.index 58 (.agg #[.int .i64 x.n, .int .i64 x.d, .int .i64 x.lo, .int .i64 x.hi]) (.int .i64 2)).run Try.prog w = .ok (.int .i64 x.lo) w := fun w => by kernel_rfl
  have ix3 : ∀ w, (Instr.index 58 (.agg #[.int .i64 x.n, .int .i64 x.d, .int .i64 x.lo, .int .i64 x.hi]) (.int .i64 3)).run Try.prog w = .ok (.int .i64 x.hi) w := fun w => by kernel_rfl
  refine wp_loop_rounds 5 ?_
  have HX0 := Lib.hid (HN.out (L ++ itTo x 0) v1 w2 (m := x.n) HS.out.at_ HF.out.n (by have := hlen 0; rw [List.length_append]; omega))
  have HE0 := Lib.hid (show (L ++ itTo x 0) ++ numB x.n = L ++ itTo x 1 by simp [itTo, itB])
  rw [rounds_succ]
  go_wp2_with fail
  refine HX0.out.mono ?_
  rintro e w3 ⟨rfl, v2, hs⟩
  rw [HE0.out] at hs
  have HS0 := HS
  have HS := Lib.hid (HS0.out.trans hs)
  clear hs HX0 HE0 HS0
  go_wp2
  have HX1 := Lib.hid (HN.out (L ++ itTo x 1) v2 w3 (m := x.d) HS.out.at_ HF.out.d (by have := hlen 1; rw [List.length_append]; omega))
  have HE1 := Lib.hid (show (L ++ itTo x 1) ++ numB x.d = L ++ itTo x 2 by simp [itTo, itB])
  rw [rounds_succ]
  go_wp2_with fail
  refine HX1.out.mono ?_
  rintro e w4 ⟨rfl, v3, hs⟩
  rw [HE1.out] at hs
  have HS1 := HS
  have HS := Lib.hid (HS1.out.trans hs)
  clear hs HX1 HE1 HS1
  go_wp2
  have HX2 := Lib.hid (HN.out (L ++ itTo x 2) v3 w4 (m := x.lo) HS.out.at_ HF.out.lo (by have := hlen 2; rw [List.length_append]; omega))
  have HE2 := Lib.hid (show (L ++ itTo x 2) ++ numB x.lo = L ++ itTo x 3 by simp [itTo, itB])
  rw [rounds_succ]
  go_wp2_with fail
  refine HX2.out.mono ?_
  rintro e w5 ⟨rfl, v4, hs⟩
  rw [HE2.out] at hs
  have HS2 := HS
  have HS := Lib.hid (HS2.out.trans hs)
  clear hs HX2 HE2 HS2
  go_wp2
  have HX3 := Lib.hid (HN.out (L ++ itTo x 3) v4 w5 (m := x.hi) HS.out.at_ HF.out.hi (by have := hlen 3; rw [List.length_append]; omega))
  have HE3 := Lib.hid (show (L ++ itTo x 3) ++ numB x.hi = L ++ itTo x 4 by simp [itTo, itB])
  rw [rounds_succ]
  go_wp2_with fail
  refine HX3.out.mono ?_
  rintro e w6 ⟨rfl, v5, hs⟩
  rw [HE3.out] at hs
  have HS3 := HS
  have HS := Lib.hid (HS3.out.trans hs)
  clear hs HX3 HE3 HS3
  go_wp2
  rw [rounds_succ] 
  go_wp2
  exact bodyPost_ret (v := .tuple #[]) (results_none rfl _ _ _) rfl ⟨rfl, _, HS.out⟩
end Go.Proofs.Ytcihihncgpddfaa
namespace Go.Proofs.Ytcihihncgpddfaa
open Go.RowKit Go.Deep
set_option linter.unusedVariables false
set_option linter.unusedSimpArgs false

/-- a node that may be written: every number fits, none is too many -/
structure NdWr (x : Nd) : Prop where
  fit : NdFit x
  kind : 0 ≤ x.kind
  iwk : 0 ≤ x.iw.k
  ihk : 0 ≤ x.ih.k
  colk : ∀ y ∈ x.cols, 0 ≤ y.k
  bd : 0 ≤ x.border
  al : 0 ≤ x.align
  cr : 0 ≤ x.cross
  wr : 0 ≤ x.wrap
  fl : 0 ≤ x.flags
  ad : 0 ≤ x.add
  dr : 0 ≤ x.drop
  id : x.id.size ≤ 65536
  cls : x.cls.size ≤ 65536
  text : x.text.size ≤ 65536
  kidl : x.kids.length ≤ 4096
  coll : x.cols.length ≤ 4096
/-- where the node lies: in the world ahead of all writing -/
structure Src1 (w0 : World) (b o : Nat) (x : Nd) (W : World) : Prop where
  nd : NdAt w0 b o x
  lt : b < w0.heap.size
  be : Below w0.heap.size w0 W
theorem Src1.now {w0 W : World} {b o : Nat} {x : Nd} (h : Src1 w0 b o x W) : NdAt W b o x := h.nd.later h.be (Nat.le_refl _) h.lt
theorem Src1.ltW {w0 W : World} {b o : Nat} {x : Nd} (h : Src1 w0 b o x W) : b < W.heap.size := Nat.lt_of_lt_of_le h.lt h.be.size
theorem Src1.next {w0 W W' : World} {b o : Nat} {x : Nd} (h : Src1 w0 b o x W) (hb : Below w0.heap.size W W') : Src1 w0 b o x W' := ⟨h.nd, h.lt, h.be.trans hb⟩
theorem numB_len (n : Int) : (numB n).length ≤ 11 := numF_len 10 _
theorem kidsB_len : ∀ (l : List Int), (kidsB l).length ≤ 11 * l.length
  | [] => by simp [kidsB]
  | a :: l => by
    have h := kidsB_len l
    have h1 := numB_len a
    unfold kidsB at *
    rw [List.flatMap_cons, List.length_append, List.length_cons]
    omega
theorem itB_len (x : It) : (itB x).length ≤ 45 := by
  have h1 := numB_len x.n
  have h2 := numB_len x.d
  have h3 := numB_len x.lo
  have h4 := numB_len x.hi
  simp [itB]; omega
theorem itsB_len : ∀ (l : List It), (itsB l).length ≤ 45 * l.length
  | [] => by simp [itsB]
  | a :: l => by
    have h := itsB_len l
    have h1 := itB_len a
    unfold itsB at *
    rw [List.flatMap_cons, List.length_append, List.length_cons]
    omega
theorem sgnB_len (n : Int) : (sgnB n).length ≤ 11 := numF_len 10 _
theorem txtB_len (s : ByteArray) : (txtB s).length ≤ 11 + s.size := by
  have := numB_len s.size
  unfold txtB
  rw [List.length_append, strB_len]
  omega
theorem partB_len {x : Nd} (h : NdWr x) (k : Nat) : (partB x k).length ≤ 300000 := by
  have a1 := h.id
  have a2 := h.cls
  have a3 := h.text
  have a4 := h.kidl
  have a5 := h.coll
  have c1 := txtB_len x.id
  have c2 := txtB_len x.cls
  have c3 := txtB_len x.text
  have c4 := kidsB_len x.kids
  have c5 := itsB_len x.cols
  have c6 := itB_len x.iw
  have c7 := itB_len x.ih
  have n0 := numB_len x.kids.length
  have n1 := numB_len x.cols.length
  have n2 := numB_len x.gap
  have n3 := numB_len x.p0
  have n4 := numB_len x.p1
  have n5 := numB_len x.p2
  have n6 := numB_len x.p3
  have n7 := numB_len x.fg
  have n8 := numB_len x.bg
  have s0 := sgnB_len x.x0
  have s1 := sgnB_len x.x1
  have s2 := sgnB_len x.x2
  have s3 := sgnB_len x.x3
  unfold partB
  split <;> (try simp only [List.length_append, List.length_cons, List.length_nil]) <;> omega
theorem kidsB_take {l : List Int} {j : Nat} (h : j < l.length) : kidsB (l.take (j + 1)) = kidsB (l.take j) ++ numB (l.getD j 0) := by
  unfold kidsB
  rw [List.take_succ_eq_append_getElem h, List.flatMap_append]
  simp [List.getD_eq_getElem?_getD, List.getElem?_eq_getElem h]
theorem itsB_take {l : List It} {j : Nat} (h : j < l.length) : itsB (l.take (j + 1)) = itsB (l.take j) ++ itB (l.getD j zIt) := by
  unfold itsB
  rw [List.take_succ_eq_append_getElem h, List.flatMap_append]
  simp [List.getD_eq_getElem?_getD, List.getElem?_eq_getElem h]
theorem mem_getD {α : Type} {l : List α} {j : Nat} (d : α) (h : j < l.length) : l.getD j d ∈ l := by
  rw [List.getD_eq_getElem?_getD, List.getElem?_eq_getElem h]; exact List.getElem_mem h
theorem WrPost.self {base : Nat} {W W' : World} {wb : Nat} {v v' : Value} {L : List Int} (h : WrS base W wb v L v' W') : WrPost base W wb v L (.returned (.tuple #[])) W' := ⟨rfl, v', h⟩
set_option maxRecDepth 100000 in
set_option maxHeartbeats 8000000 in
theorem put0 (w0 : World) (wb : Nat) (v : Value) (L : List Int) (b o : Nat) (x : Nd) (W : World) (h : WrAt w0.heap.size W wb v L) (hN : Src1 w0 b o x W) (hx : NdWr x) (hl : L.length ≤ 4294967296) : Calls Try.prog 73 #[.pointer (some ⟨wb, 0, none⟩), .pointer (some ⟨b, o, none⟩)] W (WrPost w0.heap.size W wb v (L ++ partB x 0)) := by
  obtain ⟨kv, cv, hkv, hcv, hc⟩ := hN.now
  have zb := hN.ltW
  have c0 : W.cell? ⟨b, o, none⟩ = some (.int .i8 x.kind) := hc 0 (by omega)
  have HC := Lib.hid (octet_any w0.heap.size wb v L x.kind W h hx.kind hx.fit.kind (by omega))
  clear h hx hN hkv hcv hc
  go_enter Try.func73, Try.ntmps73
  go_wp2_with fail
  refine HC.out.mono ?_
  clear HC
  rintro e w1 ⟨rfl, v1, hs⟩
  have HS := Lib.hid hs
  clear hs
  go_wp2
  exact bodyPost_ret (v := .tuple #[]) (results_none rfl _ _ _) rfl ⟨rfl, v1, HS.out⟩
set_option maxRecDepth 100000 in
set_option maxHeartbeats 8000000 in
theorem put1 (w0 : World) (wb : Nat) (v : Value) (L : List Int) (b o : Nat) (x : Nd) (W : World) (h : WrAt w0.heap.size W wb v L) (hN : Src1 w0 b o x W) (hx : NdWr x) (hl : L.length ≤ 4294967296) : Calls Try.prog 76 #[.pointer (some ⟨wb, 0, none⟩), .pointer (some ⟨b, o, none⟩)] W (WrPost w0.heap.size W wb v (L ++ partB x 1)) := by
  obtain ⟨kv, cv, hkv, hcv, hc⟩ := hN.now
  have zb := hN.ltW
  have c1 : W.cell? ⟨b, o + 1, none⟩ = some (.string x.id) := hc 1 (by omega)
  have HC := Lib.hid (text_any w0.heap.size wb v L x.id W h (by have := hx.id; omega) (by omega))
  clear h hx hN hkv hcv hc
  go_enter Try.func76, Try.ntmps76
  go_wp2_with fail
  refine HC.out.mono ?_
  clear HC
  rintro e w1 ⟨rfl, v1, hs⟩
  have HS := Lib.hid hs
  clear hs
  go_wp2
  exact bodyPost_ret (v := .tuple #[]) (results_none rfl _ _ _) rfl ⟨rfl, v1, HS.out⟩
set_option maxRecDepth 100000 in
set_option maxHeartbeats 8000000 in
theorem put2 (w0 : World) (wb : Nat) (v : Value) (L : List Int) (b o : Nat) (x : Nd) (W : World) (h : WrAt w0.heap.size W wb v L) (hN : Src1 w0 b o x W) (hx : NdWr x) (hl : L.length ≤ 4294967296) : Calls Try.prog 80 #[.pointer (some ⟨wb, 0, none⟩), .pointer (some ⟨b, o, none⟩)] W (WrPost w0.heap.size W wb v (L ++ partB x 2)) := by
  obtain ⟨kv, cv, hkv, hcv, hc⟩ := hN.now
  have zb := hN.ltW
  have c2 : W.cell? ⟨b, o + 2, none⟩ = some (.string x.cls) := hc 2 (by omega)
  have HC := Lib.hid (text_any w0.heap.size wb v L x.cls W h (by have := hx.cls; omega) (by omega))
  clear h hx hN hkv hcv hc
  go_enter Try.func80, Try.ntmps80
  go_wp2_with fail
  refine HC.out.mono ?_
  clear HC
  rintro e w1 ⟨rfl, v1, hs⟩
  have HS := Lib.hid hs
  clear hs
  go_wp2
  exact bodyPost_ret (v := .tuple #[]) (results_none rfl _ _ _) rfl ⟨rfl, v1, HS.out⟩
set_option maxRecDepth 100000 in
set_option maxHeartbeats 8000000 in
theorem put3 (w0 : World) (wb : Nat) (v : Value) (L : List Int) (b o : Nat) (x : Nd) (W : World) (h : WrAt w0.heap.size W wb v L) (hN : Src1 w0 b o x W) (hx : NdWr x) (hl : L.length ≤ 4294967296) : Calls Try.prog 82 #[.pointer (some ⟨wb, 0, none⟩), .pointer (some ⟨b, o, none⟩)] W (WrPost w0.heap.size W wb v (L ++ partB x 3)) := by
  obtain ⟨kv, cv, hkv, hcv, hc⟩ := hN.now
  have zb := hN.ltW
  have c22 : W.cell? ⟨b, o + 22, none⟩ = some (.string x.text) := hc 22 (by omega)
  have HC := Lib.hid (text_any w0.heap.size wb v L x.text W h (by have := hx.text; omega) (by omega))
  clear h hx hN hkv hcv hc
  go_enter Try.func82, Try.ntmps82
  go_wp2_with fail
  refine HC.out.mono ?_
  clear HC
  rintro e w1 ⟨rfl, v1, hs⟩
  have HS := Lib.hid hs
  clear hs
  go_wp2
  exact bodyPost_ret (v := .tuple #[]) (results_none rfl _ _ _) rfl ⟨rfl, v1, HS.out⟩
set_option maxRecDepth 100000 in
set_option maxHeartbeats 8000000 in
theorem put5 (w0 : World) (wb : Nat) (v : Value) (L : List Int) (b o : Nat) (x : Nd) (W : World) (h : WrAt w0.heap.size W wb v L) (hN : Src1 w0 b o x W) (hx : NdWr x) (hl : L.length ≤ 4294967296) : Calls Try.prog 86 #[.pointer (some ⟨wb, 0, none⟩), .pointer (some ⟨b, o, none⟩)] W (WrPost w0.heap.size W wb v (L ++ partB x 5)) := by
  obtain ⟨kv, cv, hkv, hcv, hc⟩ := hN.now
  have zb := hN.ltW
  have c4 : W.cell? ⟨b, o + 4, none⟩ = some (.int .i8 x.iw.k) := hc 4 (by omega)
  have c5 : W.cell? ⟨b, o + 5, none⟩ = some (.int .i64 x.iw.n) := hc 5 (by omega)
  have c6 : W.cell? ⟨b, o + 6, none⟩ = some (.int .i64 x.iw.d) := hc 6 (by omega)
  have c7 : W.cell? ⟨b, o + 7, none⟩ = some (.int .i64 x.iw.lo) := hc 7 (by omega)
  have c8 : W.cell? ⟨b, o + 8, none⟩ = some (.int .i64 x.iw.hi) := hc 8 (by omega)
  have HC := Lib.hid (item_any w0.heap.size wb v L x.iw W h hx.fit.iw hx.iwk (by omega))
  clear h hx hN hkv hcv hc
  go_enter Try.func86, Try.ntmps86
  go_wp2_with fail
  refine HC.out.mono ?_
  clear HC
  rintro e w1 ⟨rfl, v1, hs⟩
  have HS := Lib.hid hs
  clear hs
  go_wp2
  exact bodyPost_ret (v := .tuple #[]) (results_none rfl _ _ _) rfl ⟨rfl, v1, HS.out⟩
set_option maxRecDepth 100000 in
set_option maxHeartbeats 8000000 in
theorem put6 (w0 : World) (wb : Nat) (v : Value) (L : List Int) (b o : Nat) (x : Nd) (W : World) (h : WrAt w0.heap.size W wb v L) (hN : Src1 w0 b o x W) (hx : NdWr x) (hl : L.length ≤ 4294967296) : Calls Try.prog 90 #[.pointer (some ⟨wb, 0, none⟩), .pointer (some ⟨b, o, none⟩)] W (WrPost w0.heap.size W wb v (L ++ partB x 6)) := by
  obtain ⟨kv, cv, hkv, hcv, hc⟩ := hN.now
  have zb := hN.ltW
  have c9 : W.cell? ⟨b, o + 9, none⟩ = some (.int .i8 x.ih.k) := hc 9 (by omega)
  have c10 : W.cell? ⟨b, o + 10, none⟩ = some (.int .i64 x.ih.n) := hc 10 (by omega)
  have c11 : W.cell? ⟨b, o + 11, none⟩ = some (.int .i64 x.ih.d) := hc 11 (by omega)
  have c12 : W.cell? ⟨b, o + 12, none⟩ = some (.int .i64 x.ih.lo) := hc 12 (by omega)
  have c13 : W.cell? ⟨b, o + 13, none⟩ = some (.int .i64 x.ih.hi) := hc 13 (by omega)
  have HC := Lib.hid (item_any w0.heap.size wb v L x.ih W h hx.fit.ih hx.ihk (by omega))
  clear h hx hN hkv hcv hc
  go_enter Try.func90, Try.ntmps90
  go_wp2_with fail
  refine HC.out.mono ?_
  clear HC
  rintro e w1 ⟨rfl, v1, hs⟩
  have HS := Lib.hid hs
  clear hs
  go_wp2
  exact bodyPost_ret (v := .tuple #[]) (results_none rfl _ _ _) rfl ⟨rfl, v1, HS.out⟩
set_option maxRecDepth 100000 in
set_option maxHeartbeats 8000000 in
theorem put7 (w0 : World) (wb : Nat) (v : Value) (L : List Int) (b o : Nat) (x : Nd) (W : World) (h : WrAt w0.heap.size W wb v L) (hN : Src1 w0 b o x W) (hx : NdWr x) (hl : L.length ≤ 4294967296) : Calls Try.prog 92 #[.pointer (some ⟨wb, 0, none⟩), .pointer (some ⟨b, o, none⟩)] W (WrPost w0.heap.size W wb v (L ++ partB x 7)) := by
  obtain ⟨kv, cv, hkv, hcv, hc⟩ := hN.now
  have zb := hN.ltW
  have c14 : W.cell? ⟨b, o + 14, none⟩ = some (.int .i64 x.gap) := hc 14 (by omega)
  have HC := Lib.hid (number_any w0.heap.size wb v L x.gap W h hx.fit.gap.lo hx.fit.gap.hi (by omega))
  clear h hx hN hkv hcv hc
  go_enter Try.func92, Try.ntmps92
  go_wp2_with fail
  refine HC.out.mono ?_
  clear HC
  rintro e w1 ⟨rfl, v1, hs⟩
  have HS := Lib.hid hs
  clear hs
  go_wp2
  exact bodyPost_ret (v := .tuple #[]) (results_none rfl _ _ _) rfl ⟨rfl, v1, HS.out⟩
set_option maxRecDepth 100000 in
set_option maxHeartbeats 8000000 in
theorem put4 (w0 : World) (wb : Nat) (v : Value) (L : List Int) (b o : Nat) (x : Nd) (W : World) (h : WrAt w0.heap.size W wb v L) (hN : Src1 w0 b o x W) (hx : NdWr x) (hl : L.length ≤ 4294967296) : Calls Try.prog 84 #[.pointer (some ⟨wb, 0, none⟩), .pointer (some ⟨b, o, none⟩)] W (WrPost w0.heap.size W wb v (L ++ partB x 4)) := by
  obtain ⟨kv, cv, hkv, hcv, hc⟩ := hN.now
  have zb := hN.ltW
  obtain ⟨pk, ck, rfl, hk1, hk2, _, _⟩ := hkv
  have c3 : W.cell? ⟨b, o + 3, none⟩ = some (.slice pk x.kids.length ck) := hc 3 (by omega)
  have hkl := hx.kidl
  have HKN := Lib.hid hx.fit.kids
  have HN0 := Lib.hid hN
  have HC := Lib.hid (number_any w0.heap.size wb v L x.kids.length W h (by omega) (by omega) (by omega))
  have HKC := Lib.hid (fun (w' : World) (hb : Below w0.heap.size W w') => show w'.cell? ⟨b, o + 3, none⟩ = some (.slice pk x.kids.length ck) ∧ IntsAt w' (.slice pk x.kids.length ck) x.kids by
    have h1 := (hN.next hb).now
    have h2 : w'.cell? ⟨b, o + 3, none⟩ = some (.slice pk x.kids.length ck) := by rw [(bcell hb).1 _ _ hN.lt]; exact c3
    obtain ⟨kv', cv', hk', _, hc'⟩ := h1
    have e : kv' = .slice pk x.kids.length ck := by
      have := hc' 3 (by omega)
      rw [h2] at this
      exact (Option.some.inj this).symm
    rw [e] at hk'
    exact ⟨h2, hk'⟩)
  have HPB := Lib.hid (show L ++ partB x 4 = L ++ numB x.kids.length ++ kidsB x.kids by rw [List.append_assoc]; rfl)
  rw [HPB.out]
  have hn11 := numB_len (x.kids.length : Int)
  have hkb : ∀ j, (kidsB (x.kids.take j)).length ≤ 11 * x.kids.length := fun j => Nat.le_trans (kidsB_len _) (Nat.mul_le_mul_left _ (by rw [List.length_take]; omega))
  have HT := Lib.hid (fun j (h : j < x.kids.length) => kidsB_take h)
  have HM := Lib.hid (fun j (h : j < x.kids.length) => HKN.out _ (mem_getD 0 h))
  have HALL := Lib.hid (show kidsB (x.kids.take x.kids.length) = kidsB x.kids by rw [List.take_length])
  clear h hx hN hcv hc HPB HKN
  generalize hKS : x.kids = ks at *
  obtain ⟨L0, hL0⟩ : ∃ L0, L0 = L ++ numB ks.length := ⟨_, rfl⟩
  have hL0l : L0.length ≤ 4294967307 := by rw [hL0, List.length_append]; omega
  rw [← hL0]
  rw [← hL0] at HC
  clear hL0 hn11
  go_enter Try.func84, Try.ntmps84
  go_wp2_with fail
  refine HC.out.mono ?_
  clear HC
  rintro e w1 ⟨rfl, v1, hs⟩
  have HS := Lib.hid hs
  have BB := hs.be
  have zb1 : b < w1.heap.size := Nat.lt_of_lt_of_le zb hs.sz
  obtain ⟨d3, _⟩ := HKC.out _ BB
  clear hs c3 BB zb
  go_wp2
  go_loopw [18] (fun i wr => ∃ (j : Nat) (v2 : Value), j ≤ ks.length ∧ i = .int .i64 j ∧ RowKit.Hid (WrS w0.heap.size W wb v (L0 ++ kidsB (ks.take j)) v2 wr)) (fun i _ => ks.length - (intOf i).toNat)
  case atStart => exact ⟨0, v1, Nat.zero_le _, rfl, Lib.hid (by simpa [kidsB] using HS.out)⟩
  case round =>
    clear HS d3 zb1
    obtain ⟨j, v2, hj, rfl, HS⟩ := hrel
    have BR := HS.out.be
    by_cases hlt : j < ks.length
    · have hji : (j : Int) < (ks.length : Int) := by omega
      obtain ⟨_, p', c', e', _, _, _, hkc⟩ := HKC.out _ BR
      injection e' with e1 _ e3
      subst e1 e3
      obtain ⟨bk, ok, rfl, hbk, hkc⟩ := hkc (by omega)
      have ck0 := hkc j hlt
      have hm := HM.out j hlt
      have HC2 := Lib.hid (number_any w0.heap.size wb v2 _ (ks.getD j 0) wr HS.out.at_ hm.lo hm.hi (by rw [List.length_append]; have := hkb j; omega))
      have HT2 := Lib.hid (HT.out j hlt)
      clear hkc hm BR
      generalize ks.getD j 0 = kq at *
      go_wp2_with fail
      refine HC2.out.mono ?_
      clear HC2
      rintro e w2 ⟨rfl, v3, hs⟩
      rw [List.append_assoc, ← HT2.out] at hs
      have HS2 := Lib.hid (HS.out.trans hs)
      clear hs HS
      go_wp2
      go_roundw
      case rel => exact ⟨j + 1, v3, by omega, by go_num, HS2⟩
      case measure => simp [intOf]; omega
    · obtain rfl : j = ks.length := by omega
      clear BR
      go_wp2
      exact bodyPost_ret (v := .tuple #[]) (results_none rfl _ _ _) rfl (WrPost.self (by rw [← HALL.out]; exact HS.out))
set_option maxRecDepth 100000 in
set_option maxHeartbeats 8000000 in
theorem put11 (w0 : World) (wb : Nat) (v : Value) (L : List Int) (b o : Nat) (x : Nd) (W : World) (h : WrAt w0.heap.size W wb v L) (hN : Src1 w0 b o x W) (hx : NdWr x) (hl : L.length ≤ 4294967296) : Calls Try.prog 100 #[.pointer (some ⟨wb, 0, none⟩), .pointer (some ⟨b, o, none⟩)] W (WrPost w0.heap.size W wb v (L ++ partB x 11)) := by
  obtain ⟨kv, cv, hkv, hcv, hc⟩ := hN.now
  have zb := hN.ltW
  obtain ⟨pk, ck, rfl, hk1, hk2, _, _⟩ := hcv
  have c28 : W.cell? ⟨b, o + 28, none⟩ = some (.slice pk x.cols.length ck) := hc 28 (by omega)
  have hkl := hx.coll
  have HKN := Lib.hid hx.fit.cols
  have HK0 := Lib.hid hx.colk
  have HN0 := Lib.hid hN
  have HC := Lib.hid (number_any w0.heap.size wb v L x.cols.length W h (by omega) (by omega) (by omega))
  have HKC := Lib.hid (fun (w' : World) (hb : Below w0.heap.size W w') => show w'.cell? ⟨b, o + 28, none⟩ = some (.slice pk x.cols.length ck) ∧ ItsAt w' (.slice pk x.cols.length ck) x.cols by
    have h1 := (hN.next hb).now
    have h2 : w'.cell? ⟨b, o + 28, none⟩ = some (.slice pk x.cols.length ck) := by rw [(bcell hb).1 _ _ hN.lt]; exact c28
    obtain ⟨kv', cv', _, hk', hc'⟩ := h1
    have e : cv' = .slice pk x.cols.length ck := by
      have := hc' 28 (by omega)
      rw [h2] at this
      exact (Option.some.inj this).symm
    rw [e] at hk'
    exact ⟨h2, hk'⟩)
  have HPB := Lib.hid (show L ++ partB x 11 = L ++ numB x.cols.length ++ itsB x.cols by rw [List.append_assoc]; rfl)
  rw [HPB.out]
  have hn11 := numB_len (x.cols.length : Int)
  have hkb : ∀ j, (itsB (x.cols.take j)).length ≤ 45 * x.cols.length := fun j => Nat.le_trans (itsB_len _) (Nat.mul_le_mul_left _ (by rw [List.length_take]; omega))
  have HT := Lib.hid (fun j (h : j < x.cols.length) => itsB_take h)
  have HM := Lib.hid (fun j (h : j < x.cols.length) => HKN.out _ (mem_getD zIt h))
  have HM0 := Lib.hid (fun j (h : j < x.cols.length) => HK0.out _ (mem_getD zIt h))
  have HALL := Lib.hid (show itsB (x.cols.take x.cols.length) = itsB x.cols by rw [List.take_length])
  clear h hx hN hkv hc HPB HKN HK0
  generalize hKS : x.cols = ks at *
  obtain ⟨L0, hL0⟩ : ∃ L0, L0 = L ++ numB ks.length := ⟨_, rfl⟩
  have hL0l : L0.length ≤ 4294967307 := by rw [hL0, List.length_append]; omega
  rw [← hL0]
  rw [← hL0] at HC
  clear hL0 hn11
  go_enter Try.func100, Try.ntmps100
  go_wp2_with fail
  refine HC.out.mono ?_
  clear HC
  rintro e w1 ⟨rfl, v1, hs⟩
  have HS := Lib.hid hs
  have BB := hs.be
  have zb1 : b < w1.heap.size := Nat.lt_of_lt_of_le zb hs.sz
  obtain ⟨d3, _⟩ := HKC.out _ BB
  clear hs c28 BB zb
  go_wp2
  go_loopw [18] (fun i wr => ∃ (j : Nat) (v2 : Value), j ≤ ks.length ∧ i = .int .i64 j ∧ RowKit.Hid (WrS w0.heap.size W wb v (L0 ++ itsB (ks.take j)) v2 wr)) (fun i _ => ks.length - (intOf i).toNat)
  case atStart => exact ⟨0, v1, Nat.zero_le _, rfl, Lib.hid (by simpa [itsB] using HS.out)⟩
  case round =>
    clear HS d3 zb1
    obtain ⟨j, v2, hj, rfl, HS⟩ := hrel
    have BR := HS.out.be
    by_cases hlt : j < ks.length
    · have hji : (j : Int) < (ks.length : Int) := by omega
      obtain ⟨_, p', c', e', _, _, _, hkc⟩ := HKC.out _ BR
      injection e' with e1 _ e3
      subst e1 e3
      obtain ⟨bk, ok, rfl, hbk, hkc⟩ := hkc (by omega)
      have i0 : wr.cell? ⟨bk, ok + j * 5, none⟩ = some (.int .i8 (ks.getD j zIt).k) := hkc j hlt 0 (by omega)
      have i1 : wr.cell? ⟨bk, ok + j * 5 + 1, none⟩ = some (.int .i64 (ks.getD j zIt).n) := hkc j hlt 1 (by omega)
      have i2 : wr.cell? ⟨bk, ok + j * 5 + 2, none⟩ = some (.int .i64 (ks.getD j zIt).d) := hkc j hlt 2 (by omega)
      have i3 : wr.cell? ⟨bk, ok + j * 5 + 3, none⟩ = some (.int .i64 (ks.getD j zIt).lo) := hkc j hlt 3 (by omega)
      have i4 : wr.cell? ⟨bk, ok + j * 5 + 4, none⟩ = some (.int .i64 (ks.getD j zIt).hi) := hkc j hlt 4 (by omega)
      have hm := HM.out j hlt
      have BA := below_al (Below.refl wr.heap.size wr) (.cells #[.int .i8 (ks.getD j zIt).k, .int .i64 (ks.getD j zIt).n, .int .i64 (ks.getD j zIt).d, .int .i64 (ks.getD j zIt).lo, .int .i64 (ks.getD j zIt).hi] 57)
      have HC2 := Lib.hid (item_any w0.heap.size wb v2 _ (ks.getD j zIt) _ (HS.out.at_.later BA) hm (HM0.out j hlt) (by rw [List.length_append]; have := hkb j; omega))
      have hzz : w0.heap.size ≤ wr.heap.size := by have := HS.out.at_.zb; have := HS.out.at_.lt; omega
      have HT2 := Lib.hid (HT.out j hlt)
      have HBA := Lib.hid BA
      clear hkc hm BR BA
      generalize ks.getD j zIt = kq at *
      obtain ⟨kk, kn, kd, klo, khi⟩ := kq
      go_wp2_with fail
      refine HC2.out.mono ?_
      clear HC2
      rintro e w2 ⟨rfl, v3, hs⟩
      rw [List.append_assoc, ← HT2.out] at hs
      have HS2 := Lib.hid (HS.out.trans (hs.from HBA.out hzz))
      clear hs HS HBA
      go_wp2
      go_roundw
      case rel => exact ⟨j + 1, v3, by omega, by go_num, HS2⟩
      case measure => simp [intOf]; omega
    · obtain rfl : j = ks.length := by omega
      clear BR
      go_wp2
      exact bodyPost_ret (v := .tuple #[]) (results_none rfl _ _ _) rfl (WrPost.self (by rw [← HALL.out]; exact HS.out))
set_option maxRecDepth 100000 in
set_option maxHeartbeats 8000000 in
theorem put8 (w0 : World) (wb : Nat) (v : Value) (L : List Int) (b o : Nat) (x : Nd) (W : World) (h : WrAt w0.heap.size W wb v L) (hN : Src1 w0 b o x W) (hx : NdWr x) (hl : L.length ≤ 4294967296) : Calls Try.prog 94 #[.pointer (some ⟨wb, 0, none⟩), .pointer (some ⟨b, o, none⟩)] W (WrPost w0.heap.size W wb v (L ++ partB x 8)) := by
  obtain ⟨kv, cv, hkv, hcv, hc⟩ := hN.now
  have zb := hN.ltW
  have c15 : W.cell? ⟨b, o + 15, none⟩ = some (.int .i64 x.p0) := hc 15 (by omega)
  have c16 : W.cell? ⟨b, o + 16, none⟩ = some (.int .i64 x.p1) := hc 16 (by omega)
  have c17 : W.cell? ⟨b, o + 17, none⟩ = some (.int .i64 x.p2) := hc 17 (by omega)
  have c18 : W.cell? ⟨b, o + 18, none⟩ = some (.int .i64 x.p3) := hc 18 (by omega)
  have HW := Lib.hid h
  have HX := Lib.hid hx
  clear h hx hN hkv hcv hc
  have hlen : ∀ n, (numB n).length ≤ 11 := fun n => numF_len 10 _
  have ix0 : ∀ w, (Instr.index 58 (.agg #[.int .i64 x.p0, .int .i64 x.p1, .int .i64 x.p2, .int .i64 x.p3]) (.int .i64 0)).run Try.prog w = .ok (.int .i64 x.p0) w := fun w => by kernel_rfl
  have ix1 : ∀ w, (Instr.index 58 (.agg #[.int .i64 x.p0, .int .i64 x.p1, .int .i64 x.p2, .int .i64 x.p3]) (.int .i64 1)).run Try.prog w = .ok (.int .i64 x.p1) w := fun w => by kernel_rfl
  have ix2 : ∀ w, (Instr.index 58 (.agg #[.int .i64 x.p0, .int .i64 x.p1, .int .i64 x.p2, .int .i64 x.p3]) (.int .i64 2)).run Try.prog w = .ok (.int .i64 x.p2) w := fun w => by kernel_rfl
  have ix3 : ∀ w, (Instr.index 58 (.agg #[.int .i64 x.p0, .int .i64 x.p1, .int .i64 x.p2, .int .i64 x.p3]) (.int .i64 3)).run Try.prog w = .ok (.int .i64 x.p3) w := fun w => by kernel_rfl
  go_enter Try.func94, Try.ntmps94
  go_wp2
  refine wp_loop_rounds 5 ?_
  rw [rounds_succ]
  have HC0 := Lib.hid (number_any w0.heap.size wb v L x.p0 W HW.out (HX.out.fit.p0).lo (HX.out.fit.p0).hi (by omega))
  go_wp2_with fail
  refine HC0.out.mono ?_
  clear HC0
  obtain ⟨L1, hL1⟩ : ∃ l, l = L ++ numB x.p0 := ⟨_, rfl⟩
  rw [← hL1]
  have hl1 : L1.length ≤ 4294967296 + 11 := by rw [hL1, List.length_append]; have := hlen x.p0; omega
  have HL1 := Lib.hid hL1
  clear hL1
  rintro e w1 ⟨rfl, v1, hs⟩
  have HS1 := Lib.hid hs
  clear hs
  go_wp2
  rw [rounds_succ]
  have HC1 := Lib.hid (number_any w0.heap.size wb v1 L1 x.p1 w1 HS1.out.at_ (HX.out.fit.p1).lo (HX.out.fit.p1).hi (by omega))
  go_wp2_with fail
  refine HC1.out.mono ?_
  clear HC1
  obtain ⟨L2, hL2⟩ : ∃ l, l = L1 ++ numB x.p1 := ⟨_, rfl⟩
  rw [← hL2]
  have hl2 : L2.length ≤ 4294967296 + 22 := by rw [hL2, List.length_append]; have := hlen x.p1; omega
  have HL2 := Lib.hid hL2
  clear hL2
  rintro e w2 ⟨rfl, v2, hs⟩
  have HS2 := Lib.hid (HS1.out.trans hs)
  clear hs
  go_wp2
  rw [rounds_succ]
  have HC2 := Lib.hid (number_any w0.heap.size wb v2 L2 x.p2 w2 HS2.out.at_ (HX.out.fit.p2).lo (HX.out.fit.p2).hi (by omega))
  go_wp2_with fail
  refine HC2.out.mono ?_
  clear HC2
  obtain ⟨L3, hL3⟩ : ∃ l, l = L2 ++ numB x.p2 := ⟨_, rfl⟩
  rw [← hL3]
  have hl3 : L3.length ≤ 4294967296 + 33 := by rw [hL3, List.length_append]; have := hlen x.p2; omega
  have HL3 := Lib.hid hL3
  clear hL3
  rintro e w3 ⟨rfl, v3, hs⟩
  have HS3 := Lib.hid (HS2.out.trans hs)
  clear hs
  go_wp2
  rw [rounds_succ]
  have HC3 := Lib.hid (number_any w0.heap.size wb v3 L3 x.p3 w3 HS3.out.at_ (HX.out.fit.p3).lo (HX.out.fit.p3).hi (by omega))
  go_wp2_with fail
  refine HC3.out.mono ?_
  clear HC3
  obtain ⟨L4, hL4⟩ : ∃ l, l = L3 ++ numB x.p3 := ⟨_, rfl⟩
  rw [← hL4]
  have hl4 : L4.length ≤ 4294967296 + 44 := by rw [hL4, List.length_append]; have := hlen x.p3; omega
  have HL4 := Lib.hid hL4
  clear hL4
  rintro e w4 ⟨rfl, v4, hs⟩
  have HS4 := Lib.hid (HS3.out.trans hs)
  clear hs
  go_wp2
  rw [rounds_succ]
  go_wp2
  have E : L ++ partB x 8 = L4 := by rw [HL4.out, HL3.out, HL2.out, HL1.out]; simp [partB]
  rw [E]
  exact bodyPost_ret (v := .tuple #[]) (results_none rfl _ _ _) rfl ⟨rfl, v4, HS4.out⟩
set_option maxRecDepth 100000 in
set_option maxHeartbeats 8000000 in
theorem put12 (w0 : World) (wb : Nat) (v : Value) (L : List Int) (b o : Nat) (x : Nd) (W : World) (h : WrAt w0.heap.size W wb v L) (hN : Src1 w0 b o x W) (hx : NdWr x) (hl : L.length ≤ 4294967296) : Calls Try.prog 102 #[.pointer (some ⟨wb, 0, none⟩), .pointer (some ⟨b, o, none⟩)] W (WrPost w0.heap.size W wb v (L ++ partB x 12)) := by
  obtain ⟨kv, cv, hkv, hcv, hc⟩ := hN.now
  have zb := hN.ltW
  have c29 : W.cell? ⟨b, o + 29, none⟩ = some (.int .i64 x.x0) := hc 29 (by omega)
  have c30 : W.cell? ⟨b, o + 30, none⟩ = some (.int .i64 x.x1) := hc 30 (by omega)
  have c31 : W.cell? ⟨b, o + 31, none⟩ = some (.int .i64 x.x2) := hc 31 (by omega)
  have c32 : W.cell? ⟨b, o + 32, none⟩ = some (.int .i64 x.x3) := hc 32 (by omega)
  have HW := Lib.hid h
  have HX := Lib.hid hx
  clear h hx hN hkv hcv hc
  have hlen : ∀ n, (sgnB n).length ≤ 11 := fun n => numF_len 10 _
  have ix0 : ∀ w, (Instr.index 58 (.agg #[.int .i64 x.x0, .int .i64 x.x1, .int .i64 x.x2, .int .i64 x.x3]) (.int .i64 0)).run Try.prog w = .ok (.int .i64 x.x0) w := fun w => by kernel_rfl
  have ix1 : ∀ w, (Instr.index 58 (.agg #[.int .i64 x.x0, .int .i64 x.x1, .int .i64 x.x2, .int .i64 x.x3]) (.int .i64 1)).run Try.prog w = .ok (.int .i64 x.x1) w := fun w => by kernel_rfl
  have ix2 : ∀ w, (Instr.index 58 (.agg #[.int .i64 x.x0, .int .i64 x.x1, .int .i64 x.x2, .int .i64 x.x3]) (.int .i64 2)).run Try.prog w = .ok (.int .i64 x.x2) w := fun w => by kernel_rfl
  have ix3 : ∀ w, (Instr.index 58 (.agg #[.int .i64 x.x0, .int .i64 x.x1, .int .i64 x.x2, .int .i64 x.x3]) (.int .i64 3)).run Try.prog w = .ok (.int .i64 x.x3) w := fun w => by kernel_rfl
  go_enter Try.func102, Try.ntmps102
  go_wp2
  refine wp_loop_rounds 5 ?_
  rw [rounds_succ]
  have HC0 := Lib.hid (signed_any w0.heap.size wb v L x.x0 W HW.out HX.out.fit.pl.1.1 HX.out.fit.pl.1.2 (by omega))
  go_wp2_with fail
  refine HC0.out.mono ?_
  clear HC0
  obtain ⟨L1, hL1⟩ : ∃ l, l = L ++ sgnB x.x0 := ⟨_, rfl⟩
  rw [← hL1]
  have hl1 : L1.length ≤ 4294967296 + 11 := by rw [hL1, List.length_append]; have := hlen x.x0; omega
  have HL1 := Lib.hid hL1
  clear hL1
  rintro e w1 ⟨rfl, v1, hs⟩
  have HS1 := Lib.hid hs
  clear hs
  go_wp2
  rw [rounds_succ]
  have HC1 := Lib.hid (signed_any w0.heap.size wb v1 L1 x.x1 w1 HS1.out.at_ HX.out.fit.pl.2.1.1 HX.out.fit.pl.2.1.2 (by omega))
  go_wp2_with fail
  refine HC1.out.mono ?_
  clear HC1
  obtain ⟨L2, hL2⟩ : ∃ l, l = L1 ++ sgnB x.x1 := ⟨_, rfl⟩
  rw [← hL2]
  have hl2 : L2.length ≤ 4294967296 + 22 := by rw [hL2, List.length_append]; have := hlen x.x1; omega
  have HL2 := Lib.hid hL2
  clear hL2
  rintro e w2 ⟨rfl, v2, hs⟩
  have HS2 := Lib.hid (HS1.out.trans hs)
  clear hs
  go_wp2
  rw [rounds_succ]
  have HC2 := Lib.hid (signed_any w0.heap.size wb v2 L2 x.x2 w2 HS2.out.at_ HX.out.fit.pl.2.2.1.1 HX.out.fit.pl.2.2.1.2 (by omega))
  go_wp2_with fail
  refine HC2.out.mono ?_
  clear HC2
  obtain ⟨L3, hL3⟩ : ∃ l, l = L2 ++ sgnB x.x2 := ⟨_, rfl⟩
  rw [← hL3]
  have hl3 : L3.length ≤ 4294967296 + 33 := by rw [hL3, List.length_append]; have := hlen x.x2; omega
  have HL3 := Lib.hid hL3
  clear hL3
  rintro e w3 ⟨rfl, v3, hs⟩
  have HS3 := Lib.hid (HS2.out.trans hs)
  clear hs
  go_wp2
  rw [rounds_succ]
  have HC3 := Lib.hid (signed_any w0.heap.size wb v3 L3 x.x3 w3 HS3.out.at_ HX.out.fit.pl.2.2.2.1 HX.out.fit.pl.2.2.2.2 (by omega))
  go_wp2_with fail
  refine HC3.out.mono ?_
  clear HC3
  obtain ⟨L4, hL4⟩ : ∃ l, l = L3 ++ sgnB x.x3 := ⟨_, rfl⟩
  rw [← hL4]
  have hl4 : L4.length ≤ 4294967296 + 44 := by rw [hL4, List.length_append]; have := hlen x.x3; omega
  have HL4 := Lib.hid hL4
  clear hL4
  rintro e w4 ⟨rfl, v4, hs⟩
  have HS4 := Lib.hid (HS3.out.trans hs)
  clear hs
  go_wp2
  rw [rounds_succ]
  go_wp2
  have E : L ++ partB x 12 = L4 := by rw [HL4.out, HL3.out, HL2.out, HL1.out]; simp [partB]
  rw [E]
  exact bodyPost_ret (v := .tuple #[]) (results_none rfl _ _ _) rfl ⟨rfl, v4, HS4.out⟩
end Go.Proofs.Ytcihihncgpddfaa
namespace Go.Proofs.Ytcihihncgpddfaa
open Go.RowKit Go.Deep
set_option linter.unusedVariables false
set_option linter.unusedSimpArgs false

theorem WrAt.apart {base : Nat} {W W1 W2 : World} {wb : Nat} {v : Value} {L : List Int} (h : WrAt base W wb v L) (B1 : Below W.heap.size W W1) (gr : W1.grownBy W2 v.ownBlock) {b k : Nat} (hb : b < base) : W2.cell? ⟨b, k, none⟩ = W.cell? ⟨b, k, none⟩ := by
  have z1 := B1.size
  have zw := h.lt
  have zb := h.zb
  rw [gr.cell_far ⟨b, k, none⟩ (by simp only; omega) (fun e => by have := (row_lt h.own b e.symm).2; omega)]
  exact (bcell B1).1 _ _ (by omega)
theorem ownsRow_drew {w : World} {base : Nat} {t : TypeId} {k : Nat} {v : Value} {n : Nat} {xs : List Value} (h : w.ownsRow base t k v n xs) : w.drew.ownsRow base t k v n xs := h
set_option maxRecDepth 100000 in
set_option maxHeartbeats 8000000 in
theorem put9 (w0 : World) (wb : Nat) (v : Value) (L : List Int) (b o : Nat) (x : Nd) (W : World) (h : WrAt w0.heap.size W wb v L) (hN : Src1 w0 b o x W) (hx : NdWr x) (hl : L.length ≤ 4294967296) : Calls Try.prog 96 #[.pointer (some ⟨wb, 0, none⟩), .pointer (some ⟨b, o, none⟩)] W (WrPost w0.heap.size W wb v (L ++ partB x 9)) := by
  obtain ⟨kv, cv, hkv, hcv, hc⟩ := hN.now
  have zb := hN.ltW
  have c19 : W.cell? ⟨b, o + 19, none⟩ = some (.int .i8 x.border) := hc 19 (by omega)
  have c20 : W.cell? ⟨b, o + 20, none⟩ = some (.int .i8 x.align) := hc 20 (by omega)
  have c21 : W.cell? ⟨b, o + 21, none⟩ = some (.int .i8 x.cross) := hc 21 (by omega)
  have c23 : W.cell? ⟨b, o + 23, none⟩ = some (.int .i8 x.wrap) := hc 23 (by omega)
  have c33 : W.cell? ⟨b, o + 33, none⟩ = some (.int .u8 x.flags) := hc 33 (by omega)
  obtain ⟨i0, hi, hz0, hz1, hz2⟩ := info_parts infoU8_
  have HI := Lib.hid (And.intro hi (And.intro hz0 (And.intro hz1 hz2)))
  have HW := Lib.hid h
  have HX := Lib.hid hx
  have HN0 := Lib.hid hN
  have zb0 := hN.lt
  clear h hx hN hkv hcv hc hi hz0 hz1 hz2
  go_enter Try.func96, Try.ntmps96
  have HC0 := Lib.hid (octet_any w0.heap.size wb v L x.border W HW.out HX.out.bd HX.out.fit.b.1 (by omega))
  go_wp2_with fail
  refine HC0.out.mono ?_
  clear HC0
  obtain ⟨L1, hL1⟩ : ∃ l, l = L ++ [x.border] := ⟨_, rfl⟩
  rw [← hL1]
  have hl1 : L1.length ≤ 4294967296 + 1 := by rw [hL1, List.length_append]; simp; omega
  have HL1 := Lib.hid hL1
  clear hL1
  rintro e w1 ⟨rfl, v1, hs⟩
  have HS1 := Lib.hid hs
  clear hs
  have B1 := HS1.out.be
  have y1 : b < w1.heap.size := Nat.lt_of_lt_of_le zb HS1.out.sz
  have d20 : w1.cell? ⟨b, o + 20, none⟩ = some (.int .i8 x.align) := by rw [(bcell B1).1 _ _ zb0]; exact c20
  have HC1 := Lib.hid (octet_any w0.heap.size wb v1 L1 x.align w1 HS1.out.at_ HX.out.al HX.out.fit.b.2.1 (by omega))
  go_wp2_with fail
  refine HC1.out.mono ?_
  clear HC1
  obtain ⟨L2, hL2⟩ : ∃ l, l = L1 ++ [x.align] := ⟨_, rfl⟩
  rw [← hL2]
  have hl2 : L2.length ≤ 4294967296 + 2 := by rw [hL2, List.length_append]; simp; omega
  have HL2 := Lib.hid hL2
  clear hL2
  rintro e w2 ⟨rfl, v2, hs⟩
  have HS2 := Lib.hid (HS1.out.trans hs)
  clear hs
  have B2 := HS2.out.be
  have y2 : b < w2.heap.size := Nat.lt_of_lt_of_le zb HS2.out.sz
  have d21 : w2.cell? ⟨b, o + 21, none⟩ = some (.int .i8 x.cross) := by rw [(bcell B2).1 _ _ zb0]; exact c21
  have HC2 := Lib.hid (octet_any w0.heap.size wb v2 L2 x.cross w2 HS2.out.at_ HX.out.cr HX.out.fit.b.2.2.1 (by omega))
  go_wp2_with fail
  refine HC2.out.mono ?_
  clear HC2
  obtain ⟨L3, hL3⟩ : ∃ l, l = L2 ++ [x.cross] := ⟨_, rfl⟩
  rw [← hL3]
  have hl3 : L3.length ≤ 4294967296 + 3 := by rw [hL3, List.length_append]; simp; omega
  have HL3 := Lib.hid hL3
  clear hL3
  rintro e w3 ⟨rfl, v3, hs⟩
  have HS3 := Lib.hid (HS2.out.trans hs)
  clear hs
  have B3 := HS3.out.be
  have y3 : b < w3.heap.size := Nat.lt_of_lt_of_le zb HS3.out.sz
  have d23 : w3.cell? ⟨b, o + 23, none⟩ = some (.int .i8 x.wrap) := by rw [(bcell B3).1 _ _ zb0]; exact c23
  have HC3 := Lib.hid (octet_any w0.heap.size wb v3 L3 x.wrap w3 HS3.out.at_ HX.out.wr HX.out.fit.b.2.2.2.1 (by omega))
  go_wp2_with fail
  refine HC3.out.mono ?_
  clear HC3
  obtain ⟨L4, hL4⟩ : ∃ l, l = L3 ++ [x.wrap] := ⟨_, rfl⟩
  rw [← hL4]
  have hl4 : L4.length ≤ 4294967296 + 4 := by rw [hL4, List.length_append]; simp; omega
  have HL4 := Lib.hid hL4
  clear hL4
  rintro e w4 ⟨rfl, v4, hs⟩
  have HS4 := Lib.hid (HS3.out.trans hs)
  clear hs
  have B4 := HS4.out.be
  have y4 : b < w4.heap.size := Nat.lt_of_lt_of_le zb HS4.out.sz
  have d33 : w4.cell? ⟨b, o + 33, none⟩ = some (.int .u8 x.flags) := by rw [(bcell B4).1 _ _ zb0]; exact c33
  have f0 : w4.frozen? ⟨wb, 0, none⟩ = false := by unfold World.frozen?; rw [HS4.out.at_.blk]; simp
  have x0 := cell_of_one HS4.out.at_.blk
  have zw := HS4.out.at_.lt
  have hzb : w0.heap.size ≤ w4.heap.size := by have := HS4.out.at_.zb; omega
  have OWN := Lib.hid ((ownsRow_drew HS4.out.at_.own).alloc (.cells #[.int .u8 x.flags] 5))
  have HON := Lib.hid (show ∀ u ∈ [Value.int .u8 x.flags], u.oneCell' = true from fun u hu => by simp at hu; rcases hu with rfl <;> rfl)
  have h63 : L4.length + 1 ≤ maxLen := by unfold maxLen; omega
  have HPU := Lib.hid (fun v' W2 own gr pl => HS4.out.trans (HS4.out.at_.push (N := [x.flags]) (below_al (Below.drew (Below.refl _ _)) (.cells #[.int .u8 x.flags] 5)) (W2 := W2) (v' := v') (m := L4.length + 1) (xs := u8L L4 ++ [Value.int .u8 x.flags]) own (by simp) (by rw [u8L_app]; rfl) gr pl))
  have HCC := Lib.hid (fun W2 gr => HS4.out.at_.cells (below_al (Below.drew (Below.refl _ _)) (.cells #[.int .u8 x.flags] 5)) (W2 := W2) gr)
  have E : L ++ partB x 9 = L4 ++ [x.flags] := by rw [HL4.out, HL3.out, HL2.out, HL1.out]; simp [partB]
  go_upto_region 4 with (fail)
  have HS0 := Lib.hid (show w4.drew.cell? ⟨wb, 0, none⟩ = some v4 ∧ w4.drew.cell? ⟨b, o + 33, none⟩ = some (.int .u8 x.flags) from ⟨x0, d33⟩)
  refine wp_region_noPanic ?_
  refine wp_region_Z (fun w' => w'.cell? ⟨wb, 0, none⟩ = some v4 ∧ w'.cell? ⟨b, o + 33, none⟩ = some (.int .u8 x.flags)) 13 (by kernel_rfl) ?_
  change wpAnyZ _ _ _ _ _ _ 14 (Array.replicate 14 false) _ _
  refine wpAnyZ_take [12, 11] (i := 0) (v := ?v0) (by simp only [List.getElem?_toArray, List.getElem?_cons_succ, List.getElem?_cons_zero]; rfl) (by decide +kernel) (fun _ _ _ h => h) (by rfl) ?t0 ?s0 ?_
  case t0 => (intro w' h; clear h; go_simp; try rfl)
  case s0 => exact HS0.out
  (try simp only [Act.put, List.setIfInBounds_toArray, List.set_cons_zero, List.set_cons_succ])
  refine wpAnyZ_take [12, 11] (i := 1) (v := ?v1) (by simp only [List.getElem?_toArray, List.getElem?_cons_succ, List.getElem?_cons_zero]; rfl) (by decide +kernel) (fun _ _ _ h => h) (by rfl) ?t1 ?s1 ?_
  case t1 => (intro w' h; clear h; go_simp; try rfl)
  case s1 => exact HS0.out
  (try simp only [Act.put, List.setIfInBounds_toArray, List.set_cons_zero, List.set_cons_succ])
  refine wpAnyZ_take [12, 11] (i := 2) (v := ?v2) (by simp only [List.getElem?_toArray, List.getElem?_cons_succ, List.getElem?_cons_zero]; rfl) (by decide +kernel) (fun _ _ _ h => h) (by rfl) ?t2 ?s2 ?_
  case t2 => (intro w' h; clear h; go_simp; try rfl)
  case s2 => exact HS0.out
  (try simp only [Act.put, List.setIfInBounds_toArray, List.set_cons_zero, List.set_cons_succ])
  refine wpAnyZ_take [12, 11] (i := 3) (v := ?v3) (by simp only [List.getElem?_toArray, List.getElem?_cons_succ, List.getElem?_cons_zero]; rfl) (by decide +kernel) (fun _ _ _ h => h) (by rfl) ?t3 ?s3 ?_
  case t3 => (intro w' h; clear h; go_simp; try rfl)
  case s3 => exact HS0.out
  (try simp only [Act.put, List.setIfInBounds_toArray, List.set_cons_zero, List.set_cons_succ])
  refine wpAnyZ_take [12, 11] (i := 4) (v := ?v4) (by simp only [List.getElem?_toArray, List.getElem?_cons_succ, List.getElem?_cons_zero]; rfl) (by decide +kernel) (fun _ _ _ h => h) (by rfl) ?t4 ?s4 ?_
  case t4 => (intro w' h; have FK := (fun w' (h : w'.cell? ⟨wb, 0, none⟩ = some v4 ∧ w'.cell? ⟨b, o + 33, none⟩ = some (.int .u8 x.flags)) => h) w' h; clear h; go_split_ands; go_simp; try rfl)
  case s4 => exact HS0.out
  (try simp only [Act.put, List.setIfInBounds_toArray, List.set_cons_zero, List.set_cons_succ])
  refine wpAnyZ_take [12, 11] (i := 5) (v := ?v5) (by simp only [List.getElem?_toArray, List.getElem?_cons_succ, List.getElem?_cons_zero]; rfl) (by decide +kernel) (fun _ _ _ h => h) (by rfl) ?t5 ?s5 ?_
  case t5 => (intro w' h; clear h; go_simp; try rfl)
  case s5 => exact HS0.out
  (try simp only [Act.put, List.setIfInBounds_toArray, List.set_cons_zero, List.set_cons_succ])
  refine wpAnyZ_take [12, 11] (i := 6) (v := ?v6) (by simp only [List.getElem?_toArray, List.getElem?_cons_succ, List.getElem?_cons_zero]; rfl) (by decide +kernel) (fun _ _ _ h => h) (by rfl) ?t6 ?s6 ?_
  case t6 => (intro w' h; clear h; go_simp; try rfl)
  case s6 => exact HS0.out
  (try simp only [Act.put, List.setIfInBounds_toArray, List.set_cons_zero, List.set_cons_succ])
  refine wpAnyZ_take [12, 11] (i := 7) (v := ?v7) (by simp only [List.getElem?_toArray, List.getElem?_cons_succ, List.getElem?_cons_zero]; rfl) (by decide +kernel) (fun _ _ _ h => h) (by rfl) ?t7 ?s7 ?_
  case t7 => (intro w' h; clear h; go_simp; try rfl)
  case s7 => exact HS0.out
  (try simp only [Act.put, List.setIfInBounds_toArray, List.set_cons_zero, List.set_cons_succ])
  refine wpAnyZ_take [12, 11] (i := 8) (v := ?v8) (by simp only [List.getElem?_toArray, List.getElem?_cons_succ, List.getElem?_cons_zero]; rfl) (by decide +kernel) (fun _ _ _ h => h) (by rfl) ?t8 ?s8 ?_
  case t8 => (intro w' h; have FK := (fun w' (h : w'.cell? ⟨wb, 0, none⟩ = some v4 ∧ w'.cell? ⟨b, o + 33, none⟩ = some (.int .u8 x.flags)) => h) w' h; clear h; go_split_ands; go_simp; try rfl)
  case s8 => exact HS0.out
  (try simp only [Act.put, List.setIfInBounds_toArray, List.set_cons_zero, List.set_cons_succ])
  have HB := Lib.hid (show (w4.drew.alloc (.cells #[.int .u8 x.flags] 5)).cell? ⟨wb, 0, none⟩ = some v4 ∧ (w4.drew.alloc (.cells #[.int .u8 x.flags] 5)).cell? ⟨b, o + 33, none⟩ = some (.int .u8 x.flags) from ⟨((World.cell?_alloc_past _ _ _ zw).trans x0), ((World.cell?_alloc_past _ _ _ y4).trans d33)⟩)
  refine wpAnyZ_one (i := 9) (by decide +kernel) ?_
  refine wpOpK_value (v := .slice (some ⟨w4.heap.size, 0, none⟩) 1 1) (w' := w4.drew.alloc (.cells #[.int .u8 x.flags] 5)) (by simp only [List.getElem?_toArray, List.getElem?_cons_succ, List.getElem?_cons_zero]; rfl) (by rfl) ?m9 ⟨.inr HB.out, ?_⟩
  case m9 => (go_simp; try rfl)
  (try simp only [Act.put, List.setIfInBounds_toArray, List.set_cons_zero, List.set_cons_succ])
  refine wpAnyZ_one (i := 10) (by decide +kernel) ?_
  refine wpOpK_append (by simp only [List.getElem?_toArray, List.getElem?_cons_succ, List.getElem?_cons_zero]; rfl) rfl (.tmp 32) (.tmp 37) 36 rfl w0.heap.size 5 i0 _ 1 1 Try.underlying36 HI.out.1 HI.out.2.1 HI.out.2.2.1 HI.out.2.2.2 rfl (by decide) _ L4.length _ (by rfl) OWN.out ⟨w4.heap.size, 0, none⟩ 1 1 [.int .u8 x.flags] (by rfl) rfl (World.news_of_block (cs := #[.int .u8 x.flags]) (t := 5) (fr := (0, 0)) (heap_alloc_new _ _)) HON.out (by omega) ?h63 ?hby ?hbs ?_
  case h63 => (unfold maxLen; omega)
  case hby => omega
  case hbs => first | omega | (simp; omega)
  intro g cap W2 own gr hg hlt
  have HS5 := Lib.hid (HPU.out _ W2 own gr (hg.imp (fun h => h.symm) (fun h => by rw [h]; rfl)))
  obtain ⟨c2, f2, z2⟩ := HCC.out W2 gr
  have HQ := Lib.hid (show W2.cell? ⟨wb, 0, none⟩ = some v4 ∧ W2.cell? ⟨b, o + 33, none⟩ = some (.int .u8 x.flags) from ⟨c2, (HS4.out.at_.apart (below_al (Below.drew (Below.refl _ _)) _) gr zb0).trans d33⟩)
  clear own gr hg hlt
  refine ⟨.inr HQ.out, ?_⟩
  (try simp only [Act.put, List.setIfInBounds_toArray, List.set_cons_zero, List.set_cons_succ])
  refine wpAnyZ_take [12] (i := 11) (v := ?v11) (by simp only [List.getElem?_toArray, List.getElem?_cons_succ, List.getElem?_cons_zero]; rfl) (by decide +kernel) (fun _ _ _ h => h) (by rfl) ?t11 ?s11 ?_
  case t11 => (intro w' h; clear h; go_simp; try rfl)
  case s11 => exact HQ.out
  (try simp only [Act.put, List.setIfInBounds_toArray, List.set_cons_zero, List.set_cons_succ])
  refine wpAnyZ_take [] (i := 12) (v := ?v12) (by simp only [List.getElem?_toArray, List.getElem?_cons_succ, List.getElem?_cons_zero]; rfl) (by decide +kernel) (fun _ _ _ h => h) (by rfl) ?t12 ?s12 ?_
  case t12 => (intro w' h; clear h; go_simp; try rfl)
  case s12 => exact HQ.out
  (try simp only [Act.put, List.setIfInBounds_toArray, List.set_cons_zero, List.set_cons_succ])
  refine wpAnyZ_one (i := 13) (by decide +kernel) ?_
  refine wpOpK_skip (w' := W2.setCell ⟨wb, 0, none⟩ (.slice (some ⟨g, 0, none⟩) (L4.length + 1) cap)) (by simp only [List.getElem?_toArray, List.getElem?_cons_succ, List.getElem?_cons_zero]; rfl) (by rfl) ?m13 ⟨.inl rfl, ?_⟩
  case m13 => (go_simp; try rfl)
  (try simp only [Act.put, List.setIfInBounds_toArray, List.set_cons_zero, List.set_cons_succ])
  refine wpAnyZ_done (by kernel_rfl) (NoPanic.normal ?_) _
  clear x0 f0 zw OWN HON HPU HCC
  go_wp2
  refine bodyPost_end (v := .tuple #[]) ?ra ?rb ?rc
  case ra => exact results_none rfl _ _ _
  case rb => rfl
  case rc => rw [E]; exact ⟨rfl, _, HS5.out⟩
set_option maxRecDepth 100000 in
set_option maxHeartbeats 8000000 in
theorem put10 (w0 : World) (wb : Nat) (v : Value) (L : List Int) (b o : Nat) (x : Nd) (W : World) (h : WrAt w0.heap.size W wb v L) (hN : Src1 w0 b o x W) (hx : NdWr x) (hl : L.length ≤ 4294967296) : Calls Try.prog 98 #[.pointer (some ⟨wb, 0, none⟩), .pointer (some ⟨b, o, none⟩)] W (WrPost w0.heap.size W wb v (L ++ partB x 10)) := by
  obtain ⟨kv, cv, hkv, hcv, hc⟩ := hN.now
  have zb := hN.ltW
  have c24 : W.cell? ⟨b, o + 24, none⟩ = some (.int .i32 x.fg) := hc 24 (by omega)
  have c25 : W.cell? ⟨b, o + 25, none⟩ = some (.int .i32 x.bg) := hc 25 (by omega)
  have c26 : W.cell? ⟨b, o + 26, none⟩ = some (.int .u8 x.add) := hc 26 (by omega)
  have c27 : W.cell? ⟨b, o + 27, none⟩ = some (.int .u8 x.drop) := hc 27 (by omega)
  obtain ⟨i0, hi, hz0, hz1, hz2⟩ := info_parts infoU8_
  have HI := Lib.hid (And.intro hi (And.intro hz0 (And.intro hz1 hz2)))
  have HW := Lib.hid h
  have HX := Lib.hid hx
  have zb0 := hN.lt
  have q0 : wrap64 x.fg = x.fg := IntWalk.wrap64_in _ ⟨by have := hx.fit.fg.lo; omega, hx.fit.fg.hi⟩
  have q1 : wrap64 x.bg = x.bg := IntWalk.wrap64_in _ ⟨by have := hx.fit.bg.lo; omega, hx.fit.bg.hi⟩
  have hlen : ∀ n, (numB n).length ≤ 11 := fun n => numF_len 10 _
  clear h hx hN hkv hcv hc hi hz0 hz1 hz2
  go_enter Try.func98, Try.ntmps98
  have HC0 := Lib.hid (number_any w0.heap.size wb v L x.fg W HW.out HX.out.fit.fg.lo HX.out.fit.fg.hi (by omega))
  go_wp2_with fail
  refine HC0.out.mono ?_
  clear HC0
  obtain ⟨L1, hL1⟩ : ∃ l, l = L ++ numB x.fg := ⟨_, rfl⟩
  rw [← hL1]
  have hl1 : L1.length ≤ 4294967296 + 11 := by rw [hL1, List.length_append]; have := hlen x.fg; omega
  have HL1 := Lib.hid hL1
  clear hL1
  rintro e w1 ⟨rfl, v1, hs⟩
  have HS1 := Lib.hid hs
  clear hs
  have B1 := HS1.out.be
  have y1 : b < w1.heap.size := Nat.lt_of_lt_of_le zb HS1.out.sz
  have d25 : w1.cell? ⟨b, o + 25, none⟩ = some (.int .i32 x.bg) := by rw [(bcell B1).1 _ _ zb0]; exact c25
  have HC1 := Lib.hid (number_any w0.heap.size wb v1 L1 x.bg w1 HS1.out.at_ HX.out.fit.bg.lo HX.out.fit.bg.hi (by omega))
  go_wp2_with fail
  refine HC1.out.mono ?_
  clear HC1
  obtain ⟨L2, hL2⟩ : ∃ l, l = L1 ++ numB x.bg := ⟨_, rfl⟩
  rw [← hL2]
  have hl2 : L2.length ≤ 4294967296 + 22 := by rw [hL2, List.length_append]; have := hlen x.bg; omega
  have HL2 := Lib.hid hL2
  clear hL2
  rintro e w2 ⟨rfl, v2, hs⟩
  have HS2 := Lib.hid (HS1.out.trans hs)
  clear hs
  have B2 := HS2.out.be
  have y2 : b < w2.heap.size := Nat.lt_of_lt_of_le zb HS2.out.sz
  have d26 : w2.cell? ⟨b, o + 26, none⟩ = some (.int .u8 x.add) := by rw [(bcell B2).1 _ _ zb0]; exact c26
  have d27 : w2.cell? ⟨b, o + 27, none⟩ = some (.int .u8 x.drop) := by rw [(bcell B2).1 _ _ zb0]; exact c27
  have f0 : w2.frozen? ⟨wb, 0, none⟩ = false := by unfold World.frozen?; rw [HS2.out.at_.blk]; simp
  have x0 := cell_of_one HS2.out.at_.blk
  have zw := HS2.out.at_.lt
  have hzb : w0.heap.size ≤ w2.heap.size := by have := HS2.out.at_.zb; omega
  have OWN := Lib.hid ((ownsRow_drew HS2.out.at_.own).alloc (.cells #[.int .u8 x.add, .int .u8 x.drop] 5))
  have HON := Lib.hid (show ∀ u ∈ [Value.int .u8 x.add, Value.int .u8 x.drop], u.oneCell' = true from fun u hu => by simp at hu; rcases hu with rfl | rfl <;> rfl)
  have h63 : L2.length + 2 ≤ maxLen := by unfold maxLen; omega
  have HPU := Lib.hid (fun v' W2 own gr pl => HS2.out.trans (HS2.out.at_.push (N := [x.add, x.drop]) (below_al (Below.drew (Below.refl _ _)) (.cells #[.int .u8 x.add, .int .u8 x.drop] 5)) (W2 := W2) (v' := v') (m := L2.length + 2) (xs := u8L L2 ++ [Value.int .u8 x.add, Value.int .u8 x.drop]) own (by simp) (by rw [u8L_app]; rfl) gr pl))
  have HCC := Lib.hid (fun W2 gr => HS2.out.at_.cells (below_al (Below.drew (Below.refl _ _)) (.cells #[.int .u8 x.add, .int .u8 x.drop] 5)) (W2 := W2) gr)
  have E : L ++ partB x 10 = L2 ++ [x.add, x.drop] := by rw [HL2.out, HL1.out]; simp [partB]
  go_upto_region 2 with (fail)
  have HS0 := Lib.hid (show w2.drew.cell? ⟨wb, 0, none⟩ = some v2 ∧ w2.drew.cell? ⟨b, o + 26, none⟩ = some (.int .u8 x.add) ∧ w2.drew.cell? ⟨b, o + 27, none⟩ = some (.int .u8 x.drop) from ⟨x0, d26, d27⟩)
  refine wp_region_noPanic ?_
  refine wp_region_Z (fun w' => w'.cell? ⟨wb, 0, none⟩ = some v2 ∧ w'.cell? ⟨b, o + 26, none⟩ = some (.int .u8 x.add) ∧ w'.cell? ⟨b, o + 27, none⟩ = some (.int .u8 x.drop)) 19 (by kernel_rfl) ?_
  change wpAnyZ _ _ _ _ _ _ 20 (Array.replicate 20 false) _ _
  refine wpAnyZ_take [18, 17] (i := 0) (v := ?v0) (by simp only [List.getElem?_toArray, List.getElem?_cons_succ, List.getElem?_cons_zero]; rfl) (by decide +kernel) (fun _ _ _ h => h) (by rfl) ?t0 ?s0 ?_
  case t0 => (intro w' h; clear h; go_simp; try rfl)
  case s0 => exact HS0.out
  (try simp only [Act.put, List.setIfInBounds_toArray, List.set_cons_zero, List.set_cons_succ])
  refine wpAnyZ_take [18, 17] (i := 1) (v := ?v1) (by simp only [List.getElem?_toArray, List.getElem?_cons_succ, List.getElem?_cons_zero]; rfl) (by decide +kernel) (fun _ _ _ h => h) (by rfl) ?t1 ?s1 ?_
  case t1 => (intro w' h; clear h; go_simp; try rfl)
  case s1 => exact HS0.out
  (try simp only [Act.put, List.setIfInBounds_toArray, List.set_cons_zero, List.set_cons_succ])
  refine wpAnyZ_take [18, 17] (i := 2) (v := ?v2) (by simp only [List.getElem?_toArray, List.getElem?_cons_succ, List.getElem?_cons_zero]; rfl) (by decide +kernel) (fun _ _ _ h => h) (by rfl) ?t2 ?s2 ?_
  case t2 => (intro w' h; clear h; go_simp; try rfl)
  case s2 => exact HS0.out
  (try simp only [Act.put, List.setIfInBounds_toArray, List.set_cons_zero, List.set_cons_succ])
  refine wpAnyZ_take [18, 17] (i := 3) (v := ?v3) (by simp only [List.getElem?_toArray, List.getElem?_cons_succ, List.getElem?_cons_zero]; rfl) (by decide +kernel) (fun _ _ _ h => h) (by rfl) ?t3 ?s3 ?_
  case t3 => (intro w' h; clear h; go_simp; try rfl)
  case s3 => exact HS0.out
  (try simp only [Act.put, List.setIfInBounds_toArray, List.set_cons_zero, List.set_cons_succ])
  refine wpAnyZ_take [18, 17] (i := 4) (v := ?v4) (by simp only [List.getElem?_toArray, List.getElem?_cons_succ, List.getElem?_cons_zero]; rfl) (by decide +kernel) (fun _ _ _ h => h) (by rfl) ?t4 ?s4 ?_
  case t4 => (intro w' h; have FK := (fun w' (h : w'.cell? ⟨wb, 0, none⟩ = some v2 ∧ w'.cell? ⟨b, o + 26, none⟩ = some (.int .u8 x.add) ∧ w'.cell? ⟨b, o + 27, none⟩ = some (.int .u8 x.drop)) => h) w' h; clear h; go_split_ands; go_simp; try rfl)
  case s4 => exact HS0.out
  (try simp only [Act.put, List.setIfInBounds_toArray, List.set_cons_zero, List.set_cons_succ])
  refine wpAnyZ_take [18, 17] (i := 5) (v := ?v5) (by simp only [List.getElem?_toArray, List.getElem?_cons_succ, List.getElem?_cons_zero]; rfl) (by decide +kernel) (fun _ _ _ h => h) (by rfl) ?t5 ?s5 ?_
  case t5 => (intro w' h; clear h; go_simp; try rfl)
  case s5 => exact HS0.out
  (try simp only [Act.put, List.setIfInBounds_toArray, List.set_cons_zero, List.set_cons_succ])
  refine wpAnyZ_take [18, 17] (i := 6) (v := ?v6) (by simp only [List.getElem?_toArray, List.getElem?_cons_succ, List.getElem?_cons_zero]; rfl) (by decide +kernel) (fun _ _ _ h => h) (by rfl) ?t6 ?s6 ?_
  case t6 => (intro w' h; clear h; go_simp; try rfl)
  case s6 => exact HS0.out
  (try simp only [Act.put, List.setIfInBounds_toArray, List.set_cons_zero, List.set_cons_succ])
  refine wpAnyZ_take [18, 17] (i := 7) (v := ?v7) (by simp only [List.getElem?_toArray, List.getElem?_cons_succ, List.getElem?_cons_zero]; rfl) (by decide +kernel) (fun _ _ _ h => h) (by rfl) ?t7 ?s7 ?_
  case t7 => (intro w' h; clear h; go_simp; try rfl)
  case s7 => exact HS0.out
  (try simp only [Act.put, List.setIfInBounds_toArray, List.set_cons_zero, List.set_cons_succ])
  refine wpAnyZ_take [18, 17] (i := 8) (v := ?v8) (by simp only [List.getElem?_toArray, List.getElem?_cons_succ, List.getElem?_cons_zero]; rfl) (by decide +kernel) (fun _ _ _ h => h) (by rfl) ?t8 ?s8 ?_
  case t8 => (intro w' h; clear h; go_simp; try rfl)
  case s8 => exact HS0.out
  (try simp only [Act.put, List.setIfInBounds_toArray, List.set_cons_zero, List.set_cons_succ])
  refine wpAnyZ_take [18, 17] (i := 9) (v := ?v9) (by simp only [List.getElem?_toArray, List.getElem?_cons_succ, List.getElem?_cons_zero]; rfl) (by decide +kernel) (fun _ _ _ h => h) (by rfl) ?t9 ?s9 ?_
  case t9 => (intro w' h; have FK := (fun w' (h : w'.cell? ⟨wb, 0, none⟩ = some v2 ∧ w'.cell? ⟨b, o + 26, none⟩ = some (.int .u8 x.add) ∧ w'.cell? ⟨b, o + 27, none⟩ = some (.int .u8 x.drop)) => h) w' h; clear h; go_split_ands; go_simp; try rfl)
  case s9 => exact HS0.out
  (try simp only [Act.put, List.setIfInBounds_toArray, List.set_cons_zero, List.set_cons_succ])
  refine wpAnyZ_take [18, 17] (i := 10) (v := ?v10) (by simp only [List.getElem?_toArray, List.getElem?_cons_succ, List.getElem?_cons_zero]; rfl) (by decide +kernel) (fun _ _ _ h => h) (by rfl) ?t10 ?s10 ?_
  case t10 => (intro w' h; clear h; go_simp; try rfl)
  case s10 => exact HS0.out
  (try simp only [Act.put, List.setIfInBounds_toArray, List.set_cons_zero, List.set_cons_succ])
  refine wpAnyZ_take [18, 17] (i := 11) (v := ?v11) (by simp only [List.getElem?_toArray, List.getElem?_cons_succ, List.getElem?_cons_zero]; rfl) (by decide +kernel) (fun _ _ _ h => h) (by rfl) ?t11 ?s11 ?_
  case t11 => (intro w' h; clear h; go_simp; try rfl)
  case s11 => exact HS0.out
  (try simp only [Act.put, List.setIfInBounds_toArray, List.set_cons_zero, List.set_cons_succ])
  refine wpAnyZ_take [18, 17] (i := 12) (v := ?v12) (by simp only [List.getElem?_toArray, List.getElem?_cons_succ, List.getElem?_cons_zero]; rfl) (by decide +kernel) (fun _ _ _ h => h) (by rfl) ?t12 ?s12 ?_
  case t12 => (intro w' h; clear h; go_simp; try rfl)
  case s12 => exact HS0.out
  (try simp only [Act.put, List.setIfInBounds_toArray, List.set_cons_zero, List.set_cons_succ])
  refine wpAnyZ_take [18, 17] (i := 13) (v := ?v13) (by simp only [List.getElem?_toArray, List.getElem?_cons_succ, List.getElem?_cons_zero]; rfl) (by decide +kernel) (fun _ _ _ h => h) (by rfl) ?t13 ?s13 ?_
  case t13 => (intro w' h; clear h; go_simp; try rfl)
  case s13 => exact HS0.out
  (try simp only [Act.put, List.setIfInBounds_toArray, List.set_cons_zero, List.set_cons_succ])
  refine wpAnyZ_take [18, 17] (i := 14) (v := ?v14) (by simp only [List.getElem?_toArray, List.getElem?_cons_succ, List.getElem?_cons_zero]; rfl) (by decide +kernel) (fun _ _ _ h => h) (by rfl) ?t14 ?s14 ?_
  case t14 => (intro w' h; have FK := (fun w' (h : w'.cell? ⟨wb, 0, none⟩ = some v2 ∧ w'.cell? ⟨b, o + 26, none⟩ = some (.int .u8 x.add) ∧ w'.cell? ⟨b, o + 27, none⟩ = some (.int .u8 x.drop)) => h) w' h; clear h; go_split_ands; go_simp; try rfl)
  case s14 => exact HS0.out
  (try simp only [Act.put, List.setIfInBounds_toArray, List.set_cons_zero, List.set_cons_succ])
  have HB := Lib.hid (show (w2.drew.alloc (.cells #[.int .u8 x.add, .int .u8 x.drop] 5)).cell? ⟨wb, 0, none⟩ = some v2 ∧ (w2.drew.alloc (.cells #[.int .u8 x.add, .int .u8 x.drop] 5)).cell? ⟨b, o + 26, none⟩ = some (.int .u8 x.add) ∧ (w2.drew.alloc (.cells #[.int .u8 x.add, .int .u8 x.drop] 5)).cell? ⟨b, o + 27, none⟩ = some (.int .u8 x.drop) from ⟨((World.cell?_alloc_past _ _ _ zw).trans x0), ((World.cell?_alloc_past _ _ _ y2).trans d26), ((World.cell?_alloc_past _ _ _ y2).trans d27)⟩)
  refine wpAnyZ_one (i := 15) (by decide +kernel) ?_
  refine wpOpK_value (v := .slice (some ⟨w2.heap.size, 0, none⟩) 2 2) (w' := w2.drew.alloc (.cells #[.int .u8 x.add, .int .u8 x.drop] 5)) (by simp only [List.getElem?_toArray, List.getElem?_cons_succ, List.getElem?_cons_zero]; rfl) (by rfl) ?m15 ⟨.inr HB.out, ?_⟩
  case m15 => (go_simp; try rfl)
  (try simp only [Act.put, List.setIfInBounds_toArray, List.set_cons_zero, List.set_cons_succ])
  refine wpAnyZ_one (i := 16) (by decide +kernel) ?_
  refine wpOpK_append (by simp only [List.getElem?_toArray, List.getElem?_cons_succ, List.getElem?_cons_zero]; rfl) rfl (.tmp 24) (.tmp 35) 36 rfl w0.heap.size 5 i0 _ 1 1 Try.underlying36 HI.out.1 HI.out.2.1 HI.out.2.2.1 HI.out.2.2.2 rfl (by decide) _ L2.length _ (by rfl) OWN.out ⟨w2.heap.size, 0, none⟩ 2 2 [.int .u8 x.add, .int .u8 x.drop] (by rfl) rfl (World.news_of_block (cs := #[.int .u8 x.add, .int .u8 x.drop]) (t := 5) (fr := (0, 0)) (heap_alloc_new _ _)) HON.out (by omega) ?h63 ?hby ?hbs ?_
  case h63 => (unfold maxLen; omega)
  case hby => omega
  case hbs => first | omega | (simp; omega)
  intro g cap W2 own gr hg hlt
  have HS3 := Lib.hid (HPU.out _ W2 own gr (hg.imp (fun h => h.symm) (fun h => by rw [h]; rfl)))
  obtain ⟨c2, f2, z2⟩ := HCC.out W2 gr
  have HQ := Lib.hid (show W2.cell? ⟨wb, 0, none⟩ = some v2 ∧ W2.cell? ⟨b, o + 26, none⟩ = some (.int .u8 x.add) ∧ W2.cell? ⟨b, o + 27, none⟩ = some (.int .u8 x.drop) from ⟨c2, (HS2.out.at_.apart (below_al (Below.drew (Below.refl _ _)) _) gr zb0).trans d26, (HS2.out.at_.apart (below_al (Below.drew (Below.refl _ _)) _) gr zb0).trans d27⟩)
  clear own gr hg hlt
  refine ⟨.inr HQ.out, ?_⟩
  (try simp only [Act.put, List.setIfInBounds_toArray, List.set_cons_zero, List.set_cons_succ])
  refine wpAnyZ_take [18] (i := 17) (v := ?v17) (by simp only [List.getElem?_toArray, List.getElem?_cons_succ, List.getElem?_cons_zero]; rfl) (by decide +kernel) (fun _ _ _ h => h) (by rfl) ?t17 ?s17 ?_
  case t17 => (intro w' h; clear h; go_simp; try rfl)
  case s17 => exact HQ.out
  (try simp only [Act.put, List.setIfInBounds_toArray, List.set_cons_zero, List.set_cons_succ])
  refine wpAnyZ_take [] (i := 18) (v := ?v18) (by simp only [List.getElem?_toArray, List.getElem?_cons_succ, List.getElem?_cons_zero]; rfl) (by decide +kernel) (fun _ _ _ h => h) (by rfl) ?t18 ?s18 ?_
  case t18 => (intro w' h; clear h; go_simp; try rfl)
  case s18 => exact HQ.out
  (try simp only [Act.put, List.setIfInBounds_toArray, List.set_cons_zero, List.set_cons_succ])
  refine wpAnyZ_one (i := 19) (by decide +kernel) ?_
  refine wpOpK_skip (w' := W2.setCell ⟨wb, 0, none⟩ (.slice (some ⟨g, 0, none⟩) (L2.length + 2) cap)) (by simp only [List.getElem?_toArray, List.getElem?_cons_succ, List.getElem?_cons_zero]; rfl) (by rfl) ?m19 ⟨.inl rfl, ?_⟩
  case m19 => (go_simp; try rfl)
  (try simp only [Act.put, List.setIfInBounds_toArray, List.set_cons_zero, List.set_cons_succ])
  refine wpAnyZ_done (by kernel_rfl) (NoPanic.normal ?_) _
  clear x0 f0 zw OWN HON HPU HCC
  go_wp2
  refine bodyPost_end (v := .tuple #[]) ?ra ?rb ?rc
  case ra => exact results_none rfl _ _ _
  case rb => rfl
  case rc => rw [E]; exact ⟨rfl, _, HS3.out⟩
end Go.Proofs.Ytcihihncgpddfaa
