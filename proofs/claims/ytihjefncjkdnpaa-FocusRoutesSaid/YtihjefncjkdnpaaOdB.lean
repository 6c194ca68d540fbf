/- Trees: contracts of tree.Order and tree.Find. -/
import Derived.Test.YtihjefncjkdnpaaOdA
import Derived.Test.YtihjefncjkdnpaaDwo
import Derived.Test.YtihjefncjkdnpaaLntO
import Derived.Test.YtihjefncjkdnpaaDwq
import Derived.Test.YtihjefncjkdnpaaAppK
import Derived.Test.YtihjefncjkdnpaaMark
namespace Go.Proofs.Ytihjefncjkdnpaa
open Go.RowKit Go.Deep
set_option linter.unusedVariables false
set_option linter.unusedSimpArgs false

section
variable {α : Type} {step : List α → Nat → Nat → List α × Bool} (one : ∀ g n d, (step g n d).1.length = g.length + 1) (T : List Nd)
include one
theorem ok_len : ∀ (f n d : Nat) (g : List α), g.length + (pre T f n).length ≤ 4096 → okDown step T (fun g _ _ => g.length < 4096) f n d g
  | 0, n, d, g, h => trivial
  | f + 1, n, d, g, h => by
    rw [okDown]
    rw [pre, List.length_cons] at h
    refine ⟨by omega, fun _ => ?_⟩
    have h0 := one g n d
    have fold : ∀ (ks : List Int) (g : List α), g.length + (ks.flatMap fun k => pre T f k.toNat).length ≤ 4096 → okList (fun k g => downS step T f k.toNat (d + 1) g) (fun k g => okDown step T (fun g _ _ => g.length < 4096) f k.toNat (d + 1) g) ks g := by
      intro ks
      induction ks with
      | nil => exact fun g _ => trivial
      | cons a ks ih =>
        intro g h
        rw [List.flatMap_cons, List.length_append] at h
        have h2 := (len_up one T f a.toNat (d + 1) g).2
        exact ⟨ok_len f a.toNat (d + 1) g (by omega), ih _ (by show (downS step T f a.toNat (d + 1) g).length + _ ≤ 4096; omega)⟩
    exact fold (kidsOf T n) _ (by unfold kidsOf at *; omega)
theorem ok_walk (h : (checkT T).1 = 0) (g0 : List α) (h0 : g0.length = 0) : okDown step T (fun g _ _ => g.length < 4096) T.length 0 1 g0 := by
  refine ok_len one T T.length 0 1 g0 ?_
  have h2 : pre T T.length 0 = ordN T := by unfold ordN; rw [if_pos h]
  have := ordN_le T
  rw [h2]
  omega
end
theorem bytes_ext {a b : ByteArray} (h : a.toList = b.toList) : a = b := by
  rw [ByteArray.toList_eq, ByteArray.toList_eq] at h
  cases a; cases b
  simp only [ByteArray.mk.injEq]
  exact Array.ext' h
theorem ne_nil_of_pos_ {s : ByteArray} (h : 0 < s.size) : ¬ s.toList = [] := by
  intro e
  rw [ByteArray.toList_eq] at e
  rw [Lib.size_eq, e] at h
  exact absurd h (Nat.lt_irrefl _)
theorem infoIntO : (Try.prog.info? 3 ).map (fun i => (i.zero, i.size, i.bytes)) = some (some (.int .i64 0), 1, 8) := by kernel_rfl
structure InvOs (w0 : World) (bl : Nat) (v : Value) (g : List Int) (W : World) : Prop where
  be : Below w0.heap.size w0 W
  lb : W.heap[bl]? = some (.cells #[v] 25 (0, 0))
  own : W.ownsRow w0.heap.size 3 1 v g.length (g.map (Value.int .i64))
  zl : w0.heap.size ≤ bl
  ne : v.ownBlock ≠ some bl
def InvO (w0 : World) (bl : Nat) (g : List Int) (O : Nat → Prop) (W : World) : Prop := ∃ v, InvOs w0 bl v g W ∧ ∀ b, O b ↔ (b = bl ∨ v.ownBlock = some b)
theorem InvOs.later {w0 W W' : World} {bl : Nat} {v : Value} {g : List Int} (h : InvOs w0 bl v g W) (hb : Below W.heap.size W W') : InvOs w0 bl v g W' :=
  ⟨below_via hb h.be, (hb.block _ (lt_of_block h.lb)).trans h.lb, row_later h.own hb, h.zl, h.ne⟩
theorem InvOs.push {w0 W W1 : World} {bl : Nat} {v v' : Value} {g : List Int} {o : Obj} {n : Int} (h : InvOs w0 bl v g W) (own : W1.ownsRow w0.heap.size 3 1 v' (g.length + 1) (g.map (Value.int .i64) ++ [.int .i64 n])) (gr : (W.alloc o).grownBy W1 v.ownBlock) (pl : v'.ownBlock = v.ownBlock ∨ (v'.ownBlock = some (W.alloc o).heap.size ∧ (W.alloc o).grownBy W1 none)) :
    W1.heap[bl]? = some (.cells #[v] 25 (0, 0)) ∧ InvOs w0 bl v' (g ++ [n]) (W1.setCell ⟨bl, 0, none⟩ v') ∧ W.heap.size ≤ W1.heap.size ∧ (∀ b, b < W.heap.size → b ≠ bl → v.ownBlock ≠ some b → (W1.setCell ⟨bl, 0, none⟩ v').heap[b]? = W.heap[b]?) ∧ (∀ b, v'.ownBlock = some b → v.ownBlock = some b ∨ W.heap.size ≤ b) := by
  have zl := lt_of_block h.lb
  have z0 := h.be.size
  have hz : (W.alloc o).heap.size = W.heap.size + 1 := by simp
  have hz1 := gr.size
  have hb : W1.heap[bl]? = some (.cells #[v] 25 (0, 0)) := by
    rw [gr.block bl (by omega) (fun e => h.ne e.symm), heap_alloc_old _ _ (by omega)]; exact h.lb
  have hne : v'.ownBlock ≠ some bl := by
    rcases pl with e | ⟨e, _⟩
    · rw [e]; exact h.ne
    · rw [e]; intro e; injection e with e; omega
  have hBe : Below w0.heap.size w0 W1 := Below.grown (below_al h.be o) gr (by omega) (fun k hk => (row_lt h.own k hk).2)
  refine ⟨hb, ⟨hBe.setCell h.zl _, one_setCell hb, ?_, h.zl, hne⟩, by omega, fun b hb1 hb2 hb3 => ?_, fun b hb => ?_⟩
  · have := own.kept (setCell_grown_ W1 ⟨bl, 0, none⟩ v') (.inr hne)
    simpa using this
  · rw [blk_setCell_other _ _ _ _ (by simpa using hb2), gr.block b (by omega) (fun e => hb3 e.symm), heap_alloc_old _ _ hb1]
  · rcases pl with e | ⟨e, _⟩
    · left; rw [← e]; exact hb
    · right; rw [e] at hb; injection hb with hb; omega
set_option maxRecDepth 100000 in
set_option maxHeartbeats 8000000 in
theorem order_visitor (w0 : World) (bl : Nat) (T : List Nd) : VisitorO (InvO w0 bl) stepO T (fun g _ _ => g.length < 4096) w0 68 #[.pointer (some ⟨bl, 0, none⟩)] := by
  refine ⟨fun args w => by rfl, fun {g O W} h => ?_, fun {g O W W'} h hb => ?_, fun {g O W} h b hO => ?_, fun {g O W} n d hck hn hg h => ?_⟩
  · obtain ⟨v, h, _⟩ := h; exact h.be
  · obtain ⟨v, h, hO⟩ := h; exact ⟨v, h.later hb, hO⟩
  · obtain ⟨v, h, hO'⟩ := h
    rcases (hO' b).1 hO with rfl | e
    · exact lt_of_block h.lb
    · exact (row_lt h.own b e).1
  · obtain ⟨v, h, hO⟩ := h
    obtain ⟨i0, hi, hz0, hz1, hz2⟩ := info_parts infoIntO
    have HI := Lib.hid (And.intro hi (And.intro hz0 (And.intro hz1 hz2)))
    have x0 := cell_of_one h.lb
    have zl := lt_of_block h.lb
    have z0 := h.be.size
    have HO := Lib.hid hO
    clear hO
    have HOWN := Lib.hid (h.own.alloc (.cells #[.int .i64 (n : Int)] 3))
    have HH := Lib.hid h
    have HON := Lib.hid (show ∀ u ∈ [Value.int .i64 (n : Int)], u.oneCell' = true from fun u hu => by simp at hu; rcases hu with rfl; rfl)
    have h63 : g.length + 1 ≤ maxLen := by unfold maxLen; omega
    clear hi hz0 hz1 hz2 h
    go_enter Try.func68, Try.ntmps68
    go_wp2_with (at_builtin; go_must (refine append_keep rfl (.tmp 6) (.tmp 8) 25 rfl w0.heap.size 3 i0 _ 1 8 Try.underlying25 HI.out.1 HI.out.2.1 HI.out.2.2.1 HI.out.2.2.2 rfl (by decide) _ g.length _ rfl HOWN.out ⟨W.heap.size, 0, none⟩ 1 1 [.int .i64 (n : Int)] rfl rfl ?n1 HON.out h63 ?n2 ?n3 ?_))
    case n1 => exact World.news_of_block (cs := #[.int .i64 (n : Int)]) (t := 3) (fr := (0, 0)) (heap_alloc_new W _)
    case n2 => omega
    case n3 => simp; omega
    intro v' W1 own gr pl
    obtain ⟨gv, cv, rfl, _, _⟩ := own.form (by omega)
    obtain ⟨hb, HI', hsz, hfr, hgr⟩ := HH.out.push own gr (by simpa using pl)
    have HP := Lib.hid (show DPost (InvO w0 bl) (g ++ [(n : Int)]) O W (W1.setCell ⟨bl, 0, none⟩ (.slice (some ⟨gv, 0, none⟩) (g.length + 1) cv)) from ⟨fun b => b = bl ∨ (Value.slice (some ⟨gv, 0, none⟩) (g.length + 1) cv).ownBlock = some b, ⟨_, HI', fun _ => Iff.rfl⟩, by simpa using hsz, fun b hb hO => hfr b hb (fun e => hO ((HO.out b).2 (.inl e))) (fun e => hO ((HO.out b).2 (.inr e))), fun b hb => by
      rcases hb with e | e
      · exact .inl ((HO.out b).2 (.inl e))
      · exact (hgr b e).imp (fun e => (HO.out b).2 (.inr e)) id⟩)
    have x1 := cell_of_one hb
    have f1 := free_of_one hb
    have z1 := lt_of_block hb
    clear hb HI' hsz hfr hgr own gr pl HH HO HOWN HON x0
    go_wp2
    go_ret
    exact ⟨rfl, HP.out⟩
theorem stepO_len (T : List Nd) : (ordL T).length ≤ 4096 := by rw [ordL_len]; exact (ordN_le T).2
set_option maxRecDepth 100000 in
set_option maxHeartbeats 8000000 in
theorem tree_Order_any (p : Option Addr) (c : Nat) (T : List Nd) (w : World) (hT : TreeAt w (.slice p T.length c) T) : Calls Try.prog 38 #[.agg #[.slice p T.length c]] w fun e w' => ∃ v, e = .returned v ∧ w'.ownsRow w.heap.size 3 1 v (ordL T).length ((ordL T).map (Value.int .i64)) ∧ Below w.heap.size w w' := by
  have V := order_visitor w (w.heap.size + 1) T
  have hlen := hT.len
  have HI : InvO w (w.heap.size + 1) [] (fun b => b = w.heap.size + 1) ((w.alloc (.cells #[.slice p T.length c] 24)).alloc (.cells #[.slice none 0 0] 25)) := by
    refine ⟨.slice none 0 0, ⟨below_al (below_al (Below.refl _ _) _) _, ?_, ⟨rfl, .inl ⟨rfl, rfl⟩⟩, by omega, by simp [Value.ownBlock]⟩, fun b => ⟨.inl, fun h => h.elim id (fun h => by simp [Value.ownBlock] at h)⟩⟩
    have := heap_alloc_new (w.alloc (.cells #[.slice p T.length c] 24)) (.cells #[.slice none 0 0] 25)
    rwa [World.size_alloc] at this
  have HW := Lib.hid (walk_ok V p c hT [] _ _ (fun h => ok_walk stepO_one T h [] rfl) HI)
  have hmf : ∀ (fn : Fn) (first cap : Array Value) (w : World), (Instr.makeFunc fn first cap).run Try.prog w = .ok (.func fn first cap) w := fun _ _ _ _ => rfl
  clear V HI hT
  go_enter Try.func38, Try.ntmps38
  go_wp2_with fail
  refine HW.out.mono ?_
  clear HW
  rw [walkO]
  rintro e w1 ⟨rfl, O', ⟨v, hI, _⟩, hz, hfr, hg⟩
  have x0 := cell_of_one hI.lb
  have z0 := lt_of_block hI.lb
  have HI := Lib.hid hI
  clear hz hfr hg hI
  go_wp2
  go_ret
  exact ⟨_, rfl, HI.out.own, HI.out.be⟩

/-- Find's visitor -/
structure InvF (w0 : World) (p : Option Addr) (c : Nat) (T : List Nd) (id : ByteArray) (bt bi ba : Nat) (g : Int) (O : Nat → Prop) (W : World) : Prop where
  be : Below w0.heap.size w0 W
  tb : W.heap[bt]? = some (.cells #[.slice p T.length c] 24 (0, 0))
  ib : W.heap[bi]? = some (.cells #[.string id] 9 (0, 0))
  ab : W.heap[ba]? = some (.cells #[.int .i64 g] 3 (0, 0))
  nt : ba ≠ bt
  ni : ba ≠ bi
  za : w0.heap.size ≤ ba
  rg : -1 ≤ g ∧ g < (T.length : Int)
  own : ∀ b, O b ↔ b = ba
theorem InvF.later {w0 W W' : World} {p : Option Addr} {c : Nat} {T : List Nd} {id : ByteArray} {bt bi ba : Nat} {g : Int} {O : Nat → Prop} (h : InvF w0 p c T id bt bi ba g O W) (hb : Below W.heap.size W W') : InvF w0 p c T id bt bi ba g O W' :=
  ⟨below_via hb h.be, (hb.block _ (lt_of_block h.tb)).trans h.tb, (hb.block _ (lt_of_block h.ib)).trans h.ib, (hb.block _ (lt_of_block h.ab)).trans h.ab, h.nt, h.ni, h.za, h.rg, h.own⟩
theorem InvF.drewN {w0 W : World} {p : Option Addr} {c : Nat} {T : List Nd} {id : ByteArray} {bt bi ba : Nat} {g : Int} {O : Nat → Prop} (h : InvF w0 p c T id bt bi ba g O W) (n : Nat) : InvF w0 p c T id bt bi ba g O (W.drewN n) :=
  ⟨⟨h.be.os, h.be.tape, h.be.output, h.be.size, h.be.block⟩, h.tb, h.ib, h.ab, h.nt, h.ni, h.za, h.rg, h.own⟩
theorem InvF.set {w0 W : World} {p : Option Addr} {c : Nat} {T : List Nd} {id : ByteArray} {bt bi ba n : Nat} {g : Int} {O : Nat → Prop} (h : InvF w0 p c T id bt bi ba g O W) (hn : n < T.length) : InvF w0 p c T id bt bi ba (n : Int) O (W.setCell ⟨ba, 0, none⟩ (.int .i64 (n : Int))) := by
  have k : ∀ b, b ≠ ba → (W.setCell ⟨ba, 0, none⟩ (.int .i64 (n : Int))).heap[b]? = W.heap[b]? := fun b hb => blk_setCell_other _ _ _ _ (by simpa using hb)
  exact ⟨h.be.setCell h.za _, (k _ h.nt.symm).trans h.tb, (k _ h.ni.symm).trans h.ib, one_setCell h.ab, h.nt, h.ni, h.za, by omega, h.own⟩
theorem InvF.post {w0 W W' : World} {p : Option Addr} {c : Nat} {T : List Nd} {id : ByteArray} {bt bi ba : Nat} {g g' : Int} {O : Nat → Prop} (h : InvF w0 p c T id bt bi ba g O W) (h' : InvF w0 p c T id bt bi ba g' O W') (hz : W'.heap.size = W.heap.size) (hf : ∀ b, b ≠ ba → W'.heap[b]? = W.heap[b]?) : DPost (InvF w0 p c T id bt bi ba) g' O W W' :=
  ⟨O, h', by omega, fun b _ hO => hf b (fun e => hO ((h.own b).2 e)), fun b hb => .inl hb⟩
def RetF (w0 : World) (p : Option Addr) (c : Nat) (T : List Nd) (id : ByteArray) (bt bi ba : Nat) (g : Int) (n d : Nat) (O : Nat → Prop) (W : World) (e : Ending) (W' : World) : Prop := e = .returned (.bool (stepF T id g n d).2) ∧ DPost (InvF w0 p c T id bt bi ba) (stepF T id g n d).1 O W W'
set_option maxRecDepth 100000 in
set_option maxHeartbeats 8000000 in
theorem find_visitor (w0 : World) (p : Option Addr) (c : Nat) (T : List Nd) (id : ByteArray) (bt bi ba : Nat) (hT : TreeAt w0 (.slice p T.length c) T) : Visitor (InvF w0 p c T id bt bi ba) (stepF T id) T w0 74 #[.pointer (some ⟨bt, 0, none⟩), .pointer (some ⟨bi, 0, none⟩), .pointer (some ⟨ba, 0, none⟩)] := by
  refine ⟨fun args w => by rfl, fun {g O W} h => h.be, fun {g O W W'} h hb => h.later hb, fun {g O W} h b hO => by rw [(h.own b).1 hO]; exact lt_of_block h.ab, fun {g O W} n d hck hn h => ?_⟩
  show Calls Try.prog 74 _ W (RetF w0 p c T id bt bi ba g n d O W)
  obtain ⟨_, hNl, p', c', e, _, _, hnd⟩ := hT
  injection e with e1 _ e2
  subst e1 e2
  obtain ⟨b, off, rfl, hb, hnd⟩ := hnd (by omega)
  obtain ⟨kv, cv, hkv, _, hc⟩ := hnd n hn
  have c1 : W.cell? ⟨b, off + n * 34 + 1, none⟩ = some (.string (T.getD n zNd).id) := by rw [(bcell h.be).1 _ _ hb]; exact hc 1 (by omega)
  have hbW : b < W.heap.size := by have := h.be.size; omega
  have t0 := cell_of_one h.tb
  have i0 := cell_of_one h.ib
  have a0 := cell_of_one h.ab
  have af := free_of_one h.ab
  have zt := lt_of_block h.tb
  have zi := lt_of_block h.ib
  have za := lt_of_block h.ab
  have hni : (n : Int) < (T.length : Int) := by omega
  obtain ⟨hr1, hr2⟩ := h.rg
  have nt : ¬ ba = bt := h.nt
  have ni : ¬ ba = bi := h.ni
  have HH := Lib.hid h
  obtain ⟨nid, hnid⟩ : ∃ z, z = (T.getD n zNd).id := ⟨_, rfl⟩
  have HST := Lib.hid (show (if nid = id then (n : Int) else g) = (stepF T id g n d).1 ∧ decide ((if nid = id then (n : Int) else g) < 0) = (stepF T id g n d).2 by rw [hnid]; exact ⟨rfl, rfl⟩)
  rw [← hnid] at c1
  have HR := Lib.hid (fun (e : Ending) (W' : World) (hr : e = .returned (.bool (stepF T id g n d).2) ∧ DPost (InvF w0 (some ⟨b, off, none⟩) c T id bt bi ba) (stepF T id g n d).1 O W W') => show RetF w0 (some ⟨b, off, none⟩) c T id bt bi ba g n d O W e W' from hr)
  clear hnid hkv hc hnd h
  generalize stepF T id g n d = st at *
  obtain ⟨s1, s2⟩ := st
  generalize RetF w0 (some ⟨b, off, none⟩) c T id bt bi ba g n d O W = post at *
  by_cases hid : nid = id
  · subst hid
    have hs : s1 = (n : Int) ∧ s2 = false := by
      obtain ⟨h1, h2⟩ := HST.out
      rw [if_pos rfl] at h1 h2
      exact ⟨h1.symm, by simp only at h2; rw [← h2]; simp⟩
    obtain ⟨rfl, rfl⟩ := hs
    clear HST
    go_enter Try.func74, Try.ntmps74
    go_wp2
    go_quiet (fail)
    go_wp2
    refine HR.out _ _ ⟨?_, HH.out.post ((HH.out.drewN _).set hn) (by simp) (fun b hb => blk_setCell_other _ _ _ _ (by simpa using hb))⟩
    show Ending.returned (.bool (decide ((n : Int) < 0))) = .returned (.bool false)
    rw [decide_eq_false (by omega)]
  · have hs : s1 = g ∧ s2 = decide (g < 0) := by
      obtain ⟨h1, h2⟩ := HST.out
      rw [if_neg hid] at h1 h2
      exact ⟨h1.symm, h2.symm⟩
    obtain ⟨rfl, rfl⟩ := hs
    have d : (nid.toList == id.toList) = false := by rw [beq_eq_false_iff_ne]; exact fun e => hid (bytes_ext e)
    clear HST hid
    go_enter Try.func74, Try.ntmps74
    go_wp2
    go_quiet (fail)
    go_wp2
    refine HR.out _ _ ⟨rfl, HH.out.post (HH.out.drewN _) rfl (fun b hb => rfl)⟩
set_option maxRecDepth 100000 in
set_option maxHeartbeats 8000000 in
theorem tree_Find_any (p : Option Addr) (c : Nat) (T : List Nd) (id : ByteArray) (w : World) (hT : TreeAt w (.slice p T.length c) T) (hid : id.size ≤ 9223372036854775807) : Calls Try.prog 47 #[.agg #[.slice p T.length c], .string id] w fun e w' => e = .returned (.int .i64 (findR T id)) ∧ Below w.heap.size w w' := by
  have hlen := hT.len
  by_cases h0 : 0 < id.size
  · have V := find_visitor w p c T id w.heap.size (w.heap.size + 1) (w.heap.size + 2) hT
    have HI : InvF w p c T id w.heap.size (w.heap.size + 1) (w.heap.size + 2) (-1) (fun b => b = w.heap.size + 2) (((w.alloc (.cells #[.slice p T.length c] 24)).alloc (.cells #[.string id] 9)).alloc (.cells #[.int .i64 (-1)] 3)) := by
      have b3 := heap_alloc_new ((w.alloc (.cells #[.slice p T.length c] 24)).alloc (.cells #[.string id] 9)) (.cells #[.int .i64 (-1)] 3)
      have b2 := heap_alloc_new (w.alloc (.cells #[.slice p T.length c] 24)) (.cells #[.string id] 9)
      rw [World.size_alloc] at b2
      rw [World.size_alloc, World.size_alloc] at b3
      refine ⟨below_al (below_al (below_al (Below.refl _ _) _) _) _, ?_, ?_, b3, by omega, by omega, by omega, by omega, fun b => Iff.rfl⟩
      · exact (heap_alloc_old _ _ (by simp; omega)).trans ((heap_alloc_old _ _ (by simp)).trans (heap_alloc_new _ _))
      · exact (heap_alloc_old _ _ (by simp)).trans b2
    have HW := Lib.hid (walk_any V p c hT (-1) _ _ HI)
    have hmf : ∀ (fn : Fn) (first cap : Array Value) (w : World), (Instr.makeFunc fn first cap).run Try.prog w = .ok (.func fn first cap) w := fun _ _ _ _ => rfl
    have HF := Lib.hid (walkF T id h0)
    have hne : id.toList.isEmpty = false := by
      have := ne_nil_of_pos_ h0
      simpa using this
    clear V HI hT h0
    go_enter Try.func47, Try.ntmps47
    go_wp2_with fail
    refine HW.out.mono ?_
    clear HW
    rw [HF.out]
    rintro e w1 ⟨rfl, O', hI, hz, hfr, hg⟩
    have x0 := cell_of_one hI.ab
    have z0 := lt_of_block hI.ab
    have HB := Lib.hid hI.be
    clear hz hfr hg hI
    go_wp2
    go_ret
    exact ⟨rfl, HB.out⟩
  · have HF := Lib.hid (show findR T id = -1 by unfold findR; rw [if_neg (fun e => h0 e.2)])
    have hne : id.toList.isEmpty = true := by
      have : id.data.toList = [] := by rw [← List.length_eq_zero_iff, ← Lib.size_eq]; omega
      rw [ByteArray.toList_eq, this]; rfl
    clear h0 hT
    go_enter Try.func47, Try.ntmps47
    go_wp2
    go_ret
    exact ⟨by rw [HF.out]; rfl, by go_grown⟩
end Go.Proofs.Ytihjefncjkdnpaa
