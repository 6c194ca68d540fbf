/- Trees' bytes: parts; every put closure by its number. -/
import Derived.Test.YtcihihncgpddfaaWrZ
import Derived.Test.YtcihihncgpddfaaEncZ
namespace Go.Proofs.Ytcihihncgpddfaa
open Go.RowKit Go.Deep
set_option linter.unusedVariables false
set_option linter.unusedSimpArgs false

def putF : Nat → FuncId
  | 0 => 73
  | 1 => 76
  | 2 => 80
  | 3 => 82
  | 4 => 84
  | 5 => 86
  | 6 => 90
  | 7 => 92
  | 8 => 94
  | 9 => 96
  | 10 => 98
  | 11 => 100
  | _ => 102
def getF : Nat → FuncId
  | 0 => 75
  | 1 => 78
  | 2 => 81
  | 3 => 83
  | 4 => 85
  | 5 => 88
  | 6 => 91
  | 7 => 93
  | 8 => 95
  | 9 => 97
  | 10 => 99
  | 11 => 101
  | _ => 104
def fnv (f : FuncId) : Value := .func (.func f) #[] #[]
def partV (k : Nat) : List Value := [fnv (putF k), fnv (getF k)]
def partsL : List (List Value) := (List.range 13).map partV
def partsA : Array Value := partsL.flatten.toArray
theorem partsA_at : ∀ k, k < 13 → partsA[k * 2]? = some (fnv (putF k)) ∧ partsA[k * 2 + 1]? = some (fnv (getF k))
  | 0, _ => ⟨by kernel_rfl, by kernel_rfl⟩
  | 1, _ => ⟨by kernel_rfl, by kernel_rfl⟩
  | 2, _ => ⟨by kernel_rfl, by kernel_rfl⟩
  | 3, _ => ⟨by kernel_rfl, by kernel_rfl⟩
  | 4, _ => ⟨by kernel_rfl, by kernel_rfl⟩
  | 5, _ => ⟨by kernel_rfl, by kernel_rfl⟩
  | 6, _ => ⟨by kernel_rfl, by kernel_rfl⟩
  | 7, _ => ⟨by kernel_rfl, by kernel_rfl⟩
  | 8, _ => ⟨by kernel_rfl, by kernel_rfl⟩
  | 9, _ => ⟨by kernel_rfl, by kernel_rfl⟩
  | 10, _ => ⟨by kernel_rfl, by kernel_rfl⟩
  | 11, _ => ⟨by kernel_rfl, by kernel_rfl⟩
  | 12, _ => ⟨by kernel_rfl, by kernel_rfl⟩
  | n + 13, h => absurd h (by omega)
set_option maxRecDepth 100000 in
theorem put_enter : ∀ k, k < 13 → ∀ (args : Array Value) (w : World), (callFunc (putF k) args).run Try.prog w = .ok (.enter (putF k) args) w
  | 0, _ => fun args w => by rfl
  | 1, _ => fun args w => by rfl
  | 2, _ => fun args w => by rfl
  | 3, _ => fun args w => by rfl
  | 4, _ => fun args w => by rfl
  | 5, _ => fun args w => by rfl
  | 6, _ => fun args w => by rfl
  | 7, _ => fun args w => by rfl
  | 8, _ => fun args w => by rfl
  | 9, _ => fun args w => by rfl
  | 10, _ => fun args w => by rfl
  | 11, _ => fun args w => by rfl
  | 12, _ => fun args w => by rfl
  | n + 13, h => absurd h (by omega)
set_option maxRecDepth 100000 in
theorem get_enter : ∀ k, k < 13 → ∀ (args : Array Value) (w : World), (callFunc (getF k) args).run Try.prog w = .ok (.enter (getF k) args) w
  | 0, _ => fun args w => by rfl
  | 1, _ => fun args w => by rfl
  | 2, _ => fun args w => by rfl
  | 3, _ => fun args w => by rfl
  | 4, _ => fun args w => by rfl
  | 5, _ => fun args w => by rfl
  | 6, _ => fun args w => by rfl
  | 7, _ => fun args w => by rfl
  | 8, _ => fun args w => by rfl
  | 9, _ => fun args w => by rfl
  | 10, _ => fun args w => by rfl
  | 11, _ => fun args w => by rfl
  | 12, _ => fun args w => by rfl
  | n + 13, h => absurd h (by omega)
theorem put_any (k : Nat) (hk : k < 13) (w0 : World) (wb : Nat) (v : Value) (L : List Int) (b o : Nat) (x : Nd) (W : World) (h : WrAt w0.heap.size W wb v L) (hN : Src1 w0 b o x W) (hx : NdWr x) (hl : L.length ≤ 4294967296) : Calls Try.prog (putF k) #[.pointer (some ⟨wb, 0, none⟩), .pointer (some ⟨b, o, none⟩)] W (WrPost w0.heap.size W wb v (L ++ partB x k)) := by
  match k, hk with
  | 0, _ => exact put0 w0 wb v L b o x W h hN hx hl
  | 1, _ => exact put1 w0 wb v L b o x W h hN hx hl
  | 2, _ => exact put2 w0 wb v L b o x W h hN hx hl
  | 3, _ => exact put3 w0 wb v L b o x W h hN hx hl
  | 4, _ => exact put4 w0 wb v L b o x W h hN hx hl
  | 5, _ => exact put5 w0 wb v L b o x W h hN hx hl
  | 6, _ => exact put6 w0 wb v L b o x W h hN hx hl
  | 7, _ => exact put7 w0 wb v L b o x W h hN hx hl
  | 8, _ => exact put8 w0 wb v L b o x W h hN hx hl
  | 9, _ => exact put9 w0 wb v L b o x W h hN hx hl
  | 10, _ => exact put10 w0 wb v L b o x W h hN hx hl
  | 11, _ => exact put11 w0 wb v L b o x W h hN hx hl
  | 12, _ => exact put12 w0 wb v L b o x W h hN hx hl
  | n + 13, h => exact absurd h (by omega)
theorem infoPart : (Try.prog.info? 90).map (fun i => (i.zero, i.size, i.bytes)) = some (some (.agg #[.nilFunc, .nilFunc]), 2, 16) := by kernel_rfl
set_option maxRecDepth 100000 in
set_option maxHeartbeats 4000000 in
theorem parts_any (W : World) : Calls Try.prog 49 #[] W fun e w' => e = .returned (.slice (some ⟨W.heap.size, 0, none⟩) 13 13) ∧ w' = W.alloc (.cells partsA 90) := by
  obtain ⟨i0, hi, hz0, hz1, hz2⟩ := info_parts infoPart
  have HI := Lib.hid (And.intro hi (And.intro hz0 (And.intro hz1 hz2)))
  have L2 := Lib.hid (show ∀ a ∈ partsL, a.length = 2 from fun a ha => by obtain ⟨k, _, rfl⟩ := List.mem_map.1 ha; rfl)
  clear hi hz0 hz1 hz2
  go_enter Try.func49, Try.ntmps49
  go_wp2_with ((with_reducible refine wpList_buildSlice_all _ ?b1 85 90 13 #[(0, .tmp 1), (1, .tmp 2), (2, .tmp 3), (3, .tmp 4), (4, .tmp 5), (5, .tmp 6), (6, .tmp 7), (7, .tmp 8), (8, .tmp 9), (9, .tmp 10), (10, .tmp 11), (11, .tmp 12), (12, .tmp 13)] ?b2 i0 _ 2 Try.underlying85 HI.out.1 HI.out.2.1 HI.out.2.2.1 ?b6 partsL ?b7 ?b3 ?b4 ?b5 ?_); (case b1 => rfl); (case b2 => rfl); (case b6 => decide); (case b7 => rfl); (case b3 => rfl); (case b4 => exact L2.out); (case b5 => (show 13 * 2 ≤ 16777216; decide)))
  exact bodyPost_ret (v := .slice (some ⟨W.heap.size, 0, none⟩) 13 13) (by simp [results, Try.results49, go_sem]) rfl ⟨rfl, rfl⟩
end Go.Proofs.Ytcihihncgpddfaa
