import Derived.Test.YtcihihncgpddfaaBase
namespace Go.Proofs.Ytcihihncgpddfaa
open Go Go.Lib
/-- a function whose one result lies in a block of its own -/
theorem results_cell {P : Program} {fn : Func} {a : Nat} {t : TypeId} {tmps : Array Value} {w : World} {v : Value} (ad : Addr) (hf : fn.results = #[.cell a t]) (ha : tmps.getD a undef = .pointer (some ad)) (hl : (loadVar t ad).run P w = .ok v w) : (results fn tmps).run P w = .ok v w := by
  have key : ∀ (L : TypeId → Addr → Sem Value), (L t ad).run P w = .ok v w → (do
      let vs ← (#[ResultVar.cell a t]).mapM fun
        | .tmp t => pure (tmps.getD t undef)
        | .cell a t => do L t (← asAddr (tmps.getD a undef))
      pure (if h : vs.size = 1 then vs[0] else .tuple vs) : Sem Value).run P w = .ok v w := by
    intro L h
    have ha' : tmps[a]?.getD undef = .pointer (some ad) := by simpa using ha
    simp [go_sem, ha', h, asAddr]
  unfold results
  rw [hf]
  exact key loadVar hl
end Go.Proofs.Ytcihihncgpddfaa
