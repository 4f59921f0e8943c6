/- Numbers of 64 bits. -/
import Derived.Test.YtnhnheigdlnokaaOwn
import Derived.Test.YtnhnheigdlnokaaEarth4
import Derived.Test.YtnhnheigdlnokaaStill
namespace Go.Proofs.Ytnhnheigdlnokaa
open Go.RowKit Go.Shelf Mpl

def inI64 (n : Int) : Prop := -9223372036854775808 ≤ n ∧ n ≤ 9223372036854775807

theorem results_cell1 {fn : Func} {p : Tmp} {t : TypeId} (h : fn.results = #[.cell p t]) (tmps : Array Value) (w : World) (P : Program) (g : Nat) (v : Value)
    (hp : tmps.getD p undef = .pointer (some ⟨g, 0, none⟩)) (h1 : (loadVar t ⟨g, 0, none⟩).run P w = .ok v w) :
    (results fn tmps).run P w = .ok v w := by
  simp only [results, h]
  rw [Array.getD_eq_getD_getElem?] at hp
  simp [Sem.run_bind, Result.andThen]
  rw [hp]
  simp [go_sem] at h1 ⊢
  rw [h1]


end Go.Proofs.Ytnhnheigdlnokaa
