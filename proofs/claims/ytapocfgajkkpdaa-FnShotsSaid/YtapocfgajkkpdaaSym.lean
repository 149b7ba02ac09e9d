/-
  Plain facts: a board seen from the other side.
-/
import Derived.Test.YtapocfgajkkpdaaNum2
namespace Go.Proofs.Ytapocfgajkkpdaa

theorem bOk_turn {p c h s : Int} {xs ys : List Int} (hb : bOk p c h s xs ys = true) : bOk p c h s ys xs = true := by
  obtain ⟨h1, h2, h3, h4, h5⟩ := bOk_yes hb
  rw [bOk_apart h1 h3 h2 (by omega)]
  have hp := (vOk_yes h1).1
  refine decide_eq_true fun i hi hh => ?_
  have h6 := of_decide_eq_true h5 (p.toNat - 1 - i) (by omega)
  rw [show p.toNat - 1 - (p.toNat - 1 - i) = i from by omega] at h6
  exact h6 ⟨hh.2, hh.1⟩
end Go.Proofs.Ytapocfgajkkpdaa
