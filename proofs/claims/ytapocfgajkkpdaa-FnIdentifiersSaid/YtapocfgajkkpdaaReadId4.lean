/-
  Contracts: a board out of its letters: the reference's walk; the law's contracts.
-/
import Derived.Test.YtapocfgajkkpdaaReadId3
namespace Go.Proofs.Ytapocfgajkkpdaa
open Go.ChangeShapes Go.WideShapes Go.ChangeAt Go.RowKit Go.Joins

theorem spl_lt {B : List Int} {Z j : Nat} (hj : j ≤ B.length) (hZ : 0 < Z) (h : ∀ t, t < j → ¬ hitZ B Z t) : (spl B j).1.length < Z := by
  rcases Nat.lt_or_ge (spl B j).1.length Z with h1 | h1
  · exact h1
  · obtain ⟨t, ht⟩ := hit_of hj hZ h1
    rcases Nat.lt_or_ge t j with h2 | h2
    · exact absurd ht (h t h2)
    · have := spl_mono B h2
      have := ht.2.2
      omega
theorem readId_any (p c h s : Int) (tb : ByteArray) (w : World) (hsz : tb.size ≤ 1048576) :
    Calls Try.prog 41 #[.agg #[.int .i64 p, .int .i64 c, .int .i64 h, .int .i64 s], .string tb] w (BoardCode w (rdL p c h s tb) (rdM p c h s tb) (rdC p c h s tb)) := by
  cases hv : vOk p c h s
  · exact readId_v p c h s tb w hv
  · obtain ⟨_, _, _, _⟩ := vOk_yes hv
    obtain ⟨P, rfl⟩ := Int.eq_ofNat_of_zero_le (show 0 ≤ p from by omega)
    exact readId_yes P c h s tb w (Lib.hid hv) (by omega) hsz
end Go.Proofs.Ytapocfgajkkpdaa
