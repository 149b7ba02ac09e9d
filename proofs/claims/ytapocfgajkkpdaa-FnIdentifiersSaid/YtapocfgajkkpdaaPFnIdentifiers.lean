/-
  Proved: for every input the law FnIdentifiers answers true, and its argument read afterwards as before. Conditions: none. (A board is recovered from its bits and from its identifier, and an accepted identifier is that of its board.)
-/
import Derived.Test.YtapocfgajkkpdaaOpenD
import Derived.Test.YtapocfgajkkpdaaFIdent
namespace Go.Proofs.Ytapocfgajkkpdaa
open Go.ChangeShapes Go.WideShapes Go.ChangeAt Go.RowKit Go.Joins

namespace FnIdentifiers
set_option maxRecDepth 100000 in
theorem lifted (os : Os) (started : os.Started) (H : Type) (enc : TypeId × Value → H) :
    ReturnsInHanded {} Try.checked os 7 .any (Rows.fnIdentifiersSpec.pre6 enc Try.prog Try.f7 Rows.fnIdentifiersRow.domain false) (Rows.fnIdentifiersSpec.post enc Try.prog Try.f7 false true false false) := by
  refine returnsInHanded_of_change (C := Try.checked) own started (by kernel_rfl) Try.func7
    (ChangeSpec.witness6 (enc := enc) (C := Try.checked) false ⟨#[], #[.slice none 0 0], []⟩ 8 (by kernel_rfl) (by kernel_rfl) (by kernel_rfl) (by kernel_rfl)) ?_
  intro W base args ds gs before hval0 hW _ _
  have hval : ∀ (j : Nat) t v, Try.f7.params[j]? = some t → args[j]? = some v → Value.okWide Try.prog W .any base t v := hval0
  have hW1 := hW
  obtain ⟨p, q, hA0, hV, rfl, _, _⟩ := hW
  have hA : DataW.TrodAll enc Try.prog W 0 (fun _ => true) true Try.f7.params.toList args.toList ds p := hA0
  have hlt : ∀ x ∈ p, x.block < W.heap.size := fun x hx => hW1.lt x (by simp [hx])
  rw [Try.params7] at hA hval
  obtain ⟨v0, vs0, d0, ds0, p0, q0, hargs, rfl, rfl, h0, r0⟩ := trodAll_cons hA
  obtain ⟨rfl, rfl, rfl⟩ := trodAll_nil r0
  obtain rfl : args = #[v0] := by cases args; simp_all
  obtain ⟨rfl, rfl⟩ := trodVars_none hV
  obtain ⟨A0, n0, k0, rfl, hx0, hyk0⟩ := open_D (fun x hx => hlt x (by simp [hx])) (hval 0 22 v0 rfl rfl) h0
  exact (walk W A0 n0 k0 hx0 hyk0).mono fun e W2 ⟨he, hb⟩ => ⟨_, he, law_post laidOut rfl (by kernel_rfl) (tb := 4) rfl Try.underlying4 hW1 rfl rfl rfl hb⟩
theorem over : Rows.fnIdentifiersRow.holds Try.pinned (OpenSpec.ofChange Rows.fnIdentifiersSpec) :=
  OpenClaim.holds_of_wide 7 Try.f7 rfl rfl rfl rfl rfl rfl rfl ⟨rfl, rfl, rfl, rfl, rfl⟩ rfl rfl rfl rfl rfl (by kernel_rfl) Try.func7 (by kernel_rfl)
    (of_decide_eq_true (by kernel_rfl)) (by unfold Func.isWrapper; first | (rw [if_pos (by decide +kernel)]; kernel_rfl) | (rw [if_neg (by decide +kernel)]; exact ⟨rfl, rfl⟩))
    (fun os started H enc _ => lifted os started H enc)
theorem proved : Rows.FnIdentifiersSaid := over
#print axioms proved
end FnIdentifiers
end Go.Proofs.Ytapocfgajkkpdaa
