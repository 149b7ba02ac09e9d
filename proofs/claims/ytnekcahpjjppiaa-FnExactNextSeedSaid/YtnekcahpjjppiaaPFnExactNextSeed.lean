/-
  Proved: for every input the law FnExactNextSeed answers true, and its arguments read afterwards as before. Conditions: none. (The program's NextSeed returns what the reference's returns, for all arguments.)
-/
import Derived.Test.YtnekcahpjjppiaaOpen
import Derived.Test.YtnekcahpjjppiaaLawB
namespace Go.Proofs.Ytnekcahpjjppiaa
open Go.ChangeShapes Go.WideShapes Go.ChangeAt Go.RowKit Go.Joins

namespace FnExactNextSeed
set_option maxRecDepth 100000 in
theorem lifted (os : Os) (started : os.Started) (H : Type) (enc : TypeId × Value → H) :
    ReturnsInHanded {} Try.checked os 7 .any (Rows.fnExactNextSeedSpec.pre6 enc Try.prog Try.f7 Rows.fnExactNextSeedRow.domain false) (Rows.fnExactNextSeedSpec.post enc Try.prog Try.f7 false true false false) := by
  refine returnsInHanded_of_change (C := Try.checked) own started (by kernel_rfl) Try.func7
    (ChangeSpec.witness6 (enc := enc) (C := Try.checked) false ⟨#[], #[.int .i64 0], []⟩ 8 (by kernel_rfl) (by kernel_rfl) (by kernel_rfl) (by kernel_rfl)) ?_
  intro W base args ds gs before hval0 hW _ _
  have hval : ∀ (j : Nat) t v, Try.f7.params[j]? = some t → args[j]? = some v → Value.okWide Try.prog W .any base t v := hval0
  have hW1 := hW
  obtain ⟨p, q, hA0, hV, rfl, _, _⟩ := hW
  have hA : DataW.TrodAll enc Try.prog W 0 (fun _ => true) true Try.f7.params.toList args.toList ds p := hA0
  have hlt : ∀ x ∈ p, x.block < W.heap.size := fun x hx => hW1.lt x (by simp [hx])
  rw [Try.params7] at hA hval
  obtain ⟨v0, vs0, d0, ds0, p0, q0, hargs, rfl, rfl, h0, r0⟩ := trodAll_cons hA
  obtain ⟨rfl, rfl, rfl⟩ := trodAll_nil r0
  obtain rfl : args = #[v0] := by cases args; simp_all
  obtain ⟨rfl, rfl⟩ := trodVars_none hV
  obtain ⟨in0, rfl, wi0⟩ := open_I (fun x hx => hlt x (by simp [hx])) (hval 0 2 v0 rfl rfl) h0
  exact (walk in0 wi0 W).mono fun e W2 ⟨he, hb⟩ => ⟨_, he, law_post laidOut rfl (by kernel_rfl) (tb := 4) rfl Try.underlying4 hW1 rfl rfl rfl hb⟩
theorem over : Rows.fnExactNextSeedRow.holds Try.pinned (OpenSpec.ofChange Rows.fnExactNextSeedSpec) :=
  OpenClaim.holds_of_wide 7 Try.f7 rfl rfl rfl rfl rfl rfl rfl ⟨rfl, rfl, rfl, rfl, rfl⟩ rfl rfl rfl rfl rfl (by kernel_rfl) Try.func7 (by kernel_rfl)
    (of_decide_eq_true (by kernel_rfl)) (by unfold Func.isWrapper; first | (rw [if_pos (by decide +kernel)]; kernel_rfl) | (rw [if_neg (by decide +kernel)]; exact ⟨rfl, rfl⟩))
    (fun os started H enc _ => lifted os started H enc)
theorem proved : Rows.FnExactNextSeedSaid := over
#print axioms proved
end FnExactNextSeed
end Go.Proofs.Ytnekcahpjjppiaa
