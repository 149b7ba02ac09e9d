/-
  Proved: for every input the law FnExactRollsFrom answers true, and its arguments read afterwards as before. Conditions: none. (The program's RollsFrom returns what the reference's returns, for all arguments.)
-/
import Derived.Test.YtodpjbgapljabaaOpen
import Derived.Test.YtodpjbgapljabaaLawS
namespace Go.Proofs.Ytodpjbgapljabaa
open Go.ChangeShapes Go.WideShapes Go.ChangeAt Go.RowKit Go.Joins

namespace FnExactRollsFrom
set_option maxRecDepth 100000 in
theorem lifted (os : Os) (started : os.Started) (H : Type) (enc : TypeId × Value → H) :
    ReturnsInHanded {} Try.checked os 3 .any (Rows.fnExactRollsFromSpec.pre6 enc Try.prog Try.f3 Rows.fnExactRollsFromRow.domain false) (Rows.fnExactRollsFromSpec.post enc Try.prog Try.f3 false true false false) := by
  refine returnsInHanded_of_change (C := Try.checked) own started (by kernel_rfl) Try.func3
    (ChangeSpec.witness6 (enc := enc) (C := Try.checked) false ⟨#[], #[.agg #[.int .i64 0, .int .i64 0, .int .i64 0, .int .i64 0], .int .i64 0, .int .i64 0], []⟩ 8 (by kernel_rfl) (by kernel_rfl) (by kernel_rfl) (by kernel_rfl)) ?_
  intro W base args ds gs before hval0 hW _ _
  have hval : ∀ (j : Nat) t v, Try.f3.params[j]? = some t → args[j]? = some v → Value.okWide Try.prog W .any base t v := hval0
  have hW1 := hW
  obtain ⟨p, q, hA0, hV, rfl, _, _⟩ := hW
  have hA : DataW.TrodAll enc Try.prog W 0 (fun _ => true) true Try.f3.params.toList args.toList ds p := hA0
  have hlt : ∀ x ∈ p, x.block < W.heap.size := fun x hx => hW1.lt x (by simp [hx])
  rw [Try.params3] at hA hval
  obtain ⟨v0, vs0, d0, ds0, p0, q0, hargs, rfl, rfl, h0, r0⟩ := trodAll_cons hA
  obtain ⟨v1, vs1, d1, ds1, p1, q1, rfl, rfl, rfl, h1, r1⟩ := trodAll_cons r0
  obtain ⟨v2, vs2, d2, ds2, p2, q2, rfl, rfl, rfl, h2, r2⟩ := trodAll_cons r1
  obtain ⟨rfl, rfl, rfl⟩ := trodAll_nil r2
  obtain rfl : args = #[v0, v1, v2] := by cases args; simp_all
  obtain ⟨rfl, rfl⟩ := trodVars_none hV
  obtain ⟨ip0, ic0, ih0, is0, rfl, wp0, wc0, wh0, ws0⟩ := open_V (fun x hx => hlt x (by simp [hx])) (hval 0 23 v0 rfl rfl) h0
  obtain ⟨in1, rfl, wi1⟩ := open_I (fun x hx => hlt x (by simp [hx])) (hval 1 2 v1 rfl rfl) h1
  obtain ⟨in2, rfl, wi2⟩ := open_I (fun x hx => hlt x (by simp [hx])) (hval 2 2 v2 rfl rfl) h2
  exact (walk ip0 ic0 ih0 is0 wp0 wc0 wh0 ws0 in1 wi1 in2 wi2 W).mono fun e W2 ⟨he, hb⟩ => ⟨_, he, law_post laidOut rfl (by kernel_rfl) (tb := 4) rfl Try.underlying4 hW1 rfl rfl rfl hb⟩
theorem over : Rows.fnExactRollsFromRow.holds Try.pinned (OpenSpec.ofChange Rows.fnExactRollsFromSpec) :=
  OpenClaim.holds_of_wide 3 Try.f3 rfl rfl rfl rfl rfl rfl rfl ⟨rfl, rfl, rfl, rfl, rfl⟩ rfl rfl rfl rfl rfl (by kernel_rfl) Try.func3 (by kernel_rfl)
    (of_decide_eq_true (by kernel_rfl)) (by unfold Func.isWrapper; first | (rw [if_pos (by decide +kernel)]; kernel_rfl) | (rw [if_neg (by decide +kernel)]; exact ⟨rfl, rfl⟩))
    (fun os started H enc _ => lifted os started H enc)
theorem proved : Rows.FnExactRollsFromSaid := over
#print axioms proved
end FnExactRollsFrom
end Go.Proofs.Ytodpjbgapljabaa
