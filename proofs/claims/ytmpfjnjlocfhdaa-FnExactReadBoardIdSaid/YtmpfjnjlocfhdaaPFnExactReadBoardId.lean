/-
  Proved: for every input the law FnExactReadBoardId answers true, and its arguments read afterwards as before. Conditions: none. (The program's ReadBoardId returns what the reference's returns, for all arguments.)
-/
import Derived.Test.YtmpfjnjlocfhdaaOpen
import Derived.Test.YtmpfjnjlocfhdaaLawT
namespace Go.Proofs.Ytmpfjnjlocfhdaa
open Go.ChangeShapes Go.WideShapes Go.ChangeAt Go.RowKit Go.Joins

namespace FnExactReadBoardId
set_option maxRecDepth 100000 in
theorem lifted (os : Os) (started : os.Started) (H : Type) (enc : TypeId × Value → H) :
    ReturnsInHanded {} Try.checked os 10 .any (Rows.fnExactReadBoardIdSpec.pre6 enc Try.prog Try.f10 Rows.fnExactReadBoardIdRow.domain false) (Rows.fnExactReadBoardIdSpec.post enc Try.prog Try.f10 false true false false) := by
  refine returnsInHanded_of_change (C := Try.checked) own started (by kernel_rfl) Try.func10
    (ChangeSpec.witness6 (enc := enc) (C := Try.checked) false ⟨#[], #[.agg #[.int .i64 0, .int .i64 0, .int .i64 0, .int .i64 0], .string ByteArray.empty], []⟩ 8 (by kernel_rfl) (by kernel_rfl) (by kernel_rfl) (by kernel_rfl)) ?_
  intro W base args ds gs before hval0 hW _ _
  have hval : ∀ (j : Nat) t v, Try.f10.params[j]? = some t → args[j]? = some v → Value.okWide Try.prog W .any base t v := hval0
  have hW1 := hW
  obtain ⟨p, q, hA0, hV, rfl, _, _⟩ := hW
  have hA : DataW.TrodAll enc Try.prog W 0 (fun _ => true) true Try.f10.params.toList args.toList ds p := hA0
  have hlt : ∀ x ∈ p, x.block < W.heap.size := fun x hx => hW1.lt x (by simp [hx])
  rw [Try.params10] at hA hval
  obtain ⟨v0, vs0, d0, ds0, p0, q0, hargs, rfl, rfl, h0, r0⟩ := trodAll_cons hA
  obtain ⟨v1, vs1, d1, ds1, p1, q1, rfl, rfl, rfl, h1, r1⟩ := trodAll_cons r0
  obtain ⟨rfl, rfl, rfl⟩ := trodAll_nil r1
  obtain rfl : args = #[v0, v1] := by cases args; simp_all
  obtain ⟨rfl, rfl⟩ := trodVars_none hV
  obtain ⟨ip0, ic0, ih0, is0, rfl, wp0, wc0, wh0, ws0⟩ := open_V (fun x hx => hlt x (by simp [hx])) (hval 0 23 v0 rfl rfl) h0
  obtain ⟨st1, rfl, ws1⟩ := open_T (fun x hx => hlt x (by simp [hx])) (hval 1 9 v1 rfl rfl) h1
  exact (walk ip0 ic0 ih0 is0 wp0 wc0 wh0 ws0 st1 ws1 W).mono fun e W2 ⟨he, hb⟩ => ⟨_, he, law_post laidOut rfl (by kernel_rfl) (tb := 4) rfl Try.underlying4 hW1 rfl rfl rfl hb⟩
theorem over : Rows.fnExactReadBoardIdRow.holds Try.pinned (OpenSpec.ofChange Rows.fnExactReadBoardIdSpec) :=
  OpenClaim.holds_of_wide 10 Try.f10 rfl rfl rfl rfl rfl rfl rfl ⟨rfl, rfl, rfl, rfl, rfl⟩ rfl rfl rfl rfl rfl (by kernel_rfl) Try.func10 (by kernel_rfl)
    (of_decide_eq_true (by kernel_rfl)) (by unfold Func.isWrapper; first | (rw [if_pos (by decide +kernel)]; kernel_rfl) | (rw [if_neg (by decide +kernel)]; exact ⟨rfl, rfl⟩))
    (fun os started H enc _ => lifted os started H enc)
theorem proved : Rows.FnExactReadBoardIdSaid := over
#print axioms proved
end FnExactReadBoardId
end Go.Proofs.Ytmpfjnjlocfhdaa
