/-
  Contracts: the code that draws something else.
-/
import Derived.Test.YtdcdjocjlicplaaDoorOpenC
import Derived.Laws.AppendOwnNone
import Derived.Deep.AppendLies
namespace Go.Proofs.YtdcdjocjlicplaaDoor
open Go.ChangeShapes Go.WideShapes Go.ChangeAt Go.RowKit Go.Joins

theorem RdC.list {w : World} {g : Nat} {A : Option Addr} {n : Nat} (h : RdC w g A n) :
    ∃ xs : List Int, xs.length = n ∧ (∀ x ∈ xs, 0 ≤ x ∧ x ≤ 255) ∧ ∀ j x, xs[j]? = some x → ∀ ad, A = some ad → w.cell? (ad.add j) = some (.int .u8 x) := by
  induction n with
  | zero =>
    refine ⟨[], rfl, ?_, ?_⟩
    · intro x hx
      cases hx
    · intro j x hx
      simp at hx
  | succ n ih =>
    obtain ⟨xs, h1, h2, h3⟩ := ih (fun j hj => h j (by omega))
    obtain ⟨b, o, x, rfl, hc, x0, x1, _⟩ := h n (by omega)
    refine ⟨xs ++ [x], by simp [h1], fun y hy => ?_, fun j y hj ad had => ?_⟩
    · rcases List.mem_append.1 hy with hy | hy
      · exact h2 y hy
      · rw [List.mem_singleton] at hy
        subst hy
        exact ⟨x0, x1⟩
    · by_cases e : j < n
      · rw [List.getElem?_append_left (by omega)] at hj
        exact h3 j y hj ad had
      · have hl := (List.getElem?_eq_some_iff.1 hj).1
        rw [List.length_append, List.length_singleton] at hl
        obtain rfl : j = n := by omega
        rw [List.getElem?_append_right (by omega), h1, Nat.sub_self] at hj
        simp only [List.getElem?_cons_zero, Option.some.injEq] at hj had
        subst hj had
        rw [add_plain]
        exact hc
theorem infoB : (Tryd.prog.info? 5).map (fun i => (i.zero, i.size, i.bytes)) = some (some (.int .u8 0), 1, 1) := by kernel_rfl
theorem own_bytes {base n : Nat} {w : World} {v : Value} {xs : List Int} (h : w.ownsRow base 5 1 v n (xs.map (Value.int .u8))) (hv : v ≠ .slice none 0 0) (hb : ∀ x ∈ xs, 0 ≤ x ∧ x ≤ 255) :
    ∃ g k, v = .slice (some ⟨g, 0, none⟩) n k ∧ RdC w w.heap.size (some ⟨g, 0, none⟩) n := by
  have h' := h
  rcases h.2 with ⟨h0, _⟩ | ⟨g, cap, cur, rfl, _, hg, _⟩
  · exact absurd h0 hv
  · have hl : xs.length = n := by simpa using h.1
    have hgz : g < w.heap.size := (Array.getElem?_eq_some_iff.1 hg).1
    refine ⟨g, cap, rfl, fun j hj => ?_⟩
    have hx : xs[j]? = some xs[j] := List.getElem?_eq_getElem (by omega)
    have h2 := World.ownsRow.cellAt h' j (by omega)
    have h3 := hb xs[j] (List.getElem_mem _)
    refine ⟨g, 0, xs[j], rfl, ?_, h3.1, h3.2, hgz⟩
    rw [Nat.zero_add, h2, List.getElem?_map, hx]
    rfl
def OtherMade (w : World) (n : Nat) (e : Ending) (w' : World) : Prop := ∃ g k', e = .returned (.slice (some ⟨g, 0, none⟩) (3 + n) k') ∧ RdC w' w'.heap.size (some ⟨g, 0, none⟩) (3 + n) ∧ Past w w'
set_option maxHeartbeats 1000000 in
theorem other_any (A : Option Addr) (n k : Nat) (w : World) (hx : RdC w w.heap.size A n) (hk : A = none → n = 0 ∧ k = 0) (hn : n ≤ 4096) :
    Calls Tryd.prog 36 #[.slice A n k, .int .u8 3] w (OtherMade w n) := by
  obtain ⟨i0, hi, hz0, hz1, hz2⟩ := info_parts infoB
  obtain ⟨xs, h1, h2, h3⟩ := hx.list
  have hb : ∀ x ∈ [(3 : Int), 10, 9] ++ xs, 0 ≤ x ∧ x ≤ 255 := fun x hx => by
    rcases List.mem_append.1 hx with hx | hx
    · simp only [List.mem_cons, List.not_mem_nil, or_false] at hx
      omega
    · exact h2 x hx
  obtain ⟨w1, hw1⟩ : ∃ w1, w1 = w.alloc (.cells #[.int .u8 3, .int .u8 10, .int .u8 9] 5) := ⟨_, rfl⟩
  have hp1 : Past w w1 := by rw [hw1]; exact (by repeat (first | exact Past.refl _ | assumption | refine Past.alloc ?_ _ | refine Past.drew ?_ | refine Past.drewN ?_ _ | refine Past.setCell ?_ (by first | (simp; done) | (simp <;> omega)) _ | refine Past.trans ?_ (past_over _ _) | refine Past.trans ?_ (by assumption)))
  have ho1 : w1.ownsRow w.heap.size 5 1 (.slice (some ⟨w.heap.size, 0, none⟩) 3 3) 3 [.int .u8 3, .int .u8 10, .int .u8 9] := by rw [hw1]; exact World.ownsRow_lit w #[.int .u8 3, .int .u8 10, .int .u8 9] 3 (Nat.le_refl _) (by decide) rfl
  go_enter Tryd.func36, Tryd.ntmps36
  go_upto_region 2 with fail
  rw [← hw1]
  clear hw1
  cases A with
  | none =>
    obtain ⟨rfl, rfl⟩ := hk rfl
    obtain rfl : xs = [] := List.length_eq_zero_iff.1 h1
    obtain ⟨g, k', hv, hr⟩ := own_bytes (xs := [(3 : Int), 10, 9]) ho1 (by simp) (fun x hx => hb x (by simpa using hx))
    simp only [Value.slice.injEq, Option.some.injEq, Addr.mk.injEq, and_true, true_and] at hv
    obtain ⟨rfl, rfl⟩ := hv
    go_wp2_with (at_builtin; refine wpList_append_own_none rfl _ _ 52 rfl w.heap.size 5 i0 1 Tryd.underlying52 hi _ 3 _ rfl ho1 rfl ?_)
    go_ret
    exact ⟨_, _, rfl, hr, hp1⟩
  | some ad =>
    have hnews : ∀ j u, (xs.map (Value.int .u8))[j]? = some u → w1.cell? (ad.add j) = some u := by
      intro j u hj
      rw [List.getElem?_map] at hj
      cases hxj : xs[j]? with
      | none => rw [hxj] at hj; cases hj
      | some x =>
        rw [hxj] at hj
        simp only [Option.map_some, Option.some.injEq] at hj
        subst hj
        exact hp1.keep (h3 j x hxj ad rfl)
    have HN := Lib.hid hnews
    have HL := Lib.hid h1
    clear hnews h1 h3 h2
    go_wp2_with (at_builtin; refine wpList_append_own _ rfl _ _ 52 rfl w.heap.size 5 i0 (.int .u8 0) 1 1 Tryd.underlying52 hi hz0 hz1 hz2 rfl (by decide) _ 3 [.int .u8 3, .int .u8 10, .int .u8 9] rfl ho1 ad n k (xs.map (Value.int .u8)) rfl (by have := HL.out; simpa using this) HN.out (by intro u hu; simp only [List.mem_map] at hu; obtain ⟨_, _, rfl⟩ := hu; rfl) (by unfold maxLen; omega) (by omega) hp1.sz ?_; intro v2 w2 hown2 hg2 hiff)
    obtain ⟨g, k', rfl, hr⟩ := own_bytes (xs := [(3 : Int), 10, 9] ++ xs) (by rw [List.map_append]; exact hown2) (fun h => absurd (hiff.1 h).1 (fun h2 => by injection h2 with h2; cases h2)) hb
    go_ret
    exact ⟨_, _, rfl, hr, past_grown hp1 ho1 (Nat.le_refl _) hg2⟩
end Go.Proofs.YtdcdjocjlicplaaDoor
