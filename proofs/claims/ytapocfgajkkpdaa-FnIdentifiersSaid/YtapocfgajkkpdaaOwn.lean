/-
  Contracts: copies of a slice; the laws' marks on what a call has made.
-/
import Derived.Test.YtapocfgajkkpdaaMem
import Derived.Test.YtapocfgajkkpdaaNum
import Derived.Lib.SliceRun
namespace Go.Proofs.Ytapocfgajkkpdaa
open Go.ChangeShapes Go.WideShapes Go.ChangeAt Go.RowKit Go.Joins

theorem Past.keepz {a b : World} (h : Past a b) {p : Addr} (hc : ∃ v, a.cell? p = some v) (hf : a.frozen? p = false) : b.frozen? p = false := by
  obtain ⟨v, hv⟩ := hc
  exact (h.keepf hv).trans hf
/-- A new slice with the numbers xs. -/
def RowMade (w : World) (n : Nat) (xs : List Int) (e : Ending) (w' : World) : Prop :=
  ∃ g k, e = .returned (.slice (some ⟨g, 0, none⟩) n k) ∧ OwI w.heap.size w' (some ⟨g, 0, none⟩) n k xs ∧ Past w w'
/-- Behind a new block and writes to that block alone old memory is as it was. -/
theorem Past.grownNew {w w' : World} {o : Obj} (h : (w.alloc o).grownBy w' (Value.ownBlock (.slice (some ⟨w.heap.size, 0, none⟩) 0 0))) : Past w w' :=
  Below.grown (Below.alloc (Below.refl _ _) (Nat.le_refl _) o) h (by simp) (fun k hk => by simp [Value.ownBlock] at hk; omega)
theorem own_shape {base n : Nat} {w : World} {v : Value} {xs : List Int} (h : w.ownsRow base 2 1 v n (xs.map (Value.int .i64))) (hv : v ≠ .slice none 0 0) :
    ∃ g k, v = .slice (some ⟨g, 0, none⟩) n k ∧ OwI base w (some ⟨g, 0, none⟩) n k xs := by
  have h' := h
  rcases h.2 with ⟨h0, _⟩ | ⟨g, cap, cur, rfl, _⟩
  · exact absurd h0 hv
  · exact ⟨g, cap, rfl, h'⟩
theorem own_any (b o n k : Nat) (xs : List Int) (w : World) (hx : RdI w (some ⟨b, o, none⟩) n xs) (hn : n ≤ 1048576) :
    Calls Try.prog 108 #[.slice (some ⟨b, o, none⟩) n k] w (RowMade w n xs) := by
  obtain ⟨i0, hi, hz0, hz1, hz2⟩ := info_parts infoI
  have hnil := fun wx => Lib.run_eql_slice_nil (P := Try.prog) wx 28 2 (some ⟨b, o, none⟩) n k 0 0 Try.underlying28
  have hcells : ∀ j u, (xs.map (Value.int .i64))[j]? = some u → w.cell? ((⟨b, o, none⟩ : Addr).add j) = some u := by
    intro j u hj
    rw [List.getElem?_map] at hj
    cases hxj : xs[j]? with
    | none => rw [hxj] at hj; cases hj
    | some x =>
      rw [hxj] at hj
      simp only [Option.map_some, Option.some.injEq] at hj
      subst hj
      have hjn : j < n := by have := (List.getElem?_eq_some_iff.1 hxj).1; have := hx.1; omega
      obtain ⟨b', o', x', e, hx', hc⟩ := hx.at_ hjn
      rw [hxj] at hx'
      simp only [Option.some.injEq, Addr.mk.injEq] at e hx'
      obtain ⟨rfl, rfl, _⟩ := e
      subst hx'
      rw [add_plain]
      exact hc
  have HC := Lib.hid hcells
  clear hcells
  go_enter Try.func108, Try.ntmps108
  go_wp2_with (at_builtin; refine wpList_append_own _ rfl (.tmp 3) (.tmp 4) 28 rfl w.heap.size 2 i0 (.int .i64 0) 1 8 Try.underlying28 hi hz0 hz1 hz2 rfl (by decide) _ 0 [] rfl (World.ownsRow_lit w #[] 0 (Nat.le_refl _) (Nat.zero_le _) rfl) ⟨b, o, none⟩ n k (xs.map (Value.int .i64)) rfl (by have := hx.1; simpa using this) (fun j u hj => ((Past.refl w).alloc _).keep (HC.out j u hj)) (by intro u hu; simp only [List.mem_map] at hu; obtain ⟨_, _, rfl⟩ := hu; rfl) (by unfold maxLen; omega) (by omega) (by simp) ?_; intro v1 w1 hown1 hg1 hiff)
  go_ret
  rw [Nat.zero_add, List.nil_append] at hown1
  obtain ⟨g, k', rfl, ho⟩ := own_shape hown1 (fun h => absurd (hiff.1 h).1 (fun h2 => by injection h2 with h2; cases h2))
  exact ⟨g, k', rfl, ho, Past.grownNew hg1⟩
theorem clone_any (b o n k : Nat) (xs : List Int) (w : World) (hx : RdI w (some ⟨b, o, none⟩) n xs) (hn : n ≤ 1048576) :
    Calls Try.prog 105 #[.slice (some ⟨b, o, none⟩) n k] w (RowMade w n xs) := by
  obtain ⟨i0, hi, hz0, hz1, hz2⟩ := info_parts infoI
  have hnil := fun wx => Lib.run_eql_slice_nil (P := Try.prog) wx 28 2 (some ⟨b, o, none⟩) n k 0 0 Try.underlying28
  have hcells : ∀ j u, (xs.map (Value.int .i64))[j]? = some u → w.cell? ((⟨b, o, none⟩ : Addr).add j) = some u := by
    intro j u hj
    rw [List.getElem?_map] at hj
    cases hxj : xs[j]? with
    | none => rw [hxj] at hj; cases hj
    | some x =>
      rw [hxj] at hj
      simp only [Option.map_some, Option.some.injEq] at hj
      subst hj
      have hjn : j < n := by have := (List.getElem?_eq_some_iff.1 hxj).1; have := hx.1; omega
      obtain ⟨b', o', x', e, hx', hc⟩ := hx.at_ hjn
      rw [hxj] at hx'
      simp only [Option.some.injEq, Addr.mk.injEq] at e hx'
      obtain ⟨rfl, rfl, _⟩ := e
      subst hx'
      rw [add_plain]
      exact hc
  have HC := Lib.hid hcells
  clear hcells
  go_enter Try.func105, Try.ntmps105
  go_wp2_with (at_builtin; refine wpList_append_own _ rfl (.tmp 5) (.tmp 6) 28 rfl w.heap.size 2 i0 (.int .i64 0) 1 8 Try.underlying28 hi hz0 hz1 hz2 rfl (by decide) _ 0 [] rfl (World.ownsRow_lit w #[] 0 (Nat.le_refl _) (Nat.zero_le _) rfl) ⟨b, o, none⟩ n k (xs.map (Value.int .i64)) rfl (by have := hx.1; simpa using this) (fun j u hj => ((Past.refl w).alloc _).keep (HC.out j u hj)) (by intro u hu; simp only [List.mem_map] at hu; obtain ⟨_, _, rfl⟩ := hu; rfl) (by unfold maxLen; omega) (by omega) (by simp) ?_; intro v1 w1 hown1 hg1 hiff)
  go_ret
  rw [Nat.zero_add, List.nil_append] at hown1
  obtain ⟨g, k', rfl, ho⟩ := own_shape hown1 (fun h => absurd (hiff.1 h).1 (fun h2 => by injection h2 with h2; cases h2))
  exact ⟨g, k', rfl, ho, Past.grownNew hg1⟩
end Go.Proofs.Ytapocfgajkkpdaa
