/-
  Slices of structs in memory: one that is read, one that the call itself made.
-/
import Derived.Test.YtdcdjocjlicplaaDoorBlots
import Derived.Test.YtdcdjocjlicplaaDoorMark
import Derived.Test.YtdcdjocjlicplaaDoorStp
namespace Go.Proofs.YtdcdjocjlicplaaDoor
open Go.ChangeShapes Go.WideShapes Go.ChangeAt Go.RowKit Go.Joins

/-- The cells of a list of structs, one behind the other. -/
def flat {E : Type} (cs : E → List Value) (L : List E) : List Value := L.flatMap cs
section
variable {E : Type} {cs : E → List Value} {z : Nat}
theorem flat_len (hz : ∀ e, (cs e).length = z) (L : List E) : (flat cs L).length = L.length * z := by
  induction L with
  | nil => simp [flat]
  | cons a l ih =>
    have h : flat cs (a :: l) = cs a ++ flat cs l := rfl
    rw [h, List.length_append, ih, hz, List.length_cons, Nat.add_mul, Nat.one_mul, Nat.add_comm]
theorem flat_app (L M : List E) : flat cs (L ++ M) = flat cs L ++ flat cs M := by simp [flat]
theorem flat_snoc (L : List E) (a : E) : flat cs (L ++ [a]) = flat cs L ++ cs a := by simp [flat]
theorem flat_get (hz : ∀ e, (cs e).length = z) {L : List E} {j i : Nat} {a : E} {v : Value} (hj : L[j]? = some a) (hi : (cs a)[i]? = some v) : (flat cs L)[j * z + i]? = some v := by
  induction L generalizing j with
  | nil => simp at hj
  | cons b l ih =>
    have h : flat cs (b :: l) = cs b ++ flat cs l := rfl
    rw [h]
    cases j with
    | zero =>
      simp only [List.getElem?_cons_zero, Option.some.injEq] at hj
      subst hj
      have hlt := (List.getElem?_eq_some_iff.1 hi).1
      rw [Nat.zero_mul, Nat.zero_add, List.getElem?_append_left hlt]
      exact hi
    | succ j =>
      rw [List.getElem?_cons_succ] at hj
      rw [List.getElem?_append_right (by rw [hz, Nat.succ_mul]; omega), hz, show (j + 1) * z + i - z = j * z + i from by rw [Nat.succ_mul]; omega]
      exact ih hj
/-- The slice value of address A and length n reads as the structs L. -/
def RdE (cs : E → List Value) (z : Nat) (w : World) (A : Option Addr) (n : Nat) (L : List E) : Prop :=
  L.length = n ∧ (0 < n → ∃ b o, A = some ⟨b, o, none⟩ ∧ ∀ j a i v, L[j]? = some a → (cs a)[i]? = some v → w.cell? ⟨b, o + j * z + i, none⟩ = some v)
/-- A slice of structs that the call itself has made, in a block from base on. -/
def OwE (t : TypeId) (cs : E → List Value) (z : Nat) (base : Nat) (w : World) (A : Option Addr) (n k : Nat) (L : List E) : Prop := L.length = n ∧ w.ownsRow base t z (.slice A n k) n (flat cs L)
variable {t : TypeId} {base base' : Nat} {w w' : World} {A : Option Addr} {n k : Nat} {L : List E}
theorem RdE.past (h : RdE cs z w A n L) (p : Past w w') : RdE cs z w' A n L :=
  ⟨h.1, fun hn => by
    obtain ⟨b, o, hA, hc⟩ := h.2 hn
    exact ⟨b, o, hA, fun j a i v hj hi => p.keep (hc j a i v hj hi)⟩⟩
theorem RdE.at_ (h : RdE cs z w A n L) {j : Nat} (hj : j < n) :
    ∃ b o a, A = some ⟨b, o, none⟩ ∧ L[j]? = some a ∧ ∀ i v, (cs a)[i]? = some v → w.cell? ⟨b, o + j * z + i, none⟩ = some v := by
  obtain ⟨b, o, hA, hc⟩ := h.2 (by omega)
  have hl : j < L.length := by rw [h.1]; exact hj
  exact ⟨b, o, L[j], hA, List.getElem?_eq_getElem hl, fun i v hi => hc j _ i v (List.getElem?_eq_getElem hl) hi⟩
theorem OwE.nil (t : TypeId) (cs : E → List Value) (z base : Nat) (w : World) : OwE t cs z base w none 0 0 [] := ⟨rfl, World.ownsRow_nil _ _ _ _⟩
theorem OwE.past (h : OwE t cs z base w A n k L) (p : Past w w') : OwE t cs z base w' A n k L := ⟨h.1, ownsRow_past h.2 p⟩
theorem OwE.alloc (h : OwE t cs z base w A n k L) (o : Obj) : OwE t cs z base (w.alloc o) A n k L := h.past ((Past.refl _).alloc o)
theorem OwE.drew (h : OwE t cs z base w A n k L) : OwE t cs z base w.drew A n k L := h
theorem OwE.less (h : OwE t cs z base w A n k L) (hb : base' ≤ base) : OwE t cs z base' w A n k L := by
  refine ⟨h.1, h.2.1, ?_⟩
  rcases h.2.2 with h0 | ⟨g, cap, cur, hv, hg, r⟩
  · exact .inl h0
  · exact .inr ⟨g, cap, cur, hv, by omega, r⟩
theorem OwE.mod {S : Nat → Prop} (h : OwE t cs z base w A n k L) (hm : Mod S w w') (hs : ∀ b, A = some ⟨b, 0, none⟩ → ¬ S b) : OwE t cs z base w' A n k L := ⟨h.1, ownsRow_mod h.2 hm hs⟩
theorem OwE.addr (h : OwE t cs z base w A n k L) (hn : 0 < n) : ∃ g, A = some ⟨g, 0, none⟩ := by
  rcases h.2.2 with ⟨h0, _⟩ | ⟨g, cap, cur, hv, _⟩
  · simp only [Value.slice.injEq] at h0
    omega
  · simp only [Value.slice.injEq] at hv
    exact ⟨g, hv.1⟩
theorem OwE.rd (hz : ∀ e, (cs e).length = z) (h : OwE t cs z base w A n k L) : RdE cs z w A n L := by
  refine ⟨h.1, fun hn => ?_⟩
  obtain ⟨g, rfl⟩ := h.addr hn
  refine ⟨g, 0, rfl, fun j a i v hj hi => ?_⟩
  have hg := flat_get hz hj hi
  have hlt := (List.getElem?_eq_some_iff.1 hg).1
  rw [flat_len hz, h.1] at hlt
  rw [Nat.zero_add, World.ownsRow.cellAt h.2 _ hlt, hg]
theorem OwE.blk_lt (h : OwE t cs z base w A n k L) {b : Nat} (hb : blk A b) : base ≤ b ∧ b < w.heap.size := by
  obtain ⟨a, rfl, rfl⟩ := hb
  rcases h.2.2 with ⟨h0, _⟩ | ⟨g, cap, cur, hv, hb, hg, _⟩
  · simp at h0
  · simp only [Value.slice.injEq, Option.some.injEq] at hv
    obtain ⟨rfl, _⟩ := hv
    exact ⟨hb, (Array.getElem?_eq_some_iff.1 hg).1⟩
/-- One struct more at the end of a row of the call's own. -/
theorem OwE.push {v' : Value} {a : E} (hn : L.length = n) (h : w'.ownsRow base t z v' (n + 1) (flat cs L ++ cs a)) (hnil : v' ≠ .slice none 0 0) :
    ∃ A' k', v' = .slice A' (L ++ [a]).length k' ∧ OwE t cs z base w' A' (L ++ [a]).length k' (L ++ [a]) := by
  have e : (L ++ [a]).length = n + 1 := by simp [hn]
  rw [← flat_snoc] at h
  rcases h.2 with ⟨h0, _⟩ | ⟨g, cap, cur, rfl, _⟩
  · exact absurd h0 hnil
  · refine ⟨some ⟨g, 0, none⟩, cap, by rw [e], ?_⟩
    rw [e]
    exact ⟨e, h⟩
end
theorem Stp.cells_len (a : Stp) : a.cells.length = 4 := rfl
def RdS (w : World) (A : Option Addr) (n : Nat) (L : List Stp) : Prop := RdE Stp.cells 4 w A n L
def OwS (base : Nat) (w : World) (A : Option Addr) (n k : Nat) (L : List Stp) : Prop := OwE 31 Stp.cells 4 base w A n k L
theorem infoS : (Tryd.prog.info? 31).map (fun i => (i.zero, i.size, i.bytes)) = some (some (.agg #[.int .i64 0, .int .i64 0, .int .i64 0, .bool false]), 4, 32) := by kernel_rfl
theorem OwS.rd {base : Nat} {w : World} {A : Option Addr} {n k : Nat} {L : List Stp} (h : OwS base w A n k L) : RdS w A n L := OwE.rd Stp.cells_len h
theorem RdS.past {w w' : World} {A : Option Addr} {n : Nat} {L : List Stp} (h : RdS w A n L) (p : Past w w') : RdS w' A n L := RdE.past h p
/-- The element at j, and its cells. -/
theorem RdS.at_ {w : World} {A : Option Addr} {n : Nat} {L : List Stp} (h : RdS w A n L) {j : Nat} (hj : j < n) :
    ∃ b o a, A = some ⟨b, o, none⟩ ∧ L[j]? = some a ∧ w.cell? ⟨b, o + j * 4, none⟩ = some (.int .i64 a.f) ∧ w.cell? ⟨b, o + j * 4 + 1, none⟩ = some (.int .i64 a.t) ∧ w.cell? ⟨b, o + j * 4 + 2, none⟩ = some (.int .i64 a.d) ∧ w.cell? ⟨b, o + j * 4 + 3, none⟩ = some (.bool a.x) := by
  obtain ⟨b, o, a, hA, hj', hc⟩ := RdE.at_ h hj
  exact ⟨b, o, a, hA, hj', hc 0 _ rfl, hc 1 _ rfl, hc 2 _ rfl, hc 3 _ rfl⟩
/-- Steps handed back in new memory, and a code. -/
def StepsCode (w : World) (L : List Stp) (code : Int) (e : Ending) (w' : World) : Prop :=
  ∃ A k, e = .returned (.tuple #[.slice A L.length k, .int .i64 code]) ∧ OwS w.heap.size w' A L.length k L ∧ Past w w'
def StepsRet (w : World) (L : List Stp) (e : Ending) (w' : World) : Prop :=
  ∃ A k, e = .returned (.slice A L.length k) ∧ OwS w.heap.size w' A L.length k L ∧ Past w w'
end Go.Proofs.YtdcdjocjlicplaaDoor
