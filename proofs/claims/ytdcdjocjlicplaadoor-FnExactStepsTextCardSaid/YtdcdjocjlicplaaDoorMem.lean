/-
  Slices of int64 in memory: one that is read, one that the call itself made; the laws' own helpers (copy, compare, count) by contract.
-/
import Derived.Test.YtdcdjocjlicplaaDoorVar
import Derived.Laws.MakeOwn
import Derived.OwnWalk
import Derived.Test.YtdcdjocjlicplaaDoorOver
namespace Go.Proofs.YtdcdjocjlicplaaDoor
open Go.ChangeShapes Go.WideShapes Go.ChangeAt Go.RowKit Go.Joins

theorem quiet_left {P : Program} {f : FuncId} {args : Array Value} {w : World} {n : Nat} {v : Value}
    (h : Calls P f args (w.drewN n) fun e w' => e = .returned v ∧ w.drewN n = w') : Calls P f args (w.drewN n) fun e w'' => e = .returned v ∧ ∃ m, w'' = w.drewN m :=
  h.mono fun _ _ ⟨he, hm⟩ => ⟨he, n, hm.symm⟩
theorem quiet_add_left {P : Program} {f : FuncId} {args : Array Value} {w : World} {a n : Nat} {v : Value}
    (h : Calls P f args (w.drewN (a + n)) fun e w' => e = .returned v ∧ w.drewN (a + n) = w') :
    Calls P f args (w.drewN (a + n)) fun e w'' => e = .returned v ∧ ∃ m, w'' = w.drewN (a + m) :=
  h.mono fun _ _ ⟨he, hm⟩ => ⟨he, n, hm.symm⟩
/-- The slice value of address A and length n reads as the numbers xs. -/
def RdI (w : World) (A : Option Addr) (n : Nat) (xs : List Int) : Prop :=
  xs.length = n ∧ (0 < n → ∃ b o, A = some ⟨b, o, none⟩ ∧ ∀ j x, xs[j]? = some x → w.cell? ⟨b, o + j, none⟩ = some (.int .i64 x))
theorem RdI.past {w w' : World} {A : Option Addr} {n : Nat} {xs : List Int} (h : RdI w A n xs) (p : Past w w') : RdI w' A n xs :=
  ⟨h.1, fun hn => by
    obtain ⟨b, o, hA, hc⟩ := h.2 hn
    exact ⟨b, o, hA, fun j x hj => p.keep (hc j x hj)⟩⟩
theorem RdI.alloc {w : World} {A : Option Addr} {n : Nat} {xs : List Int} (h : RdI w A n xs) (o : Obj) : RdI (w.alloc o) A n xs := h.past ((Past.refl _).alloc o)
theorem RdI.drew {w : World} {A : Option Addr} {n : Nat} {xs : List Int} (h : RdI w A n xs) : RdI w.drew A n xs := h
theorem RdI.drewN {w : World} {A : Option Addr} {n : Nat} {xs : List Int} (h : RdI w A n xs) (m : Nat) : RdI (w.drewN m) A n xs := h
/-- The element at j, and its cell. -/
theorem RdI.at_ {w : World} {A : Option Addr} {n : Nat} {xs : List Int} (h : RdI w A n xs) {j : Nat} (hj : j < n) :
    ∃ b o x, A = some ⟨b, o, none⟩ ∧ xs[j]? = some x ∧ w.cell? ⟨b, o + j, none⟩ = some (.int .i64 x) := by
  obtain ⟨b, o, hA, hc⟩ := h.2 (by omega)
  have hl : j < xs.length := by rw [h.1]; exact hj
  exact ⟨b, o, xs[j], hA, List.getElem?_eq_getElem hl, hc j _ (List.getElem?_eq_getElem hl)⟩

/-- A slice of int64 that the call itself has made, in a block from base on. -/
def OwI (base : Nat) (w : World) (A : Option Addr) (n k : Nat) (xs : List Int) : Prop := w.ownsRow base 2 1 (.slice A n k) n (xs.map (Value.int .i64))
theorem OwI.len {base : Nat} {w : World} {A : Option Addr} {n k : Nat} {xs : List Int} (h : OwI base w A n k xs) : xs.length = n := by
  have := h.1
  simpa using this
theorem OwI.rd {base : Nat} {w : World} {A : Option Addr} {n k : Nat} {xs : List Int} (h : OwI base w A n k xs) : RdI w A n xs := by
  refine ⟨h.len, fun hn => ?_⟩
  obtain ⟨g, rfl⟩ : ∃ g, A = some ⟨g, 0, none⟩ := by
    rcases h.2 with ⟨_, h0⟩ | ⟨g, cap, cur, hv, _⟩
    · omega
    · simp only [Value.slice.injEq] at hv
      exact ⟨g, hv.1⟩
  refine ⟨g, 0, rfl, fun j x hj => ?_⟩
  have hjn : j < n := by
    have := (List.getElem?_eq_some_iff.1 hj).1
    rw [h.len] at this
    exact this
  have := World.ownsRow.cellAt h j (by omega)
  rw [Nat.zero_add, this, List.getElem?_map, hj]
  rfl
theorem ownsRow_past {base : Nat} {w w' : World} {e : TypeId} {size : Nat} {v : Value} {n : Nat} {xs : List Value} (h : w.ownsRow base e size v n xs) (p : Past w w') : w'.ownsRow base e size v n xs := by
  refine ⟨h.1, ?_⟩
  rcases h.2 with h0 | ⟨g, cap, cur, hv, hb, hg, r⟩
  · exact .inl h0
  · have hlt : g < w.heap.size := by
      rcases Nat.lt_or_ge g w.heap.size with h' | h'
      · exact h'
      · rw [Array.getElem?_eq_none h'] at hg; cases hg
    exact .inr ⟨g, cap, cur, hv, hb, (p.block g hlt).trans hg, r⟩
theorem OwI.past {base : Nat} {w w' : World} {A : Option Addr} {n k : Nat} {xs : List Int} (h : OwI base w A n k xs) (p : Past w w') : OwI base w' A n k xs := ownsRow_past h p
theorem OwI.less {base base' : Nat} {w : World} {A : Option Addr} {n k : Nat} {xs : List Int} (h : OwI base w A n k xs) (hb : base' ≤ base) : OwI base' w A n k xs := by
  refine ⟨h.1, ?_⟩
  rcases h.2 with h0 | ⟨g, cap, cur, hv, hg, r⟩
  · exact .inl h0
  · exact .inr ⟨g, cap, cur, hv, by omega, r⟩

theorem OwI.alloc {base : Nat} {w : World} {A : Option Addr} {n k : Nat} {xs : List Int} (h : OwI base w A n k xs) (o : Obj) : OwI base (w.alloc o) A n k xs := h.past ((Past.refl _).alloc o)
theorem OwI.drew {base : Nat} {w : World} {A : Option Addr} {n k : Nat} {xs : List Int} (h : OwI base w A n k xs) : OwI base w.drew A n k xs := h
theorem OwI.far {base : Nat} {w : World} {g n k : Nat} {xs : List Int} (h : OwI base w (some ⟨g, 0, none⟩) n k xs) {p : Addr} (hp : p.block ≠ g) (u : Value) : OwI base (w.setCell p u) (some ⟨g, 0, none⟩) n k xs := by
  refine ⟨h.1, ?_⟩
  rcases h.2 with h0 | ⟨g', cap, cur, hv, hb, hg, r⟩
  · exact .inl h0
  · have e : g = g' := by
      simp only [Value.slice.injEq, Option.some.injEq, Addr.mk.injEq, and_true] at hv
      exact hv.1
    exact .inr ⟨g', cap, cur, hv, hb, (Below.heap_setCell w p u g' (by rw [← e]; exact fun h => hp h.symm)).trans hg, r⟩
theorem infoI : (Tryd.prog.info? 2).map (fun i => (i.zero, i.size, i.bytes)) = some (some (.int .i64 0), 1, 8) := by kernel_rfl

theorem made_zero (n : Nat) : (madeCells (Value.int .i64 0).cells (n * 1)).toList = (List.replicate n (0 : Int)).map (Value.int .i64) := by
  rw [Nat.mul_one, List.map_replicate]
  apply List.ext_getElem
  · simp [madeCells]
  · intro i h1 h2
    simp [madeCells, Value.cells, Nat.mod_one]

theorem copy_step {xs : List Int} {j n : Nat} {x : Int} (hl : xs.length = n) (h : xs[j]? = some x) :
    ((xs.take j ++ List.replicate (n - j) 0).map (Value.int .i64)).set j (Value.int .i64 x) = (xs.take (j + 1) ++ List.replicate (n - (j + 1)) 0).map (Value.int .i64) := by
  obtain ⟨hj, rfl⟩ := List.getElem?_eq_some_iff.1 h
  rw [← List.map_set]
  congr 1
  apply List.ext_getElem
  · simp; omega
  · intro i h1 h2
    simp only [List.getElem_set, List.getElem_append, List.getElem_take, List.getElem_replicate, List.length_take]
    by_cases e : j = i
    · subst e
      rw [if_pos rfl, dif_pos (by omega)]
    · rw [if_neg e]
      by_cases hi : i < j
      · rw [dif_pos (by omega), dif_pos (by omega)]
      · rw [dif_neg (by omega), dif_neg (by omega)]
theorem copy_old {xs : List Int} {j n : Nat} (hl : xs.length = n) (hj : j < n) : ((xs.take j ++ List.replicate (n - j) 0).map (Value.int .i64))[j]? = some (Value.int .i64 0) := by
  rw [List.getElem?_map, List.getElem?_append_right (by simp; omega), List.length_take, Nat.min_eq_left (by omega), Nat.sub_self, List.getElem?_replicate, if_pos (by omega)]
  rfl
end Go.Proofs.YtdcdjocjlicplaaDoor
