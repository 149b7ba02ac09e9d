/-
  What a law keeps: rows and boards that lie in a span of blocks, and what a mark of other blocks leaves of them.
-/
import Derived.Test.YtdcdjocjlicplaaDoorBox
import Derived.Test.YtdcdjocjlicplaaDoorRow
namespace Go.Proofs.YtdcdjocjlicplaaDoor
open Go.ChangeShapes Go.WideShapes Go.ChangeAt Go.RowKit Go.Joins

/-- Between two worlds only blocks of the span, and new ones, have turned. -/
def Turn (lo hi : Nat) (w w' : World) : Prop := Mod (fun k => lo ≤ k ∧ k < hi) w w'
/-- The block of an address lies in the span. -/
def Sp (lo hi : Nat) (A : Option Addr) : Prop := ∀ b, blk A b → lo ≤ b ∧ b < hi
theorem Turn.sz {lo hi : Nat} {w w' : World} (h : Turn lo hi w w') : w.heap.size ≤ w'.heap.size := h.2.2.2.1
theorem Turn.past {lo hi : Nat} {W w w' : World} (h : Turn lo hi w w') (p : Past W w) (hs : W.heap.size ≤ lo) : Past W w' := Mod.past h p (fun _ hk => Nat.le_trans hs hk.1)
theorem Turn.cell {lo hi : Nat} {w w' : World} (h : Turn lo hi w w') {p : Addr} {v : Value} (hc : w.cell? p = some v) (hs : p.block < lo ∨ hi ≤ p.block) : w'.cell? p = some v :=
  Mod.cell h hc (fun hk => by omega)
theorem Sp.turn {lo hi a b : Nat} {A : Option Addr} (h : Sp lo hi A) (hs : hi ≤ a ∨ b ≤ lo) : ∀ k, A = some ⟨k, 0, none⟩ → ¬ (a ≤ k ∧ k < b) := by
  intro k hk hh
  have := h k ⟨_, hk, rfl⟩
  omega
/-- A row of numbers in a span. -/
def RowIn (lo hi : Nat) (w : World) (A : Option Addr) (n k : Nat) (L : List Int) : Prop := OwI lo w A n k L ∧ Sp lo hi A
theorem RowIn.mk {lo hi : Nat} {w : World} {A : Option Addr} {n k : Nat} {L : List Int} (h : OwI lo w A n k L) (hs : w.heap.size ≤ hi) : RowIn lo hi w A n k L :=
  ⟨h, fun b hb => by have := h.blk_lt hb; omega⟩
theorem RowIn.past {lo hi : Nat} {w w' : World} {A : Option Addr} {n k : Nat} {L : List Int} (h : RowIn lo hi w A n k L) (p : Past w w') : RowIn lo hi w' A n k L := ⟨h.1.past p, h.2⟩
theorem RowIn.turn {lo hi a b : Nat} {w w' : World} {A : Option Addr} {n k : Nat} {L : List Int} (h : RowIn lo hi w A n k L) (p : Turn a b w w') (hs : hi ≤ a ∨ b ≤ lo) : RowIn lo hi w' A n k L := ⟨h.1.mod p (h.2.turn hs), h.2⟩
theorem RowIn.rd {lo hi : Nat} {w : World} {A : Option Addr} {n k : Nat} {L : List Int} (h : RowIn lo hi w A n k L) : RdI w A n L := h.1.rd
theorem RowIn.wide {lo hi lo' hi' : Nat} {w : World} {A : Option Addr} {n k : Nat} {L : List Int} (h : RowIn lo hi w A n k L) (h1 : lo' ≤ lo) (h2 : hi ≤ hi') : RowIn lo' hi' w A n k L :=
  ⟨h.1.less h1, fun b hb => by have := h.2 b hb; omega⟩
/-- A row of structs in a span. -/
def EowIn {E : Type} (t : TypeId) (cs : E → List Value) (z : Nat) (lo hi : Nat) (w : World) (A : Option Addr) (n k : Nat) (L : List E) : Prop := OwE t cs z lo w A n k L ∧ Sp lo hi A
section
variable {E : Type} {t : TypeId} {cs : E → List Value} {z lo hi : Nat} {w w' : World} {A : Option Addr} {n k : Nat} {L : List E}
theorem EowIn.mk (h : OwE t cs z lo w A n k L) (hs : w.heap.size ≤ hi) : EowIn t cs z lo hi w A n k L := ⟨h, fun b hb => by have := h.blk_lt hb; omega⟩
theorem EowIn.past (h : EowIn t cs z lo hi w A n k L) (p : Past w w') : EowIn t cs z lo hi w' A n k L := ⟨h.1.past p, h.2⟩
theorem EowIn.turn {a b : Nat} (h : EowIn t cs z lo hi w A n k L) (p : Turn a b w w') (hs : hi ≤ a ∨ b ≤ lo) : EowIn t cs z lo hi w' A n k L := ⟨h.1.mod p (h.2.turn hs), h.2⟩
theorem EowIn.wide {lo' hi' : Nat} (h : EowIn t cs z lo hi w A n k L) (h1 : lo' ≤ lo) (h2 : hi ≤ hi') : EowIn t cs z lo' hi' w A n k L :=
  ⟨h.1.less h1, fun b hb => by have := h.2 b hb; omega⟩
end
/-- A variable that holds a board, its rows in different blocks, all in a span. -/
def BoxIn (lo hi : Nat) (w : World) (g : Nat) (A : Option Addr) (n k : Nat) (D : Option Addr) (m l : Nat) (L M : List Int) : Prop :=
  w.cell? ⟨g, 0, none⟩ = some (.slice A n k) ∧ w.cell? ⟨g, 1, none⟩ = some (.slice D m l) ∧ (lo ≤ g ∧ g < hi) ∧ RowIn lo hi w A n k L ∧ RowIn lo hi w D m l M ∧ (∀ b, blk A b → ¬ blk D b) ∧ ¬ blk A g ∧ ¬ blk D g
section
variable {lo hi : Nat} {w w' : World} {g : Nat} {A D : Option Addr} {n k m l : Nat} {L M : List Int}
theorem BoxIn.past (h : BoxIn lo hi w g A n k D m l L M) (p : Past w w') : BoxIn lo hi w' g A n k D m l L M :=
  ⟨p.keep h.1, p.keep h.2.1, h.2.2.1, h.2.2.2.1.past p, h.2.2.2.2.1.past p, h.2.2.2.2.2⟩
theorem BoxIn.turn {a b : Nat} (h : BoxIn lo hi w g A n k D m l L M) (p : Turn a b w w') (hs : hi ≤ a ∨ b ≤ lo) : BoxIn lo hi w' g A n k D m l L M :=
  ⟨p.cell h.1 (by have := h.2.2.1; simp only; omega), p.cell h.2.1 (by have := h.2.2.1; simp only; omega), h.2.2.1, h.2.2.2.1.turn p hs, h.2.2.2.2.1.turn p hs, h.2.2.2.2.2⟩
theorem BoxIn.wide {lo' hi' : Nat} (h : BoxIn lo hi w g A n k D m l L M) (h1 : lo' ≤ lo) (h2 : hi ≤ hi') : BoxIn lo' hi' w g A n k D m l L M :=
  ⟨h.1, h.2.1, ⟨Nat.le_trans h1 h.2.2.1.1, Nat.lt_of_lt_of_le h.2.2.1.2 h2⟩, h.2.2.2.1.wide h1 h2, h.2.2.2.2.1.wide h1 h2, h.2.2.2.2.2⟩
theorem BoxIn.of_at {W : World} (h : BoxAt W w g A k D l L M) : BoxIn W.heap.size w.heap.size w g A L.length k D M.length l L M :=
  ⟨h.1, h.2.1, ⟨h.2.2.1, World.block_lt_of_cell? w _ h.1⟩, RowIn.mk h.2.2.2.1.1 (Nat.le_refl _), RowIn.mk h.2.2.2.1.2.1 (Nat.le_refl _), h.2.2.2.1.2.2, h.2.2.2.2.1, h.2.2.2.2.2.1⟩
theorem BoxAt.pastOf {W : World} (h : BoxAt W w g A k D l L M) : Past W w := h.2.2.2.2.2.2
/-- A variable just made for a board just made. -/
theorem BoxIn.new {b d : Nat} (t : TypeId) (h1 : OwI lo w (some ⟨b, 0, none⟩) n k L) (h2 : OwI lo w (some ⟨d, 0, none⟩) m l M) (hne : b ≠ d) (hlo : lo ≤ w.heap.size) :
    BoxIn lo (w.heap.size + 1) (w.alloc (.cells #[.slice (some ⟨b, 0, none⟩) n k, .slice (some ⟨d, 0, none⟩) m l] t)) w.heap.size (some ⟨b, 0, none⟩) n k (some ⟨d, 0, none⟩) m l L M := by
  have e1 := h1.at_
  have e2 := h2.at_
  refine ⟨by simp, by simp, ⟨hlo, by omega⟩, RowIn.mk (h1.alloc _) (by simp), RowIn.mk (h2.alloc _) (by simp), fun x hx hy => hne ((blk_some.1 hx).symm.trans (blk_some.1 hy)), fun hb => ?_, fun hb => ?_⟩
  · rw [blk_some] at hb
    omega
  · rw [blk_some] at hb
    omega
end
end Go.Proofs.YtdcdjocjlicplaaDoor
