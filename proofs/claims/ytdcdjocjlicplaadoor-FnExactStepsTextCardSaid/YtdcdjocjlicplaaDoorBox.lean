/-
  Boards handed back in new memory, and boards that a law keeps in a variable.
-/
import Derived.Test.YtdcdjocjlicplaaDoorMark
import Derived.Test.YtdcdjocjlicplaaDoorSwap2
namespace Go.Proofs.YtdcdjocjlicplaaDoor
open Go.ChangeShapes Go.WideShapes Go.ChangeAt Go.RowKit Go.Joins

/-- A block that is known whole. -/
def Blk (w : World) (g : Nat) (t : TypeId) (cs : Array Value) : Prop := w.heap[g]? = some (.cells cs t (0, 0))
theorem Blk.lt {w : World} {g : Nat} {t : TypeId} {cs : Array Value} (h : Blk w g t cs) : g < w.heap.size := (Array.getElem?_eq_some_iff.1 h).1
theorem Blk.cell {w : World} {g : Nat} {t : TypeId} {cs : Array Value} (h : Blk w g t cs) (i : Nat) {v : Value} (hi : cs[i]? = some v) : w.cell? ⟨g, i, none⟩ = some v := (cell_of_row w g i cs t (0, 0) h).trans hi
theorem Blk.free {w : World} {g : Nat} {t : TypeId} {cs : Array Value} (h : Blk w g t cs) (i : Nat) : w.frozen? ⟨g, i, none⟩ = false := by
  unfold Blk at h
  simp [World.frozen?, h]
theorem Blk.past {w w' : World} {g : Nat} {t : TypeId} {cs : Array Value} (h : Blk w g t cs) (p : Past w w') : Blk w' g t cs := (p.block g h.lt).trans h
theorem Past.blk {w w' : World} {g : Nat} {t : TypeId} {cs : Array Value} (p : Past w w') (h : Blk w g t cs) : Blk w' g t cs := h.past p
theorem Blk.new (w : World) (t : TypeId) (cs : Array Value) : Blk (w.alloc (.cells cs t)) w.heap.size t cs := heap_alloc_new w _
theorem Blk.at_ {w : World} {g : Nat} {t : TypeId} {cs : Array Value} (h : g = w.heap.size) : Blk (w.alloc (.cells cs t)) g t cs := h ▸ heap_alloc_new w _
/-- Two rows in new memory, in different blocks. -/
def BoardVal (W w : World) (A : Option Addr) (k : Nat) (D : Option Addr) (l : Nat) (L M : List Int) : Prop :=
  OwI W.heap.size w A L.length k L ∧ OwI W.heap.size w D M.length l M ∧ ∀ b, blk A b → ¬ blk D b
theorem BoardVal.past {W w w' : World} {A D : Option Addr} {k l : Nat} {L M : List Int} (h : BoardVal W w A k D l L M) (p : Past w w') : BoardVal W w' A k D l L M := ⟨h.1.past p, h.2.1.past p, h.2.2⟩
theorem BoardVal.less {W V w : World} {A D : Option Addr} {k l : Nat} {L M : List Int} (h : BoardVal W w A k D l L M) (p : V.heap.size ≤ W.heap.size) : BoardVal V w A k D l L M := ⟨h.1.less p, h.2.1.less p, h.2.2⟩
def BoardRet (w : World) (L M : List Int) (e : Ending) (w' : World) : Prop :=
  ∃ A k D l, e = .returned (.agg #[.slice A L.length k, .slice D M.length l]) ∧ BoardVal w w' A k D l L M ∧ Past w w'
def BoardCode (w : World) (L M : List Int) (code : Int) (e : Ending) (w' : World) : Prop :=
  ∃ A k D l, e = .returned (.tuple #[.agg #[.slice A L.length k, .slice D M.length l], .int .i64 code]) ∧ BoardVal w w' A k D l L M ∧ Past w w'
theorem BoardVal.nil (W w : World) : BoardVal W w none 0 none 0 [] [] := ⟨World.ownsRow_nil _ _ _ _, World.ownsRow_nil _ _ _ _, fun _ h => by obtain ⟨a, h, _⟩ := h; cases h⟩
theorem BoardNew.ret {w : World} {n m : Nat} {xs ys : List Int} {e : Ending} {w' : World} (h : BoardNew w n m xs ys e w') : BoardRet w xs ys e w' := by
  obtain ⟨b, d, k, l, rfl, h1, h2, hne, hp⟩ := h
  have e1 := h1.len
  have e2 := h2.len
  subst e1 e2
  exact ⟨_, k, _, l, rfl, ⟨h1, h2, fun x hx hy => hne ((blk_some.1 hx).symm.trans (blk_some.1 hy))⟩, hp⟩
/-- A variable that holds a board. -/
def BoxAt (W w : World) (g : Nat) (A : Option Addr) (k : Nat) (D : Option Addr) (l : Nat) (L M : List Int) : Prop :=
  w.cell? ⟨g, 0, none⟩ = some (.slice A L.length k) ∧ w.cell? ⟨g, 1, none⟩ = some (.slice D M.length l) ∧ W.heap.size ≤ g ∧ BoardVal W w A k D l L M ∧ ¬ blk A g ∧ ¬ blk D g ∧ Past W w
theorem BoxAt.past {W w w' : World} {g : Nat} {A D : Option Addr} {k l : Nat} {L M : List Int} (h : BoxAt W w g A k D l L M) (p : Past w w') : BoxAt W w' g A k D l L M :=
  ⟨p.keep h.1, p.keep h.2.1, h.2.2.1, h.2.2.2.1.past p, h.2.2.2.2.1, h.2.2.2.2.2.1, h.2.2.2.2.2.2.trans p⟩
/-- A variable for a board, just made. -/
def NewBox (w : World) (g : Nat) : Prop := w.cell? ⟨g, 0, none⟩ = some (.slice none 0 0) ∧ w.cell? ⟨g, 1, none⟩ = some (.slice none 0 0) ∧ w.frozen? ⟨g, 0, none⟩ = false ∧ w.frozen? ⟨g, 1, none⟩ = false
theorem NewBox.past {w w' : World} {g : Nat} (h : NewBox w g) (p : Past w w') : NewBox w' g := ⟨p.keep h.1, p.keep h.2.1, p.keepz ⟨_, h.1⟩ h.2.2.1, p.keepz ⟨_, h.2.1⟩ h.2.2.2⟩
theorem keep_of {a b : World} {S : World → Prop} (h : Past a b) (f : ∀ x, Past a x → S x) : S b := f b h
theorem newBox_alloc (w : World) (t : TypeId) : NewBox (w.alloc (.cells #[.slice none 0 0, .slice none 0 0] t)) w.heap.size := ⟨by simp, by simp, by simp, by simp⟩
theorem NewBox.drew {w : World} {g : Nat} (h : NewBox w g) : NewBox w.drew g := h
theorem OwI.mod1 {base : Nat} {w : World} {A : Option Addr} {n k : Nat} {xs : List Int} (h : OwI base w A n k xs) {p : Addr} (u : Value) (hp : ¬ blk A p.block) : OwI base (w.setCell p u) A n k xs :=
  h.mod (S := fun i => i = p.block) (Mod.setCell w p u rfl) (fun _ hb e => hp ⟨_, hb, e⟩)
theorem BoardVal.mod1 {W w : World} {A D : Option Addr} {k l : Nat} {L M : List Int} (h : BoardVal W w A k D l L M) {p : Addr} (u : Value) (ha : ¬ blk A p.block) (hd : ¬ blk D p.block) : BoardVal W (w.setCell p u) A k D l L M :=
  ⟨h.1.mod1 u ha, h.2.1.mod1 u hd, h.2.2⟩
theorem box_alloc {W V w : World} {A D : Option Addr} {k l : Nat} {L M : List Int} (t : TypeId) (h : BoardVal V w A k D l L M) (hV : W.heap.size ≤ V.heap.size) (hp : Past W w) :
    BoxAt W (w.alloc (.cells #[.slice A L.length k, .slice D M.length l] t)) w.heap.size A k D l L M :=
  ⟨by simp, by simp, hp.sz, (h.past ((Past.refl w).alloc _)).less hV, fun hb => by have := (h.1.blk_lt hb).2; omega, fun hb => by have := (h.2.1.blk_lt hb).2; omega, hp.alloc _⟩
theorem box_set {W V w : World} {g : Nat} {A D : Option Addr} {k l : Nat} {L M : List Int} (nb : NewBox w g) (h : BoardVal V w A k D l L M) (hV : W.heap.size ≤ V.heap.size) (hg : W.heap.size ≤ g) (hgV : g < V.heap.size) (hp : Past W w) :
    BoxAt W ((w.setCell ⟨g, 0, none⟩ (.slice A L.length k)).setCell ⟨g, 1, none⟩ (.slice D M.length l)) g A k D l L M := by
  have ha : ¬ blk A g := fun hb => by have := (h.1.blk_lt hb).1; omega
  have hd : ¬ blk D g := fun hb => by have := (h.2.1.blk_lt hb).1; omega
  obtain ⟨n0, n1, n2, n3⟩ := nb
  have e0 : ((w.setCell ⟨g, 0, none⟩ (.slice A L.length k)).setCell ⟨g, 1, none⟩ (.slice D M.length l)).cell? ⟨g, 0, none⟩ = some (.slice A L.length k) := (World.cell?_setCell_other _ ⟨g, 1, none⟩ ⟨g, 0, none⟩ _ (by simp)).trans (World.cell?_setCell_same _ _ _ n0)
  have e1 : ((w.setCell ⟨g, 0, none⟩ (.slice A L.length k)).setCell ⟨g, 1, none⟩ (.slice D M.length l)).cell? ⟨g, 1, none⟩ = some (.slice D M.length l) := World.cell?_setCell_same _ _ _ ((World.cell?_setCell_other w ⟨g, 0, none⟩ ⟨g, 1, none⟩ _ (by simp)).trans n1)
  exact ⟨e0, e1, hg, ((h.mod1 _ ha hd).mod1 _ ha hd).less hV, ha, hd, (hp.setCell hg _).setCell hg _⟩
def swapL (p c h s : Int) (xs ys : List Int) : List Int := if bOk p c h s xs ys = true then ys else []
def swapM (p c h s : Int) (xs ys : List Int) : List Int := if bOk p c h s xs ys = true then xs else []
end Go.Proofs.YtdcdjocjlicplaaDoor
