/-
  Contracts: the laws' marks on what a call has made, and the look whether they are held.
-/
import Derived.Test.YtdcdjocjlicplaaDoorOwn
namespace Go.Proofs.YtdcdjocjlicplaaDoor
open Go.ChangeShapes Go.WideShapes Go.ChangeAt Go.RowKit Go.Joins

/-- From w to w' only blocks of S, and new ones, have turned. -/
def Mod (S : Nat → Prop) (w w' : World) : Prop :=
  w'.os = w.os ∧ w'.tape = w.tape ∧ w'.output = w.output ∧ w.heap.size ≤ w'.heap.size ∧ ∀ k, k < w.heap.size → ¬ S k → w'.heap[k]? = w.heap[k]?
theorem Mod.refl (S : Nat → Prop) (w : World) : Mod S w w := ⟨rfl, rfl, rfl, Nat.le_refl _, fun _ _ _ => rfl⟩
theorem Mod.trans {S : Nat → Prop} {a b c : World} (h : Mod S a b) (k : Mod S b c) : Mod S a c :=
  ⟨k.1.trans h.1, k.2.1.trans h.2.1, k.2.2.1.trans h.2.2.1, Nat.le_trans h.2.2.2.1 k.2.2.2.1, fun i hi hs => (k.2.2.2.2 i (Nat.lt_of_lt_of_le hi h.2.2.2.1) hs).trans (h.2.2.2.2 i hi hs)⟩
theorem Mod.more {S T : Nat → Prop} {a b : World} (h : Mod S a b) (hs : ∀ k, S k → T k) : Mod T a b := ⟨h.1, h.2.1, h.2.2.1, h.2.2.2.1, fun i hi ht => h.2.2.2.2 i hi fun h' => ht (hs i h')⟩
theorem Mod.of_past {S : Nat → Prop} {a b : World} (h : Past a b) : Mod S a b := ⟨h.os, h.tape, h.output, h.size, fun k hk _ => h.block k hk⟩
theorem Mod.setCell {S : Nat → Prop} (w : World) (p : Addr) (u : Value) (h : S p.block) : Mod S w (w.setCell p u) :=
  ⟨rfl, rfl, rfl, by simp [World.setCell], fun k _ hk => Below.heap_setCell w p u k (fun e => hk (e ▸ h))⟩
theorem Mod.past {S : Nat → Prop} {W a b : World} (h : Mod S a b) (p : Past W a) (hs : ∀ k, S k → W.heap.size ≤ k) : Past W b :=
  Below.trans p ⟨h.1, h.2.1, h.2.2.1, h.2.2.2.1, fun k hk => h.2.2.2.2 k (Nat.lt_of_lt_of_le hk p.size) fun h' => by have := hs k h'; omega⟩
theorem Mod.cell {S : Nat → Prop} {a b : World} (h : Mod S a b) {p : Addr} {v : Value} (hc : a.cell? p = some v) (hs : ¬ S p.block) : b.cell? p = some v :=
  (World.cell?_of_block (w := a) (h.2.2.2.2 p.block (World.block_lt_of_cell? a p hc) hs)).trans hc
theorem Mod.frozen {S : Nat → Prop} {a b : World} (h : Mod S a b) {p : Addr} (hp : p.block < a.heap.size) (hs : ¬ S p.block) : b.frozen? p = a.frozen? p :=
  World.frozen?_of_block (w := a) (h.2.2.2.2 p.block hp hs)
theorem Mod.lt {S : Nat → Prop} {a b : World} (h : Mod S a b) {k : Nat} (hk : k < a.heap.size) : k < b.heap.size := Nat.lt_of_lt_of_le hk h.2.2.2.1
theorem RdI.mod {S : Nat → Prop} {w w' : World} {A : Option Addr} {n : Nat} {xs : List Int} (h : RdI w A n xs) (hm : Mod S w w') (hs : ∀ b o, A = some ⟨b, o, none⟩ → ¬ S b) : RdI w' A n xs :=
  ⟨h.1, fun hn => by
    obtain ⟨b, o, hA, hc⟩ := h.2 hn
    exact ⟨b, o, hA, fun j x hj => hm.cell (hc j x hj) (hs b o hA)⟩⟩
theorem ownsRow_mod {S : Nat → Prop} {base : Nat} {w w' : World} {e : TypeId} {size : Nat} {A : Option Addr} {k n : Nat} {xs : List Value} (h : w.ownsRow base e size (.slice A n k) n xs) (hm : Mod S w w')
    (hs : ∀ b, A = some ⟨b, 0, none⟩ → ¬ S b) : w'.ownsRow base e size (.slice A n k) n xs := by
  refine ⟨h.1, ?_⟩
  rcases h.2 with h0 | ⟨g, cap, cur, hv, hb, hg, r⟩
  · exact .inl h0
  · have hlt : g < w.heap.size := (Array.getElem?_eq_some_iff.1 hg).1
    have hA : A = some ⟨g, 0, none⟩ := by injection hv
    exact .inr ⟨g, cap, cur, hv, hb, (hm.2.2.2.2 g hlt (hs g hA)).trans hg, r⟩
theorem OwI.mod {S : Nat → Prop} {base : Nat} {w w' : World} {A : Option Addr} {n k : Nat} {xs : List Int} (h : OwI base w A n k xs) (hm : Mod S w w') (hs : ∀ b, A = some ⟨b, 0, none⟩ → ¬ S b) : OwI base w' A n k xs :=
  ownsRow_mod h hm hs
/-- Where an owned row lies. -/
theorem OwI.at_ {base : Nat} {w : World} {g n k : Nat} {xs : List Int} (h : OwI base w (some ⟨g, 0, none⟩) n k xs) : base ≤ g ∧ g < w.heap.size := by
  rcases h.2 with ⟨h0, _⟩ | ⟨g', cap, cur, hv, hb, hg, _⟩
  · simp at h0
  · simp only [Value.slice.injEq, Option.some.injEq, Addr.mk.injEq, and_true] at hv
    obtain ⟨rfl, _⟩ := hv
    exact ⟨hb, (Array.getElem?_eq_some_iff.1 hg).1⟩
/-- The block of an address. -/
def blk (A : Option Addr) : Nat → Prop := fun k => ∃ a, A = some a ∧ a.block = k
theorem blk_some {g o k : Nat} : blk (some ⟨g, o, none⟩) k ↔ k = g := by
  constructor
  · rintro ⟨a, e, rfl⟩
    simp only [Option.some.injEq] at e
    rw [← e]
  · rintro rfl
    exact ⟨_, rfl, rfl⟩
theorem Past.sz {a b : World} (h : Past a b) : a.heap.size ≤ b.heap.size := h.size
/-- The numbers k, k + 1 .. . -/
def marks (K : Int) (n : Nat) : List Int := (List.range n).map fun i : Nat => K + (i : Int)
theorem marks_len (K : Int) (n : Nat) : (marks K n).length = n := by simp [marks]
theorem marks_get {K : Int} {n j : Nat} (h : j < n) : (marks K n)[j]? = some (K + (j : Int)) := by simp [marks, h]
theorem mark_step {xs : List Int} {K : Int} {n j : Nat} (hl : xs.length = n) (hj : j < n) :
    ((marks K j ++ xs.drop j).map (Value.int .i64)).set j (Value.int .i64 (K + (j : Int))) = (marks K (j + 1) ++ xs.drop (j + 1)).map (Value.int .i64) := by
  rw [← List.map_set]
  congr 1
  rw [List.set_append_right _ _ (by rw [marks_len]; exact Nat.le_refl _), marks_len, Nat.sub_self, List.drop_eq_getElem_cons (by omega), List.set_cons_zero]
  have e : marks K (j + 1) = marks K j ++ [K + (j : Int)] := by simp [marks, List.range_succ]
  rw [e, List.append_assoc]
  rfl
theorem Mod.unalloc {S : Nat → Prop} {w w' : World} {o : Obj} (h : Mod S (w.alloc o) w') : Mod S w w' := (Mod.of_past ((Past.refl w).alloc o)).trans h
theorem OwI.blk_lt {base : Nat} {w : World} {A : Option Addr} {n k : Nat} {xs : List Int} (h : OwI base w A n k xs) {b : Nat} (hb : blk A b) : base ≤ b ∧ b < w.heap.size := by
  obtain ⟨a, rfl, rfl⟩ := hb
  rcases h.2 with ⟨h0, _⟩ | ⟨g, cap, cur, hv, hb, hg, _⟩
  · simp at h0
  · simp only [Value.slice.injEq, Option.some.injEq] at hv
    obtain ⟨rfl, _⟩ := hv
    exact ⟨hb, (Array.getElem?_eq_some_iff.1 hg).1⟩
theorem not_blk {A D : Option Addr} (h : ∀ b, blk A b → ¬ blk D b) : ∀ b, D = some ⟨b, 0, none⟩ → ¬ blk A b := fun b hb ha => h b ha ⟨_, hb, rfl⟩
theorem not_blk' {A D : Option Addr} (h : ∀ b, blk A b → ¬ blk D b) : ∀ b o, D = some ⟨b, o, none⟩ → ¬ blk A b := fun b _ hb ha => h b ha ⟨_, hb, rfl⟩
end Go.Proofs.YtdcdjocjlicplaaDoor
