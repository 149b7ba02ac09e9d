/-
  The plain words of this seat's proofs, with no program in sight: how a law's row follows from a contract of the law's function that answers true and leaves all old memory as it was.
-/
import Derived.WalkKit
import Derived.ProofKit
import Derived.OpenShut
import Derived.ShutString
import Derived.Lib.SmallJoins
import Derived.Lib.Hide
import Derived.SizedLaws
import Derived.Below
import Derived.ChangeSame
import Derived.Laws.OwnMore
import Derived.Deep.Draws
namespace Go.Proofs.YtdcdjocjlicplaaDoor
open Go.ChangeShapes Go.WideShapes Go.ChangeAt Go.RowKit Go.Joins

section
variable {H : Type} {enc : TypeId × Value → H} {P : Program}

/-- Arguments read behind a call that left old memory alone as they read before it. -/
theorem trodAll_below (hl : laidOutB P = true) {W W' : World} (hb : Below W.heap.size W W') :
    ∀ {ts : List TypeId} {vs : List Value} {ds : List (DataW H)} {ps : List MemPlace}, (∀ t ∈ ts, P.readableRec t = true ∧ t < P.types.size) → (∀ x ∈ ps, x.block < W.heap.size) →
      DataW.TrodAll enc P W 0 (fun _ => true) true ts vs ds ps → DataW.TrodAll enc P W' 0 (fun b => decide (b < W.heap.size)) true ts vs ds ps
  | [], vs, ds, ps, _, _, h => by
    obtain ⟨rfl, rfl, rfl⟩ := trodAll_nil h
    exact trodAll_mk0
  | t :: ts, vs, ds, ps, ht, hlt, h => by
    obtain ⟨v, vs', d, ds', p, q, rfl, rfl, rfl, h0, h1⟩ := trodAll_cons h
    refine trodAll_cons_mk (Below.trod hl (ht t (by simp)).1 (ht t (by simp)).2 h0 hb (fun x hx => hlt x (by simp [hx]))) (trodAll_below hl hb (fun t' h' => ht t' (by simp [h'])) (fun x hx => hlt x (by simp [hx])) h1)

/-- The row's end for a law: it answered true, and below the heap's old size nothing has turned. -/
theorem law_post {f : Func} {s : ChangeSpec} {W W' : World} {args : Array Value} {ds gs : List (DataW H)} {before : List MemPlace} {tb : TypeId} (hl : laidOutB P = true) (hv : s.vars = [])
    (ht : (f.params.toList.all fun t => P.readableRec t && decide (t < P.types.size)) = true) (hr : f.resultTypes = #[tb]) (htb : P.underlying tb = some .bool)
    (hW : DataW.Whole enc P f.params.toList s.vars false W args.toList ds gs before)
    (h1 : (s.fn H (ds ++ gs)).results = [.lit (.bool true)]) (h2 : (s.fn H (ds ++ gs)).args = ds) (h3 : (s.fn H (ds ++ gs)).vars = []) (hb : Below W.heap.size W W') :
    s.post enc P f false true false false W args (.bool true) W' := by
  have hlt : ∀ x ∈ before, x.block < W.heap.size := fun x hx => hW.lt x hx
  have hW' := hW
  obtain ⟨p, q, hA, hV, rfl, _, _⟩ := hW
  refine ⟨ds, gs, _, [], p, [], hW', ?_, ?_, ?_, hb.frame _, fun h => by cases h⟩
  · rw [h1, hr]
    exact trodAll_mk1 (shut_bool htb true)
  · rw [h2]
    exact trodAll_below hl hb (fun t h => by simpa using List.all_eq_true.1 ht t h) (fun x hx => hlt x (by simp [hx])) hA
  · rw [hv, h3]
    exact rfl
end

@[simp] theorem size_drew (w : World) : w.drew.heap.size = w.heap.size := rfl
@[simp] theorem size_drewN (w : World) (n : Nat) : (w.drewN n).heap.size = w.heap.size := rfl
/-- All that was there in the world a is in the world b as it was. -/
def Past (a b : World) : Prop := Below a.heap.size a b
theorem Past.below {a b : World} (h : Past a b) : Below a.heap.size a b := h
theorem Past.refl (a : World) : Past a a := Below.refl _ _
theorem Past.trans {a b c : World} (h : Past a b) (k : Past b c) : Past a c := Below.trans h (Below.mono k h.size)
theorem Past.drew {a b : World} (h : Past a b) : Past a b.drew := Below.drew h
theorem Past.drewN {a b : World} (h : Past a b) (n : Nat) : Past a (b.drewN n) := ⟨h.os, h.tape, h.output, h.size, h.block⟩
theorem Past.alloc {a b : World} (h : Past a b) (o : Obj) : Past a (b.alloc o) := Below.alloc h h.size o
theorem Past.setCell {a b : World} (h : Past a b) {p : Addr} (hp : a.heap.size ≤ p.block) (u : Value) : Past a (b.setCell p u) := Below.setCell h hp u
theorem Past.lt {a b : World} (h : Past a b) {k : Nat} (hk : k < a.heap.size) : k < b.heap.size := Nat.lt_of_lt_of_le hk h.size
theorem Past.keep {a b : World} (h : Past a b) {p : Addr} {v : Value} (hc : a.cell? p = some v) : b.cell? p = some v :=
  (Below.cell h (World.block_lt_of_cell? a p hc)).trans hc
theorem Past.keepf {a b : World} (h : Past a b) {p : Addr} {v : Value} (hc : a.cell? p = some v) : b.frozen? p = a.frozen? p := Below.frozen h (World.block_lt_of_cell? a p hc)
/-- What the walk wants of a call that left old memory alone: every old cell, every old mark, the heap's size. -/
theorem Past.cells {a b : World} (h : Past a b) : (∀ k o, k < a.heap.size → b.cell? ⟨k, o, none⟩ = a.cell? ⟨k, o, none⟩) ∧ (∀ k o, k < a.heap.size → b.frozen? ⟨k, o, none⟩ = a.frozen? ⟨k, o, none⟩) ∧ a.heap.size ≤ b.heap.size :=
  ⟨fun k o hk => Below.cell h (p := ⟨k, o, none⟩) hk, fun k o hk => Below.frozen h (p := ⟨k, o, none⟩) hk, h.size⟩

/-- An equation on numbers under the constructor. -/
theorem ret_int {k : IntKind} {a b : Int} (h : a = b) : Ending.returned (.int k a) = .returned (.int k b) := by rw [h]
theorem ret_bool {a b : Bool} (h : a = b) : Ending.returned (.bool a) = .returned (.bool b) := by rw [h]

/-- x is an int64. -/
def I64 (x : Int) : Prop := (Lit.int .i64 x).wf = true
/-- low ≤ x ≤ high, as a Bool that the walk does not take apart. -/
def win (x lo hi : Int) : Bool := decide (lo ≤ x ∧ x ≤ hi)
theorem win_yes {x lo hi : Int} (h : win x lo hi = true) : lo ≤ x ∧ x ≤ hi := of_decide_eq_true h
theorem win_mk {x lo hi : Int} (h : lo ≤ x ∧ x ≤ hi) : win x lo hi = true := decide_eq_true h
theorem win_no {x lo hi : Int} (h : ¬ (lo ≤ x ∧ x ≤ hi)) : win x lo hi = false := decide_eq_false h
theorem win_not {x lo hi : Int} (h : win x lo hi = false) : ¬ (lo ≤ x ∧ x ≤ hi) := of_decide_eq_false h
/-- A valid variant. -/
def vOk (p c h s : Int) : Bool := win p 2 24 && (win c 1 15 && (win h 1 p && win s 1 6))
theorem vOk_yes {p c h s : Int} (hv : vOk p c h s = true) : (2 ≤ p ∧ p ≤ 24) ∧ (1 ≤ c ∧ c ≤ 15) ∧ (1 ≤ h ∧ h ≤ p) ∧ 1 ≤ s ∧ s ≤ 6 := by
  simp only [vOk, Bool.and_eq_true] at hv
  exact ⟨win_yes hv.1, win_yes hv.2.1, win_yes hv.2.2.1, win_yes hv.2.2.2⟩
/-- A roll of a variant with s sides. -/
def rOk (s a b : Int) : Bool := win a 1 s && win b 1 a
theorem rOk_yes {s a b : Int} (h : rOk s a b = true) : (1 ≤ a ∧ a ≤ s) ∧ 1 ≤ b ∧ b ≤ a := by
  simp only [rOk, Bool.and_eq_true] at h
  exact ⟨win_yes h.1, win_yes h.2⟩
def smallF (p c h s : Int) : Bool := vOk p c h s && (decide (p ≤ 6) && (decide (c ≤ 3) && decide (s ≤ 3)))
def apartF (p c h s : Int) : Bool := vOk p c h s && decide (2 * h ≤ p)
def kindsF (p c h s : Int) : Int := if vOk p c h s = true then s * (s + 1) / 2 else -1
def totalF (p c h s : Int) : Int := if vOk p c h s = true then s * s else -1
theorem mul_bd {s t n m : Int} (h1 : 0 ≤ s) (h2 : s ≤ n) (h3 : 0 ≤ t) (h4 : t ≤ m) : 0 ≤ s * t ∧ s * t ≤ n * m :=
  ⟨Int.mul_nonneg h1 h3, Int.le_trans (Int.mul_le_mul_of_nonneg_right h2 h3) (Int.mul_le_mul_of_nonneg_left h4 (by omega))⟩
def rollNumF (p c h s a b : Int) : Int := if (vOk p c h s && rOk s a b) = true then a * (a - 1) / 2 + b - 1 else -1
def weightF (p c h s a b : Int) : Int := if (vOk p c h s && rOk s a b) = true then (if a = b then 1 else 2) else 0
end Go.Proofs.YtdcdjocjlicplaaDoor
