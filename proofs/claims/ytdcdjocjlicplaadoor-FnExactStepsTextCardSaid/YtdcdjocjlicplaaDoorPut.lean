/-
  Contracts: a copy of a board; one number of a row of the call's own changed.
-/
import Derived.Test.YtdcdjocjlicplaaDoorSpan
import Derived.Test.YtdcdjocjlicplaaDoorApp
import Derived.Deep.RegionHeld3
import Derived.StillTailTactics
namespace Go.Proofs.YtdcdjocjlicplaaDoor
open Go.ChangeShapes Go.WideShapes Go.ChangeAt Go.RowKit Go.Joins

theorem Turn.set (w : World) (g j : Nat) (v : Value) : Turn g (g + 1) w (w.setCell ⟨g, j, none⟩ v) := Mod.setCell w ⟨g, j, none⟩ v ⟨Nat.le_refl _, Nat.lt_succ_self _⟩
theorem Turn.drew {lo hi : Nat} {w w' : World} (h : Turn lo hi w.drew w') : Turn lo hi w w' := ⟨h.1, h.2.1, h.2.2.1, h.2.2.2.1, h.2.2.2.2⟩
theorem Turn.drewR {lo hi : Nat} {w w' : World} (h : Turn lo hi w w') : Turn lo hi w w'.drew := ⟨h.1, h.2.1, h.2.2.1, h.2.2.2.1, h.2.2.2.2⟩
theorem Turn.blk {lo hi : Nat} {w w' : World} (h : Turn lo hi w w') {g : Nat} {t : TypeId} {cs : Array Value} (hb : Blk w g t cs) (hs : g < lo ∨ hi ≤ g) : Blk w' g t cs :=
  (h.2.2.2.2 g hb.lt (fun hk => by omega)).trans hb
theorem OwI.turn {lo hi base g n k : Nat} {w w' : World} {xs : List Int} (h : OwI base w (some ⟨g, 0, none⟩) n k xs) (p : Turn lo hi w w') (hs : g < lo ∨ hi ≤ g) : OwI base w' (some ⟨g, 0, none⟩) n k xs :=
  h.mod p (fun b hb hh => by simp only [Option.some.injEq, Addr.mk.injEq, and_true] at hb; omega)
/-- The number at an index of a row of the call's own. -/
theorem OwI.cell_i {base g n k J : Nat} {w : World} {xs : List Int} (h : OwI base w (some ⟨g, 0, none⟩) n k xs) (i : Int) (hJ : J = i.toNat) (hl : J < n) : w.cell? ⟨g, J, none⟩ = some (.int .i64 (gAt xs i)) := by
  have hl2 : J < xs.length := by rw [h.len]; exact hl
  rw [World.ownsRow.cellAt h J (by omega), List.getElem?_map, List.getElem?_eq_getElem hl2, gAt, ← hJ, List.getD_eq_getElem?_getD, List.getElem?_eq_getElem hl2]
  rfl
theorem OwI.upd {base g n k J : Nat} {w : World} {xs : List Int} (h : OwI base w (some ⟨g, 0, none⟩) n k xs) (i d : Int) (hJ : J = i.toNat) : OwI base (w.setCell ⟨g, J, none⟩ (.int .i64 (gAt xs i + d))) (some ⟨g, 0, none⟩) n k (upd xs i d) := by
  have h1 := (World.ownsRow.stored h J (.int .i64 (gAt xs i + d))).1
  rw [← List.map_set, hJ] at h1
  rw [hJ]
  exact h1
theorem toStep_any (a b c : Int) (x : Bool) (w : World) :
    Calls Tryd.prog 15 #[.agg #[.int .i64 a, .int .i64 b, .int .i64 c, .bool x]] w fun e w' => e = .returned (.agg #[.int .i64 a, .int .i64 b, .int .i64 c, .bool x]) ∧ Past w w' := by
  go_enter Tryd.func15, Tryd.ntmps15
  go_wp2
  refine bodyPost_ret (v := .agg #[.int .i64 a, .int .i64 b, .int .i64 c, .bool x]) (by simp [results, Tryd.results15, go_sem]) rfl ⟨rfl, (by repeat (first | exact Past.refl _ | assumption | refine Past.alloc ?_ _ | refine Past.drew ?_ | refine Past.drewN ?_ _ | refine Past.setCell ?_ (by first | (simp; done) | (simp <;> omega)) _ | refine Past.trans ?_ (past_over _ _) | refine Past.trans ?_ (by assumption)))⟩
end Go.Proofs.YtdcdjocjlicplaaDoor
