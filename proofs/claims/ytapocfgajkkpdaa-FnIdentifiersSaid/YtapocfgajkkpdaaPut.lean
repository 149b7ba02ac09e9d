/-
  Contracts: a copy of a board; one number of a row of the call's own changed.
-/
import Derived.Test.YtapocfgajkkpdaaSpan
import Derived.Test.YtapocfgajkkpdaaApp
import Derived.Deep.RegionHeld3
import Derived.StillTailTactics
namespace Go.Proofs.Ytapocfgajkkpdaa
open Go.ChangeShapes Go.WideShapes Go.ChangeAt Go.RowKit Go.Joins

theorem Turn.set (w : World) (g j : Nat) (v : Value) : Turn g (g + 1) w (w.setCell ⟨g, j, none⟩ v) := Mod.setCell w ⟨g, j, none⟩ v ⟨Nat.le_refl _, Nat.lt_succ_self _⟩
theorem Turn.drew {lo hi : Nat} {w w' : World} (h : Turn lo hi w.drew w') : Turn lo hi w w' := ⟨h.1, h.2.1, h.2.2.1, h.2.2.2.1, h.2.2.2.2⟩
theorem Turn.drewR {lo hi : Nat} {w w' : World} (h : Turn lo hi w w') : Turn lo hi w w'.drew := ⟨h.1, h.2.1, h.2.2.1, h.2.2.2.1, h.2.2.2.2⟩
theorem Turn.blk {lo hi : Nat} {w w' : World} (h : Turn lo hi w w') {g : Nat} {t : TypeId} {cs : Array Value} (hb : Blk w g t cs) (hs : g < lo ∨ hi ≤ g) : Blk w' g t cs :=
  (h.2.2.2.2 g hb.lt (fun hk => by omega)).trans hb
theorem OwI.turn {lo hi base g n k : Nat} {w w' : World} {xs : List Int} (h : OwI base w (some ⟨g, 0, none⟩) n k xs) (p : Turn lo hi w w') (hs : g < lo ∨ hi ≤ g) : OwI base w' (some ⟨g, 0, none⟩) n k xs :=
  h.mod p (fun b hb hh => by simp only [Option.some.injEq, Addr.mk.injEq, and_true] at hb; omega)
/-- The number at an index of a row of the call's own. -/
theorem OwI.cell_i {base g n k J : Nat} {w : World} {xs : List Int} (h : OwI base w (some ⟨g, 0, none⟩) n k xs) (i : Int) (hJ : J = i.toNat) (hl : J < n) : w.cell? ⟨g, J, none⟩ = some (.int .i64 (gAt xs i)) := by
  have hl2 : J < xs.length := by rw [h.len]; exact hl
  rw [World.ownsRow.cellAt h J (by omega), List.getElem?_map, List.getElem?_eq_getElem hl2, gAt, ← hJ, List.getD_eq_getElem?_getD, List.getElem?_eq_getElem hl2]
  rfl
theorem OwI.upd {base g n k J : Nat} {w : World} {xs : List Int} (h : OwI base w (some ⟨g, 0, none⟩) n k xs) (i d : Int) (hJ : J = i.toNat) : OwI base (w.setCell ⟨g, J, none⟩ (.int .i64 (gAt xs i + d))) (some ⟨g, 0, none⟩) n k (upd xs i d) := by
  have h1 := (World.ownsRow.stored h J (.int .i64 (gAt xs i + d))).1
  rw [← List.map_set, hJ] at h1
  rw [hJ]
  exact h1
theorem cloneBoard_any (b o d q n k m l : Nat) (xs ys : List Int) (w : World) (hx : RdI w (some ⟨b, o, none⟩) n xs) (hy : RdI w (some ⟨d, q, none⟩) m ys) (hn : n ≤ 1048576) (hm : m ≤ 1048576) :
    Calls Try.prog 96 #[.agg #[.slice (some ⟨b, o, none⟩) n k, .slice (some ⟨d, q, none⟩) m l]] w (BoardNew w n m xs ys) := by
  have i0 : ((w.alloc (.cells #[.slice (some ⟨b, o, none⟩) n k, .slice (some ⟨d, q, none⟩) m l] 43)).alloc (.cells #[.slice none 0 0, .slice none 0 0] 43)).drew.cell? ⟨w.heap.size + 1, 0, none⟩ = some (.slice none 0 0) := by simp
  have i1 : ((w.alloc (.cells #[.slice (some ⟨b, o, none⟩) n k, .slice (some ⟨d, q, none⟩) m l] 43)).alloc (.cells #[.slice none 0 0, .slice none 0 0] 43)).drew.cell? ⟨w.heap.size + 1, 1, none⟩ = some (.slice none 0 0) := by simp
  have i2 : ((w.alloc (.cells #[.slice (some ⟨b, o, none⟩) n k, .slice (some ⟨d, q, none⟩) m l] 43)).alloc (.cells #[.slice none 0 0, .slice none 0 0] 43)).drew.frozen? ⟨w.heap.size + 1, 0, none⟩ = false := by simp
  have i3 : ((w.alloc (.cells #[.slice (some ⟨b, o, none⟩) n k, .slice (some ⟨d, q, none⟩) m l] 43)).alloc (.cells #[.slice none 0 0, .slice none 0 0] 43)).drew.frozen? ⟨w.heap.size + 1, 1, none⟩ = false := by simp
  go_enter Try.func96, Try.ntmps96
  go_wp2_with fail
  go_region_held3 (fun w' => w'.cell? ⟨w.heap.size, 0, none⟩ = some (.slice (some ⟨b, o, none⟩) n k) ∧ w'.cell? ⟨w.heap.size, 1, none⟩ = some (.slice (some ⟨d, q, none⟩) m l)) (first | (go_split_ands; refine ⟨?_, ?_⟩ <;> first | assumption | (refine Past.keep hb1 ?_; assumption)) | go_keep | (refine ⟨?_, ?_⟩ <;> simp)) (first | (go_at_call 105; (with_reducible refine (clone_any _ _ _ _ _ _ (hx.past (by repeat (first | exact Past.refl _ | assumption | refine Past.alloc ?_ _ | refine Past.drew ?_ | refine Past.drewN ?_ _ | refine Past.setCell ?_ (by first | (simp; done) | (simp <;> omega)) _ | refine Past.trans ?_ (past_over _ _) | refine Past.trans ?_ (by assumption)))) hn).mono ?_); rintro e w1 ⟨g1, k1, rfl, ho1, hb1⟩; have s1 := own_at ho1; have z1 := hb1.size; have r0 := Past.keep hb1 (p := ⟨w.heap.size + 1, 0, none⟩) (v := .slice none 0 0) (by assumption); have r1 := Past.keep hb1 (p := ⟨w.heap.size + 1, 1, none⟩) (v := .slice none 0 0) (by assumption); have f0 := Past.keepz hb1 (p := ⟨w.heap.size + 1, 0, none⟩) ⟨_, by assumption⟩ (by assumption); have f1 := Past.keepz hb1 (p := ⟨w.heap.size + 1, 1, none⟩) ⟨_, by assumption⟩ (by assumption)) | (go_at_call 105; (with_reducible refine (clone_any _ _ _ _ _ _ (hy.past (by repeat (first | exact Past.refl _ | assumption | refine Past.alloc ?_ _ | refine Past.drew ?_ | refine Past.drewN ?_ _ | refine Past.setCell ?_ (by first | (simp; done) | (simp <;> omega)) _ | refine Past.trans ?_ (past_over _ _) | refine Past.trans ?_ (by assumption)))) hm).mono ?_); rintro e w1 ⟨g2, k2, rfl, ho2, hb1⟩; have s2 := own_at ho2; have z2 := hb1.size; have r0 := Past.keep hb1 (p := ⟨w.heap.size + 1, 0, none⟩) (v := .slice none 0 0) (by assumption); have r1 := Past.keep hb1 (p := ⟨w.heap.size + 1, 1, none⟩) (v := .slice none 0 0) (by assumption); have f0 := Past.keepz hb1 (p := ⟨w.heap.size + 1, 0, none⟩) ⟨_, by assumption⟩ (by assumption); have f1 := Past.keepz hb1 (p := ⟨w.heap.size + 1, 1, none⟩) ⟨_, by assumption⟩ (by assumption)))
  simp only [size_drew, World.size_alloc] at z1 z2 s1 s2
  replace ho1 := ho1.less (base' := w.heap.size) (by first | omega | (simp <;> omega))
  replace ho2 := ho2.less (base' := w.heap.size) (by first | omega | (simp <;> omega))
  go_wp2
  refine bodyPost_ret (v := .agg #[.slice (some ⟨g1, 0, none⟩) n k1, .slice (some ⟨g2, 0, none⟩) m k2]) (by simp [*, results, Try.results96, go_sem]) rfl ⟨g1, g2, k1, k2, rfl, (by repeat (first | assumption | refine OwI.far ?_ (by first | omega | (simp <;> omega)) _ | refine OwI.past ?_ (by assumption) | refine OwI.alloc ?_ _ | refine OwI.drew ?_)), (by repeat (first | assumption | refine OwI.far ?_ (by first | omega | (simp <;> omega)) _ | refine OwI.past ?_ (by assumption) | refine OwI.alloc ?_ _ | refine OwI.drew ?_)), by omega, (by repeat (first | exact Past.refl _ | assumption | refine Past.alloc ?_ _ | refine Past.drew ?_ | refine Past.drewN ?_ _ | refine Past.setCell ?_ (by first | (simp; done) | (simp <;> omega)) _ | refine Past.trans ?_ (past_over _ _) | refine Past.trans ?_ (by assumption)))⟩
end Go.Proofs.Ytapocfgajkkpdaa
