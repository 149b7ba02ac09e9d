/-
  Contracts of the functions that read a roll from a text.
-/
import Derived.Test.YtnekcahpjjppiaaRoll
import Derived.Deep.RegionHeld3
import Derived.Deep.DeepCutAuto
import Derived.IntWalk
namespace Go.Proofs.Ytnekcahpjjppiaa
open Go.ChangeShapes Go.WideShapes Go.ChangeAt Go.RowKit Go.Joins

theorem readRoll_short (p c h s : Int) (t : ByteArray) (ht : t.size ≠ 2) (w : World) :
    Calls Try.prog 39 #[.agg #[.int .i64 p, .int .i64 c, .int .i64 h, .int .i64 s], .string t] w fun e w' => e = .returned (.tuple #[.agg #[.int .i64 0, .int .i64 0], .bool false]) ∧ Past w w' := by
  have hb : ((t.size : Int) == 2) = false := beq_eq_false_iff_ne.2 (by omega)
  have hc : ((t.size : Int) != 2) = true := by rw [bne_iff_ne]; omega
  clear ht
  go_enter Try.func39, Try.ntmps39
  go_wp2
  refine bodyPost_ret (v := .tuple #[.agg #[.int .i64 0, .int .i64 0], .bool false]) (by simp [results, Try.results39, go_sem]) rfl ⟨rfl, (by repeat (first | exact Past.refl _ | refine Past.alloc ?_ _ | refine Past.drew ?_ | refine Past.setCell ?_ (by first | (simp; done) | (simp <;> omega)) _ | refine Past.trans ?_ (by assumption)))⟩
theorem readRoll_yes (p c h s : Int) (t : ByteArray) (ht : t.size = 2) (x y : UInt8) (hx : t[0] = x) (hy : t[1] = y) (hr : isRollF p c h s ((x.toNat : Int) - 48) ((y.toNat : Int) - 48) = true) (w : World) :
    Calls Try.prog 39 #[.agg #[.int .i64 p, .int .i64 c, .int .i64 h, .int .i64 s], .string t] w fun e w' => e = .returned (.tuple #[.agg #[.int .i64 ((x.toNat : Int) - 48), .int .i64 ((y.toNat : Int) - 48)], .bool true]) ∧ Past w w' := by
  have bx : x.toNat < 256 := x.toNat_lt
  have b_y : y.toNat < 256 := y.toNat_lt
  have k1 : IntKind.i64.wrap (x.toNat : Int) = (x.toNat : Int) := IntWalk.i64_in _ (by omega)
  have k2 : IntKind.i64.wrap (y.toNat : Int) = (y.toNat : Int) := IntWalk.i64_in _ (by omega)
  have k3 : IntKind.i64.wrap ((x.toNat : Int) - 48) = (x.toNat : Int) - 48 := IntWalk.i64_in _ (by omega)
  have k4 : IntKind.i64.wrap ((y.toNat : Int) - 48) = (y.toNat : Int) - 48 := IntWalk.i64_in _ (by omega)
  go_enter Try.func39, Try.ntmps39
  go_upto_region 3 with fail
  go_cut [6] (fun s6 wx => s6 = .pointer (some ⟨w.heap.size + 2, 0, none⟩) ∧ wx = (((w.alloc (.cells #[.int .i64 p, .int .i64 c, .int .i64 h, .int .i64 s] 26)).alloc (.cells #[.int .i64 0, .int .i64 0] 37)).alloc (.cells #[.int .i64 ((x.toNat : Int) - 48), .int .i64 ((y.toNat : Int) - 48)] 37)).drew)
  case first =>
    go_region_held3 (fun _ => True) (exact trivial) ((fail))
    all_goals (go_wp2_with fail; go_meet; exact ⟨rfl, rfl⟩)
  case rest =>
    obtain ⟨rfl, rfl⟩ := hcut
    clear k1 k2 k3 k4
    go_wp2_with (go_at_call 33; refine (isRoll _ _ _ _ _ _ _).mono ?_; rintro e w1 ⟨rfl, hb1⟩; obtain ⟨hc1, hf1, _⟩ := hb1.cells; have hz1_0 : w.heap.size + 1 < w1.heap.size := Past.lt hb1 (by first | omega | (simp <;> omega)); have hz1_1 : w.heap.size + 2 < w1.heap.size := Past.lt hb1 (by first | omega | (simp <;> omega)))
    refine bodyPost_ret (v := .tuple #[.agg #[.int .i64 ((x.toNat : Int) - 48), .int .i64 ((y.toNat : Int) - 48)], .bool true]) (by simp [*, results, Try.results39, go_sem]) rfl ⟨rfl, (by repeat (first | exact Past.refl _ | refine Past.alloc ?_ _ | refine Past.drew ?_ | refine Past.setCell ?_ (by first | (simp; done) | (simp <;> omega)) _ | refine Past.trans ?_ (by assumption)))⟩
theorem readRoll_no (p c h s : Int) (t : ByteArray) (ht : t.size = 2) (x y : UInt8) (hx : t[0] = x) (hy : t[1] = y) (hr : isRollF p c h s ((x.toNat : Int) - 48) ((y.toNat : Int) - 48) = false) (w : World) :
    Calls Try.prog 39 #[.agg #[.int .i64 p, .int .i64 c, .int .i64 h, .int .i64 s], .string t] w fun e w' => e = .returned (.tuple #[.agg #[.int .i64 0, .int .i64 0], .bool false]) ∧ Past w w' := by
  have bx : x.toNat < 256 := x.toNat_lt
  have b_y : y.toNat < 256 := y.toNat_lt
  have k1 : IntKind.i64.wrap (x.toNat : Int) = (x.toNat : Int) := IntWalk.i64_in _ (by omega)
  have k2 : IntKind.i64.wrap (y.toNat : Int) = (y.toNat : Int) := IntWalk.i64_in _ (by omega)
  have k3 : IntKind.i64.wrap ((x.toNat : Int) - 48) = (x.toNat : Int) - 48 := IntWalk.i64_in _ (by omega)
  have k4 : IntKind.i64.wrap ((y.toNat : Int) - 48) = (y.toNat : Int) - 48 := IntWalk.i64_in _ (by omega)
  go_enter Try.func39, Try.ntmps39
  go_upto_region 3 with fail
  go_cut [6] (fun s6 wx => s6 = .pointer (some ⟨w.heap.size + 2, 0, none⟩) ∧ wx = (((w.alloc (.cells #[.int .i64 p, .int .i64 c, .int .i64 h, .int .i64 s] 26)).alloc (.cells #[.int .i64 0, .int .i64 0] 37)).alloc (.cells #[.int .i64 ((x.toNat : Int) - 48), .int .i64 ((y.toNat : Int) - 48)] 37)).drew)
  case first =>
    go_region_held3 (fun _ => True) (exact trivial) ((fail))
    all_goals (go_wp2_with fail; go_meet; exact ⟨rfl, rfl⟩)
  case rest =>
    obtain ⟨rfl, rfl⟩ := hcut
    clear k1 k2 k3 k4
    go_wp2_with (go_at_call 33; refine (isRoll _ _ _ _ _ _ _).mono ?_; rintro e w1 ⟨rfl, hb1⟩; obtain ⟨hc1, hf1, _⟩ := hb1.cells; have hz1_0 : w.heap.size + 1 < w1.heap.size := Past.lt hb1 (by first | omega | (simp <;> omega)); have hz1_1 : w.heap.size + 2 < w1.heap.size := Past.lt hb1 (by first | omega | (simp <;> omega)))
    refine bodyPost_ret (v := .tuple #[.agg #[.int .i64 0, .int .i64 0], .bool false]) (by simp [*, results, Try.results39, go_sem]) rfl ⟨rfl, (by repeat (first | exact Past.refl _ | refine Past.alloc ?_ _ | refine Past.drew ?_ | refine Past.setCell ?_ (by first | (simp; done) | (simp <;> omega)) _ | refine Past.trans ?_ (by assumption)))⟩
theorem sReadRoll_short (p c h s : Int) (t : ByteArray) (ht : t.size ≠ 2) (w : World) :
    Calls Try.prog 38 #[.agg #[.int .i64 p, .int .i64 c, .int .i64 h, .int .i64 s], .string t] w fun e w' => e = .returned (.tuple #[.agg #[.int .i64 0, .int .i64 0], .bool false]) ∧ Past w w' := by
  have hb : ((t.size : Int) == 2) = false := beq_eq_false_iff_ne.2 (by omega)
  have hc : ((t.size : Int) != 2) = true := by rw [bne_iff_ne]; omega
  clear ht
  go_enter Try.func38, Try.ntmps38
  go_wp2
  refine bodyPost_ret (v := .tuple #[.agg #[.int .i64 0, .int .i64 0], .bool false]) (by simp [results, Try.results38, go_sem]) rfl ⟨rfl, (by repeat (first | exact Past.refl _ | refine Past.alloc ?_ _ | refine Past.drew ?_ | refine Past.setCell ?_ (by first | (simp; done) | (simp <;> omega)) _ | refine Past.trans ?_ (by assumption)))⟩
theorem sReadRoll_yes (p c h s : Int) (t : ByteArray) (ht : t.size = 2) (x y : UInt8) (hx : t[0] = x) (hy : t[1] = y) (hr : isRollF p c h s ((x.toNat : Int) - 48) ((y.toNat : Int) - 48) = true) (w : World) :
    Calls Try.prog 38 #[.agg #[.int .i64 p, .int .i64 c, .int .i64 h, .int .i64 s], .string t] w fun e w' => e = .returned (.tuple #[.agg #[.int .i64 ((x.toNat : Int) - 48), .int .i64 ((y.toNat : Int) - 48)], .bool true]) ∧ Past w w' := by
  have bx : x.toNat < 256 := x.toNat_lt
  have b_y : y.toNat < 256 := y.toNat_lt
  have k1 : IntKind.i64.wrap (x.toNat : Int) = (x.toNat : Int) := IntWalk.i64_in _ (by omega)
  have k2 : IntKind.i64.wrap (y.toNat : Int) = (y.toNat : Int) := IntWalk.i64_in _ (by omega)
  have k3 : IntKind.i64.wrap ((x.toNat : Int) - 48) = (x.toNat : Int) - 48 := IntWalk.i64_in _ (by omega)
  have k4 : IntKind.i64.wrap ((y.toNat : Int) - 48) = (y.toNat : Int) - 48 := IntWalk.i64_in _ (by omega)
  go_enter Try.func38, Try.ntmps38
  go_upto_region 3 with fail
  go_cut [6] (fun s6 wx => s6 = .pointer (some ⟨w.heap.size + 2, 0, none⟩) ∧ wx = (((w.alloc (.cells #[.int .i64 p, .int .i64 c, .int .i64 h, .int .i64 s] 26)).alloc (.cells #[.int .i64 0, .int .i64 0] 37)).alloc (.cells #[.int .i64 ((x.toNat : Int) - 48), .int .i64 ((y.toNat : Int) - 48)] 37)).drew)
  case first =>
    go_region_held3 (fun _ => True) (exact trivial) ((fail))
    all_goals (go_wp2_with fail; go_meet; exact ⟨rfl, rfl⟩)
  case rest =>
    obtain ⟨rfl, rfl⟩ := hcut
    clear k1 k2 k3 k4
    go_wp2_with (go_at_call 31; refine (sIsRoll _ _ _ _ _ _ _).mono ?_; rintro e w1 ⟨rfl, hb1⟩; obtain ⟨hc1, hf1, _⟩ := hb1.cells; have hz1_0 : w.heap.size + 1 < w1.heap.size := Past.lt hb1 (by first | omega | (simp <;> omega)); have hz1_1 : w.heap.size + 2 < w1.heap.size := Past.lt hb1 (by first | omega | (simp <;> omega)))
    refine bodyPost_ret (v := .tuple #[.agg #[.int .i64 ((x.toNat : Int) - 48), .int .i64 ((y.toNat : Int) - 48)], .bool true]) (by simp [*, results, Try.results38, go_sem]) rfl ⟨rfl, (by repeat (first | exact Past.refl _ | refine Past.alloc ?_ _ | refine Past.drew ?_ | refine Past.setCell ?_ (by first | (simp; done) | (simp <;> omega)) _ | refine Past.trans ?_ (by assumption)))⟩
theorem sReadRoll_no (p c h s : Int) (t : ByteArray) (ht : t.size = 2) (x y : UInt8) (hx : t[0] = x) (hy : t[1] = y) (hr : isRollF p c h s ((x.toNat : Int) - 48) ((y.toNat : Int) - 48) = false) (w : World) :
    Calls Try.prog 38 #[.agg #[.int .i64 p, .int .i64 c, .int .i64 h, .int .i64 s], .string t] w fun e w' => e = .returned (.tuple #[.agg #[.int .i64 0, .int .i64 0], .bool false]) ∧ Past w w' := by
  have bx : x.toNat < 256 := x.toNat_lt
  have b_y : y.toNat < 256 := y.toNat_lt
  have k1 : IntKind.i64.wrap (x.toNat : Int) = (x.toNat : Int) := IntWalk.i64_in _ (by omega)
  have k2 : IntKind.i64.wrap (y.toNat : Int) = (y.toNat : Int) := IntWalk.i64_in _ (by omega)
  have k3 : IntKind.i64.wrap ((x.toNat : Int) - 48) = (x.toNat : Int) - 48 := IntWalk.i64_in _ (by omega)
  have k4 : IntKind.i64.wrap ((y.toNat : Int) - 48) = (y.toNat : Int) - 48 := IntWalk.i64_in _ (by omega)
  go_enter Try.func38, Try.ntmps38
  go_upto_region 3 with fail
  go_cut [6] (fun s6 wx => s6 = .pointer (some ⟨w.heap.size + 2, 0, none⟩) ∧ wx = (((w.alloc (.cells #[.int .i64 p, .int .i64 c, .int .i64 h, .int .i64 s] 26)).alloc (.cells #[.int .i64 0, .int .i64 0] 37)).alloc (.cells #[.int .i64 ((x.toNat : Int) - 48), .int .i64 ((y.toNat : Int) - 48)] 37)).drew)
  case first =>
    go_region_held3 (fun _ => True) (exact trivial) ((fail))
    all_goals (go_wp2_with fail; go_meet; exact ⟨rfl, rfl⟩)
  case rest =>
    obtain ⟨rfl, rfl⟩ := hcut
    clear k1 k2 k3 k4
    go_wp2_with (go_at_call 31; refine (sIsRoll _ _ _ _ _ _ _).mono ?_; rintro e w1 ⟨rfl, hb1⟩; obtain ⟨hc1, hf1, _⟩ := hb1.cells; have hz1_0 : w.heap.size + 1 < w1.heap.size := Past.lt hb1 (by first | omega | (simp <;> omega)); have hz1_1 : w.heap.size + 2 < w1.heap.size := Past.lt hb1 (by first | omega | (simp <;> omega)))
    refine bodyPost_ret (v := .tuple #[.agg #[.int .i64 0, .int .i64 0], .bool false]) (by simp [*, results, Try.results38, go_sem]) rfl ⟨rfl, (by repeat (first | exact Past.refl _ | refine Past.alloc ?_ _ | refine Past.drew ?_ | refine Past.setCell ?_ (by first | (simp; done) | (simp <;> omega)) _ | refine Past.trans ?_ (by assumption)))⟩
end Go.Proofs.Ytnekcahpjjppiaa
