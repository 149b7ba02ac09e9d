/-
  Contracts: numbers in decimal, of the program and of the reference.
-/
import Derived.Test.YtdcdjocjlicplaaDoorText
import Derived.Test.YtdcdjocjlicplaaDoorShelf
import Derived.Test.YtdcdjocjlicplaaDoorVar
import Derived.Test.YtdcdjocjlicplaaDoorOver
import Derived.Test.YtdcdjocjlicplaaDoorMem
import Derived.Lib.Split
import Derived.Laws.Concat
import Derived.Laws.Strings2
import Derived.Laws.Strings3
import Derived.Laws.BytesArg
import Derived.IntWalk
import Derived.Deep.RegionWith
import Derived.Deep.AppendLies
import Derived.Deep.DeepCutAuto
namespace Go.Proofs.YtdcdjocjlicplaaDoor
open Go.ChangeShapes Go.WideShapes Go.ChangeAt Go.RowKit Go.Joins

theorem decB_size {n : Int} (h : 0 ≤ n) (h2 : n < 100) : (decB n).size ≤ 2 := by
  show (dec n).toArray.size ≤ 2
  rw [List.size_toArray, dec_eq h h2, decT]
  split <;> simp
set_option maxRecDepth 100000 in
theorem decimal_small (n : Int) (w : World) (h : 0 ≤ n) (h2 : n < 100) :
    Calls Tryd.prog 61 #[.int .i64 n] w fun e w' => e = .returned (.string (decB n)) ∧ w = w' := by
  obtain ⟨i, rfl⟩ := Int.eq_ofNat_of_zero_le h
  go_enter Tryd.func61, Tryd.ntmps61
  go_wp2_with (go_at_call 75; (with_reducible refine (Tryd.strconv_FormatInt_10_small _ (by omega) _).mono ?_); rintro e w' ⟨rfl, rfl⟩)
  go_ret
  exact ⟨rfl, rfl⟩
/-- One digit. -/
def digB (d : Int) : ByteArray := ⟨#[UInt8.ofNat (48 + d.toNat)]⟩
theorem dig_num : ∀ i : Fin 10, strOfNums [48 + (i.val : Int)] = ⟨#[UInt8.ofNat (48 + i.val)]⟩ := by decide +kernel
theorem conv_dig {w : World} {b : Nat} {d : Int} (h : w.cell? ⟨b, 0, none⟩ = some (.int .u8 (48 + d))) (h0 : 0 ≤ d) (h9 : d ≤ 9) :
    (convert 52 9 (.slice (some ⟨b, 0, none⟩) 1 1)).run Tryd.prog w = .ok (.string (digB d)) w := by
  have e : strOfNums [48 + d] = digB d := by
    obtain ⟨i, rfl⟩ := Int.eq_ofNat_of_zero_le h0
    exact dig_num ⟨i, by omega⟩
  rw [← e]
  refine run_convert_bytes_arg w _ 5 (by kernel_rfl) (by kernel_rfl) b 0 1 1 [48 + d] rfl (fun i hi => ?_) _ (by kernel_rfl)
  obtain rfl : i = 0 := by omega
  simpa using h
theorem dec_one {n : Int} (h : 0 ≤ n) (h2 : n < 10) : decB n = digB n := by
  rw [decB, dec, Lib.decDigits_one (by omega)]
  rfl
theorem dec_two {n : Int} (h : 10 ≤ n) (h2 : n < 100) : decB n = digB (n.tdiv 10) ++ digB (n.tmod 10) := by
  obtain ⟨i, rfl⟩ := Int.eq_ofNat_of_zero_le (show 0 ≤ n by omega)
  rw [decB, dec, Lib.decDigits_two (by omega) (by omega)]
  rfl
set_option maxRecDepth 100000 in
theorem l01Number_one (n : Int) (w : World) (h : 0 ≤ n) (h2 : n < 10) :
    Calls Tryd.prog 40 #[.int .i64 n] w fun e w' => e = .returned (.string (decB n)) ∧ Past w w' := by
  have hcv := conv_dig (w := w.alloc (.cells #[.int .u8 (48 + n)] 5)) (b := w.heap.size) (d := n) (by simp) h (by omega)
  rw [dec_one h h2]
  go_enter Tryd.func40, Tryd.ntmps40
  go_wp2
  go_ret
  exact ⟨rfl, (by repeat (first | exact Past.refl _ | assumption | refine Past.alloc ?_ _ | refine Past.drew ?_ | refine Past.drewN ?_ _ | refine Past.setCell ?_ (by first | (simp; done) | (simp <;> omega)) _ | refine Past.trans ?_ (past_over _ _) | refine Past.trans ?_ (by assumption)))⟩
set_option maxHeartbeats 1000000 in
set_option maxRecDepth 100000 in
theorem l01Number_any (n : Int) (w : World) (h : 0 ≤ n) (h2 : n < 100) :
    Calls Tryd.prog 40 #[.int .i64 n] w fun e w' => e = .returned (.string (decB n)) ∧ Past w w' := by
  by_cases h3 : n < 10
  · exact l01Number_one n w h h3
  · have hq : n.tdiv 10 = n / 10 := Int.tdiv_eq_ediv_of_nonneg h
    have hr : n.tmod 10 = n % 10 := Int.tmod_eq_emod_of_nonneg h
    obtain ⟨d, hd⟩ : ∃ d, d = n % 10 := ⟨_, rfl⟩
    obtain ⟨q, hq2⟩ : ∃ q, q = n / 10 := ⟨_, rfl⟩
    have hd0 : 0 ≤ d := by omega
    have hd9 : d ≤ 9 := by omega
    have hqq : 0 ≤ q ∧ q < 10 := by omega
    have hq3 : n.tdiv 10 = q := by omega
    have hr3 : n.tmod 10 = d := by omega
    rw [dec_two (by omega) h2, hq3, hr3, ← dec_one hqq.1 hqq.2]
    go_enter Tryd.func40, Tryd.ntmps40
    go_upto_region 3 with fail
    clear hq hr hd hq2
    have a1 : ∀ wx : World, (convert 52 9 (.slice (some ⟨wx.heap.size, 0, none⟩) 1 1)).run Tryd.prog (wx.alloc (.cells #[.int .u8 (48 + d)] 5)) = .ok (.string (digB d)) (wx.alloc (.cells #[.int .u8 (48 + d)] 5)) := fun wx => conv_dig (by simp) hd0 hd9
    have a2 : ∀ wx : World, (convert 52 9 (.slice (some ⟨wx.heap.size, 0, none⟩) 1 1)).run Tryd.prog (wx.alloc (.cells #[.int .u8 (48 + d)] 5)).drew = .ok (.string (digB d)) (wx.alloc (.cells #[.int .u8 (48 + d)] 5)).drew := fun wx => conv_dig (by simp) hd0 hd9
    have a3 : ∀ wx : World, (Op.stringOp .add (decB q) (digB d)).run Tryd.prog wx = .ok (.string (decB q ++ digB d)) wx := fun wx => run_string_add_sum wx _ _ (by rw [dec_one hqq.1 hqq.2]; show 1 + 1 ≤ _; omega)
    have W1 : IntKind.i64.wrap q = q := IntWalk.i64_in _ (by omega)
    have W2 : IntKind.i64.wrap d = d := IntWalk.i64_in _ (by omega)
    have W3 : IntKind.i64.wrap (48 + d) = 48 + d := IntWalk.i64_in _ (by omega)
    have W4 : IntKind.u8.wrap (48 + d) = 48 + d := IntWalk.u8_in _ (by omega)
    have hk := fun (wx : World) (hb : Past (w.alloc (.cells #[.int .u8 (48 + d)] 5)).drew wx) => conv_dig (w := wx) (b := w.heap.size) (d := d) (hb.keep (by simp)) hd0 hd9
    go_region_with (go_at_call 40; (with_reducible refine (l01Number_one _ _ (by first | exact hqq.1 | (rw [hq3]; exact hqq.1) | omega) (by first | exact hqq.2 | (rw [hq3]; exact hqq.2) | omega)).mono ?_); rintro e w9 ⟨rfl, hb9⟩; (try (have a9 := hk _ hb9)))
    all_goals (go_wp2; go_ret; exact ⟨rfl, (by repeat (first | exact Past.refl _ | assumption | refine Past.alloc ?_ _ | refine Past.drew ?_ | refine Past.drewN ?_ _ | refine Past.setCell ?_ (by first | (simp; done) | (simp <;> omega)) _ | refine Past.trans ?_ (past_over _ _) | refine Past.trans ?_ (by assumption)))⟩)
/-! ### Variants' texts -/
def vB (p c h s : Int) : ByteArray := ⟨(vTxt p c h s).toArray⟩
/-- The text that both functions answer. -/
def vtB (p c h s : Int) : ByteArray := ⟨(vText p c h s).toArray⟩
theorem decB_app (n : Int) (l : List UInt8) : decB n ++ ⟨l.toArray⟩ = ⟨(dec n ++ l).toArray⟩ := ByteArray.mk_append_mk _ _
theorem vB_apps (p c h s : Int) : decB p ++ ⟨#[47]⟩ ++ decB c ++ ⟨#[47]⟩ ++ decB h ++ ⟨#[47]⟩ ++ decB s = vB p c h s := by
  simp only [decB, ByteArray.mk_append_mk, vB, vTxt, List.append_assoc, List.cons_append, List.nil_append]
set_option maxHeartbeats 1000000 in
set_option maxRecDepth 100000 in
theorem sVariantText_any (p c h s : Int) (w : World) :
    Calls Tryd.prog 11 #[.agg #[.int .i64 p, .int .i64 c, .int .i64 h, .int .i64 s]] w fun e w' => e = .returned (.string (vtB p c h s)) ∧ Past w w' := by
  cases hv : vOk p c h s
  · have e : vtB p c h s = ⟨#[]⟩ := by rw [vtB, vText, hv]; rfl
    rw [e]
    go_enter Tryd.func11, Tryd.ntmps11
    go_wp2_with (go_at_call 39; (with_reducible refine (sIsVar_any _ _ _ _ _).mono ?_); rintro e w1 ⟨rfl, hb1⟩; obtain ⟨hc1, hf1, _⟩ := hb1.cells; have hz1_0 : w.heap.size < w1.heap.size := Past.lt hb1 (by first | omega | (simp <;> omega)))
    go_ret
    exact ⟨rfl, (by repeat (first | exact Past.refl _ | assumption | refine Past.alloc ?_ _ | refine Past.drew ?_ | refine Past.drewN ?_ _ | refine Past.setCell ?_ (by first | (simp; done) | (simp <;> omega)) _ | refine Past.trans ?_ (past_over _ _) | refine Past.trans ?_ (by assumption)))⟩
  · have h1 := vOk_yes hv
    have e : vtB p c h s = vB p c h s := by rw [vtB, vText, hv]; rfl
    rw [e, ← vB_apps]
    have s1 := decB_size (show 0 ≤ p by omega) (by omega)
    have s2 := decB_size (show 0 ≤ c by omega) (by omega)
    have s3 := decB_size (show 0 ≤ h by omega) (by omega)
    have s4 := decB_size (show 0 ≤ s by omega) (by omega)
    have ss : (⟨#[47]⟩ : ByteArray).size = 1 := rfl
    have b1 : (decB p ++ ⟨#[47]⟩).size ≤ 3 := by rw [ByteArray.size_append]; omega
    have b2 : (decB p ++ ⟨#[47]⟩ ++ decB c).size ≤ 5 := by rw [ByteArray.size_append]; omega
    have b3 : (decB p ++ ⟨#[47]⟩ ++ decB c ++ ⟨#[47]⟩).size ≤ 6 := by rw [ByteArray.size_append]; omega
    have b4 : (decB p ++ ⟨#[47]⟩ ++ decB c ++ ⟨#[47]⟩ ++ decB h).size ≤ 8 := by rw [ByteArray.size_append]; omega
    have b5 : (decB p ++ ⟨#[47]⟩ ++ decB c ++ ⟨#[47]⟩ ++ decB h ++ ⟨#[47]⟩).size ≤ 9 := by rw [ByteArray.size_append]; omega
    have a1 := fun w => run_string_add_sum (P := Tryd.prog) w (decB p) ⟨#[47]⟩ (by omega)
    have a2 := fun w => run_string_add_sum (P := Tryd.prog) w (decB p ++ ⟨#[47]⟩) (decB c) (by omega)
    have a3 := fun w => run_string_add_sum (P := Tryd.prog) w (decB p ++ ⟨#[47]⟩ ++ decB c) ⟨#[47]⟩ (by omega)
    have a4 := fun w => run_string_add_sum (P := Tryd.prog) w (decB p ++ ⟨#[47]⟩ ++ decB c ++ ⟨#[47]⟩) (decB h) (by omega)
    have a5 := fun w => run_string_add_sum (P := Tryd.prog) w (decB p ++ ⟨#[47]⟩ ++ decB c ++ ⟨#[47]⟩ ++ decB h) ⟨#[47]⟩ (by omega)
    have a6 := fun w => run_string_add_sum (P := Tryd.prog) w (decB p ++ ⟨#[47]⟩ ++ decB c ++ ⟨#[47]⟩ ++ decB h ++ ⟨#[47]⟩) (decB s) (by omega)
    clear s1 s2 s3 s4 ss b1 b2 b3 b4 b5
    go_enter Tryd.func11, Tryd.ntmps11
    go_wp2_with (go_at_call 39; (with_reducible refine (sIsVar_any _ _ _ _ _).mono ?_); rintro e w1 ⟨rfl, hb1⟩; obtain ⟨hc1, hf1, _⟩ := hb1.cells; have hz1_0 : w.heap.size < w1.heap.size := Past.lt hb1 (by first | omega | (simp <;> omega)))
    refine wp_region_over (by kernel_rfl) (by kernel_rfl) ?_
    repeat (go_big_quiet_step ((first | (go_at_call 40; exact over_of (l01Number_any _ _ (by omega) (by omega))))))
    refine wpQuiet_nil ?_
    intro w2 hb2
    obtain ⟨hc2, hf2, _⟩ := hb2.cells
    go_wp2
    go_ret
    exact ⟨rfl, (by repeat (first | exact Past.refl _ | assumption | refine Past.alloc ?_ _ | refine Past.drew ?_ | refine Past.drewN ?_ _ | refine Past.setCell ?_ (by first | (simp; done) | (simp <;> omega)) _ | refine Past.trans ?_ (past_over _ _) | refine Past.trans ?_ (by assumption)))⟩
end Go.Proofs.YtdcdjocjlicplaaDoor
