/-
  Contracts: the step read of a text, by the program.
-/
import Derived.Test.YtdcdjocjlicplaaDoorStepL
import Derived.Test.YtdcdjocjlicplaaDoorStepV
import Derived.Test.YtdcdjocjlicplaaDoorReadW
namespace Go.Proofs.YtdcdjocjlicplaaDoor
open Go.ChangeShapes Go.WideShapes Go.ChangeAt Go.RowKit Go.Joins

def stV (r : Option Stp) : Value := .agg #[.int .i64 (r.getD ⟨0, 0, 0, false⟩).f, .int .i64 (r.getD ⟨0, 0, 0, false⟩).t, .int .i64 (r.getD ⟨0, 0, 0, false⟩).d, .bool (r.getD ⟨0, 0, 0, false⟩).x]
def StepVal (w : World) (r : Option Stp) (e : Ending) (w' : World) : Prop := e = .returned (.tuple #[stV r, .bool r.isSome]) ∧ Past w w'
/-- The world of the reading: the variant, the result (empty yet), the step in its block. -/
structure StIn (w W : World) (g : Nat) (p c h s f t d : Int) (x : Bool) : Prop where
  v : Blk W w.heap.size 25 #[.int .i64 p, .int .i64 c, .int .i64 h, .int .i64 s]
  r : Blk W (w.heap.size + 1) 31 #[.int .i64 0, .int .i64 0, .int .i64 0, .bool false]
  a : Blk W g 31 #[.int .i64 f, .int .i64 t, .int .i64 d, .bool x]
  l : w.heap.size + 1 < g
  q : Past w W
theorem Blk.sset {w : World} {g : Nat} {t : TypeId} {cs cs' : Array Value} (h : Blk w g t cs) (i : Nat) (v : Value) (e : cs.setIfInBounds i v = cs') : Blk (w.setCell ⟨g, i, none⟩ v) g t cs' := e ▸ heap_setCell_same w g i cs t v h
theorem Blk.soff {w : World} {g : Nat} {t : TypeId} {cs : Array Value} (h : Blk w g t cs) {p : Addr} (v : Value) (hp : g ≠ p.block) : Blk (w.setCell p v) g t cs := (heap_setCell_other w p g v hp).trans h
section
variable {w W : World} {g : Nat} {p c h s f t d : Int} {x : Bool}
theorem StIn.past {W' : World} (H : StIn w W g p c h s f t d x) (k : Past W W') : StIn w W' g p c h s f t d x := ⟨H.v.past k, H.r.past k, H.a.past k, H.l, H.q.trans k⟩
theorem StIn.set0 (H : StIn w W g p c h s f t d x) (n : Int) : StIn w (W.setCell ⟨g, 0, none⟩ (.int .i64 n)) g p c h s n t d x :=
  ⟨H.v.soff _ (by have := H.l; simp only; omega), H.r.soff _ (by have := H.l; simp only; omega), H.a.sset 0 _ rfl, H.l, H.q.setCell (by have := H.l; simp only; omega) _⟩
theorem StIn.set1 (H : StIn w W g p c h s f t d x) (n : Int) : StIn w (W.setCell ⟨g, 1, none⟩ (.int .i64 n)) g p c h s f n d x :=
  ⟨H.v.soff _ (by have := H.l; simp only; omega), H.r.soff _ (by have := H.l; simp only; omega), H.a.sset 1 _ rfl, H.l, H.q.setCell (by have := H.l; simp only; omega) _⟩
theorem StIn.set2 (H : StIn w W g p c h s f t d x) (n : Int) : StIn w (W.setCell ⟨g, 2, none⟩ (.int .i64 n)) g p c h s f t n x :=
  ⟨H.v.soff _ (by have := H.l; simp only; omega), H.r.soff _ (by have := H.l; simp only; omega), H.a.sset 2 _ rfl, H.l, H.q.setCell (by have := H.l; simp only; omega) _⟩
theorem StIn.set3 (H : StIn w W g p c h s f t d x) (n : Bool) : StIn w (W.setCell ⟨g, 3, none⟩ (.bool n)) g p c h s f t d n :=
  ⟨H.v.soff _ (by have := H.l; simp only; omega), H.r.soff _ (by have := H.l; simp only; omega), H.a.sset 3 _ rfl, H.l, H.q.setCell (by have := H.l; simp only; omega) _⟩
theorem StIn.cells (H : StIn w W g p c h s f t d x) :
    (W.cell? ⟨w.heap.size, 0, none⟩ = some (.int .i64 p) ∧ W.cell? ⟨w.heap.size, 1, none⟩ = some (.int .i64 c) ∧ W.cell? ⟨w.heap.size, 2, none⟩ = some (.int .i64 h) ∧ W.cell? ⟨w.heap.size, 3, none⟩ = some (.int .i64 s)) ∧
    (W.cell? ⟨w.heap.size + 1, 0, none⟩ = some (.int .i64 0) ∧ W.cell? ⟨w.heap.size + 1, 1, none⟩ = some (.int .i64 0) ∧ W.cell? ⟨w.heap.size + 1, 2, none⟩ = some (.int .i64 0) ∧ W.cell? ⟨w.heap.size + 1, 3, none⟩ = some (.bool false)) ∧
    (W.frozen? ⟨w.heap.size + 1, 0, none⟩ = false ∧ W.frozen? ⟨w.heap.size + 1, 1, none⟩ = false ∧ W.frozen? ⟨w.heap.size + 1, 2, none⟩ = false ∧ W.frozen? ⟨w.heap.size + 1, 3, none⟩ = false) ∧
    (W.cell? ⟨g, 0, none⟩ = some (.int .i64 f) ∧ W.cell? ⟨g, 1, none⟩ = some (.int .i64 t) ∧ W.cell? ⟨g, 2, none⟩ = some (.int .i64 d) ∧ W.cell? ⟨g, 3, none⟩ = some (.bool x)) ∧
    (W.frozen? ⟨g, 0, none⟩ = false ∧ W.frozen? ⟨g, 1, none⟩ = false ∧ W.frozen? ⟨g, 2, none⟩ = false ∧ W.frozen? ⟨g, 3, none⟩ = false) :=
  ⟨⟨H.v.cell 0 rfl, H.v.cell 1 rfl, H.v.cell 2 rfl, H.v.cell 3 rfl⟩, ⟨H.r.cell 0 rfl, H.r.cell 1 rfl, H.r.cell 2 rfl, H.r.cell 3 rfl⟩, ⟨H.r.free 0, H.r.free 1, H.r.free 2, H.r.free 3⟩, ⟨H.a.cell 0 rfl, H.a.cell 1 rfl, H.a.cell 2 rfl, H.a.cell 3 rfl⟩, H.a.free 0, H.a.free 1, H.a.free 2, H.a.free 3⟩
end
/-! ### The library's pieces of a text -/
theorem cut_le (l q : List UInt8) : (Lib.cut l q).1.length ≤ l.length ∧ (Lib.cut l q).2.1.length ≤ l.length := by
  unfold Lib.cut
  split
  · simp only [List.length_take, List.length_drop]; omega
  · simp
theorem trimP_le (l q : List UInt8) : (Lib.trimPrefix l q).length ≤ l.length := by
  unfold Lib.trimPrefix
  split
  · rw [List.length_drop]; omega
  · exact Nat.le_refl _
theorem trimS_le (l q : List UInt8) : (Lib.trimSuffix l q).length ≤ l.length := by
  unfold Lib.trimSuffix
  split
  · rw [List.length_take]; omega
  · exact Nat.le_refl _
def bOf (l : List UInt8) : ByteArray := ⟨l.toArray⟩
theorem bOf_size (l : List UInt8) : (bOf l).size = l.length := List.size_toArray ..
theorem bOf_list (l : List UInt8) : (bOf l).data.toList = l := rfl
theorem bOf_eq {l m : List UInt8} : bOf l = bOf m ↔ l = m := ⟨fun e => by rw [← bOf_list l, e, bOf_list], fun e => by rw [e]⟩
theorem bOf_back (s : ByteArray) : bOf s.data.toList = s := rfl
theorem cut_any (s : ByteArray) (w : World) (hs : s.size ≤ 1048576) (hg : Glob w) :
    Calls Tryd.prog 67 #[.string s, .string ⟨#[47]⟩] w fun e w' => e = .returned (.tuple #[.string (bOf (Lib.cut s.data.toList [47]).1), .string (bOf (Lib.cut s.data.toList [47]).2.1), .bool (Lib.cut s.data.toList [47]).2.2]) ∧ Past w w' := by
  obtain ⟨m, hm⟩ := hg.1
  exact (Any.strings_Cut Tryd.lays145 s ⟨#[47]⟩ m w (by omega) hm).mono fun _ _ ⟨he, n, hw⟩ => ⟨he, by rw [hw]; exact (Past.refl w).drewN n⟩
theorem readDec (l : List UInt8) (w : World) (hg : Glob w) (hs : l.length ≤ 1048576) :
    Calls Tryd.prog 65 #[.string (bOf l)] w fun e w' => e = .returned (.tuple #[.int .i64 ((rdD l).getD 0), .bool (rdD l).isSome]) ∧ Past w w' := readDecimal_any (bOf l) w hg (by rw [bOf_size]; exact hs)
theorem readDec_no {l : List UInt8} (h : rdD l = none) (hs : l.length ≤ 1048576) : ∀ w, Glob w →
    Calls Tryd.prog 65 #[.string (bOf l)] w fun e w' => e = .returned (.tuple #[.int .i64 0, .bool false]) ∧ Past w w' := fun w hg => by
  have := readDec l w hg hs
  rw [h] at this
  exact this
theorem readDec_yes {l : List UInt8} {n : Int} (h : rdD l = some n) (hs : l.length ≤ 1048576) : ∀ w, Glob w →
    Calls Tryd.prog 65 #[.string (bOf l)] w fun e w' => e = .returned (.tuple #[.int .i64 n, .bool true]) ∧ Past w w' := fun w hg => by
  have := readDec l w hg hs
  rw [h] at this
  exact this
theorem bOf_toList (l : List UInt8) : (bOf l).toList = l := by rw [ByteArray.toList_eq]; rfl
theorem cutP_any (r : List UInt8) (w : World) :
    Calls Tryd.prog 68 #[.string (bOf r), .string ⟨#[111, 102, 102]⟩] w fun e w' => e = .returned (.tuple #[.string (bOf (restP r)), .bool (Lib.hasPrefix r [111, 102, 102])]) ∧ w = w' :=
  (Tryd.strings_CutPrefix (bOf r) ⟨#[111, 102, 102]⟩ w).mono fun _ _ ⟨he, hw⟩ => ⟨he, hw.symm⟩
theorem cutS_any (r : List UInt8) (w : World) (hr : r.length ≤ 1048576) :
    Calls Tryd.prog 71 #[.string (bOf r), .string ⟨#[42]⟩] w fun e w' => e = .returned (.tuple #[.string (bOf (Lib.trimSuffix r [42])), .bool (Lib.hasSuffix r [42])]) ∧ w = w' :=
  (Tryd.strings_CutSuffix (bOf r) ⟨#[42]⟩ w (by rw [bOf_size]; omega)).mono fun _ _ ⟨he, hw⟩ => ⟨he, hw.symm⟩
theorem trimP_any (r : List UInt8) (w : World) :
    Calls Tryd.prog 70 #[.string (bOf r), .string ⟨#[40]⟩] w fun e w' => e = .returned (.string (bOf (Lib.trimPrefix r [40]))) ∧ w = w' :=
  (Tryd.strings_TrimPrefix (bOf r) ⟨#[40]⟩ w).mono fun _ _ ⟨he, hw⟩ => ⟨he, hw.symm⟩
theorem trimS_any (r : List UInt8) (w : World) (hr : r.length ≤ 1048576) :
    Calls Tryd.prog 69 #[.string (bOf r), .string ⟨#[41]⟩] w fun e w' => e = .returned (.string (bOf (Lib.trimSuffix r [41]))) ∧ w = w' :=
  (Tryd.strings_TrimSuffix (bOf r) ⟨#[41]⟩ w (by rw [bOf_size]; omega)).mono fun _ _ ⟨he, hw⟩ => ⟨he, hw.symm⟩
set_option maxHeartbeats 4000000 in
set_option maxRecDepth 100000 in
theorem readStep_any (p c h s : Int) (st : ByteArray) (w : World) (hp : p ≤ 24) (hs : s ≤ 6) (hg : Glob w) (hz : st.size ≤ 1048576) :
    Calls Tryd.prog 51 #[.agg #[.int .i64 p, .int .i64 c, .int .i64 h, .int .i64 s], .string st] w (StepVal w (rdSt p s st.data.toList)) := by
  have hR : rdSt p s st.data.toList = match rawP p st.data.toList with | some a => if tripOk p s st.data.toList a = true then some a else none | none => none := rfl
  have hraw : rawP p st.data.toList = if (Lib.cut st.data.toList [47]).2.2 = true then (fromP p (Lib.cut st.data.toList [47]).1).bind fun F => toP F (Lib.cut st.data.toList [47]).2.1 else none := rfl
  generalize rdSt p s st.data.toList = R at hR ⊢
  have hcut := fun w h => cut_any st w hz h
  have hle := cut_le st.data.toList [47]
  have hll : st.data.toList.length = st.size := Array.length_toList
  obtain ⟨l, r, b, hC⟩ : ∃ l r b, Lib.cut st.data.toList [47] = (l, r, b) := ⟨_, _, _, rfl⟩
  rw [hC] at hcut hle hraw
  simp only at hcut hle hraw
  have hl : l.length ≤ 1048576 := by omega
  have hr : r.length ≤ 1048576 := by omega
  rw [hraw] at hR
  have HR := Lib.hid hR
  have HC := Lib.hid hcut
  clear hcut hle hraw hR hll hC
  obtain ⟨w0, hw0⟩ : ∃ w0 : World, w0 = (w.alloc (.cells #[.int .i64 p, .int .i64 c, .int .i64 h, .int .i64 s] 25)).alloc (.cells #[.int .i64 0, .int .i64 0, .int .i64 0, .bool false] 31) := ⟨_, rfl⟩
  have hp0 : Past w w0 := by rw [hw0]; exact (by repeat (first | exact Past.refl _ | assumption | refine Past.alloc ?_ _ | refine Past.drew ?_ | refine Past.drewN ?_ _ | refine Past.setCell ?_ (by first | (simp; done) | (simp <;> omega)) _ | refine Past.trans ?_ (past_over _ _) | refine Past.trans ?_ (by assumption)))
  have hV : Blk w0 w.heap.size 25 #[.int .i64 p, .int .i64 c, .int .i64 h, .int .i64 s] := by rw [hw0]; exact (Blk.new w _ _).past ((Past.refl _).alloc _)
  have hS : Blk w0 (w.heap.size + 1) 31 #[.int .i64 0, .int .i64 0, .int .i64 0, .bool false] := by rw [hw0]; exact Blk.at_ (by simp)
  go_enter Tryd.func51, Tryd.ntmps51
  go_upto_region 1 with fail
  rw [← hw0]
  clear hw0
  go_wp2_with fail
  (with_reducible refine (HC.out _ (hg.past hp0)).mono ?_)
  rintro e w1 ⟨rfl, hb1⟩
  replace hV := hV.past hb1
  replace hS := hS.past hb1
  have hp1 := hp0.trans hb1
  have hz1 := hS.lt
  clear hp0 hb1 HC
  cases b
  · obtain rfl : R = none := HR.out
    have r0 : w1.cell? ⟨w.heap.size + 1, 0, none⟩ = some (.int .i64 0) := hS.cell 0 rfl
    have r1 : w1.cell? ⟨w.heap.size + 1, 1, none⟩ = some (.int .i64 0) := hS.cell 1 rfl
    have r2 : w1.cell? ⟨w.heap.size + 1, 2, none⟩ = some (.int .i64 0) := hS.cell 2 rfl
    have r3 : w1.cell? ⟨w.heap.size + 1, 3, none⟩ = some (.bool false) := hS.cell 3 rfl
    have f0 := hS.free 0
    have f1 := hS.free 1
    have f2 := hS.free 2
    have f3 := hS.free 3
    go_wp2_with fail
    exact bodyPost_ret (v := .tuple #[.agg #[.int .i64 0, .int .i64 0, .int .i64 0, .bool false], .bool false]) (by simp [r0, r1, r2, r3, results, Tryd.results51, go_sem]) rfl ⟨rfl, (by repeat (first | exact Past.refl _ | assumption | refine Past.alloc ?_ _ | refine Past.drew ?_ | refine Past.drewN ?_ _ | refine Past.setCell ?_ (by first | (simp; done) | (simp <;> omega)) _ | refine Past.trans ?_ (past_over _ _) | refine Past.trans ?_ (by assumption)))⟩
  · have c0 : w1.cell? ⟨w.heap.size, 0, none⟩ = some (.int .i64 p) := hV.cell 0 rfl
    go_upto_region 5 with fail
    obtain ⟨wA, hwA⟩ : ∃ x, x = w1.alloc (.cells #[.int .i64 p, .int .i64 0, .int .i64 0, .bool false] 31) := ⟨_, rfl⟩
    have hpA : Past w1 wA := by rw [hwA]; exact (Past.refl w1).alloc _
    have H : StIn w wA w1.heap.size p c h s p 0 0 false := ⟨hV.past hpA, hS.past hpA, by rw [hwA]; exact Blk.new _ _ _, hz1, hp1.trans hpA⟩
    rw [← hwA]
    obtain ⟨g, hg1⟩ : ∃ g, g = w1.heap.size := ⟨_, rfl⟩
    rw [← hg1] at H ⊢
    clear hwA hpA hg1 hV hS hp1 hz1 c0
    replace HR : Hid (R = match ((fromP p l).bind fun F => toP F r) with | some a => if tripOk p s st.data.toList a = true then some a else none | none => none) := HR
    go_upto_if 33 with fail
    go_cut [9] (fun s9 wx => s9 = .pointer (some ⟨g, 0, none⟩) ∧ ∃ F, Hid (fromP p l = some F) ∧ StIn w wx g p c h s F 0 0 false)
    case first =>
      by_cases hbar : l = [98, 97, 114]
      · have hb : ((bOf l).toList == [98, 97, 114]) = true := by rw [bOf_toList, hbar]; rfl
        have HF := Lib.hid (show fromP p l = some p by rw [fromP, if_pos hbar])
        clear hbar
        rw [hb]
        go_wp2_with fail
        go_meet
        case rel => exact ⟨rfl, p, HF, H⟩
      · have hb0 : ((bOf l).toList == [98, 97, 114]) = false := by rw [bOf_toList, beq_eq_false_iff_ne]; exact hbar
        rw [hb0]
        cases hd : rdD l with
        | none =>
          have HD := Lib.hid (readDec_no hd hl)
          obtain rfl : R = none := by rw [HR.out, fromP, if_neg hbar, hd]; rfl
          clear hbar hd HR
          go_wp2_with fail
          (with_reducible refine (HD.out _ (hg.past H.q)).mono ?_)
          rintro e w2 ⟨rfl, hb⟩
          have H2 := H.past hb
          clear hb
          obtain ⟨⟨v0, v1, v2, v3⟩, ⟨r0, r1, r2, r3⟩, ⟨e0, e1, e2, e3⟩, ⟨a0, a1, a2, a3⟩, b0, b1, b2, b3⟩ := H2.cells
          have hpz := H2.q
          have hlz := H2.l
          clear H2
          go_wp2_with fail
          exact bodyPost_ret (v := .tuple #[.agg #[.int .i64 0, .int .i64 0, .int .i64 0, .bool false], .bool false]) (by simp [r0, r1, r2, r3, results, Tryd.results51, go_sem]) rfl ⟨rfl, (by repeat (first | exact Past.refl _ | assumption | refine Past.alloc ?_ _ | refine Past.drew ?_ | refine Past.drewN ?_ _ | refine Past.setCell ?_ (by first | (simp; done) | (simp <;> omega)) _ | refine Past.trans ?_ (past_over _ _) | refine Past.trans ?_ (by assumption)))⟩
        | some n =>
          have HD := Lib.hid (readDec_yes hd hl)
          obtain ⟨F, hF⟩ : ∃ F, F = wI (n - 1) := ⟨_, rfl⟩
          have W1 : IntKind.i64.wrap (n - 1) = F := hF.symm
          have HF := Lib.hid (show fromP p l = some F by rw [fromP, if_neg hbar, hd, hF]; rfl)
          clear hbar hd hF
          go_wp2_with fail
          (with_reducible refine (HD.out _ (hg.past H.q)).mono ?_)
          rintro e w2 ⟨rfl, hb⟩
          have H2 := H.past hb
          clear hb
          obtain ⟨⟨v0, v1, v2, v3⟩, ⟨r0, r1, r2, r3⟩, ⟨e0, e1, e2, e3⟩, ⟨a0, a1, a2, a3⟩, b0, b1, b2, b3⟩ := H2.cells
          go_wp2_with fail
          go_meet
          case rel => exact ⟨rfl, F, HF, H2.set0 F⟩
    case rest =>
      obtain ⟨rfl, F, HF, H1⟩ := hcut
      replace HR : Hid (R = match toP F r with | some a => if tripOk p s st.data.toList a = true then some a else none | none => none) := Lib.hid (by rw [HR.out, HF.out]; rfl)
      clear H HF
      go_wp2_with fail
      (with_reducible refine (cutP_any _ _).mono ?_)
      rintro e w9 ⟨rfl, rfl⟩
      go_upto_if 50 with fail
      go_cut [9, 13] (fun s9 s13 wx => s9 = .pointer (some ⟨g, 0, none⟩) ∧ ∃ a : Stp, Hid (toP F r = some a) ∧ StIn w wx g p c h s a.f a.t a.d a.x)
      case first =>
        cases hoff : Lib.hasPrefix r [111, 102, 102]
        · have hsx := trimS_le r [42]
          cases hd : rdD (Lib.trimSuffix r [42]) with
          | none =>
            have HD := Lib.hid (readDec_no hd (by omega))
            obtain rfl : R = none := by rw [HR.out, toP, if_neg (by rw [hoff]; decide), hd]; rfl
            clear hd HR hoff
            go_wp2_with fail
            (with_reducible refine (cutS_any _ _ hr).mono ?_)
            rintro e w9 ⟨rfl, rfl⟩
            go_wp2_with fail
            (with_reducible refine (HD.out _ (hg.past H1.q)).mono ?_)
            rintro e w2 ⟨rfl, hb⟩
            have H2 := H1.past hb
            clear hb
            obtain ⟨⟨v0, v1, v2, v3⟩, ⟨r0, r1, r2, r3⟩, ⟨e0, e1, e2, e3⟩, ⟨a0, a1, a2, a3⟩, b0, b1, b2, b3⟩ := H2.cells
            have hpz := H2.q
            have hlz := H2.l
            clear H2
            go_wp2_with fail
            exact bodyPost_ret (v := .tuple #[.agg #[.int .i64 0, .int .i64 0, .int .i64 0, .bool false], .bool false]) (by simp [r0, r1, r2, r3, results, Tryd.results51, go_sem]) rfl ⟨rfl, (by repeat (first | exact Past.refl _ | assumption | refine Past.alloc ?_ _ | refine Past.drew ?_ | refine Past.drewN ?_ _ | refine Past.setCell ?_ (by first | (simp; done) | (simp <;> omega)) _ | refine Past.trans ?_ (past_over _ _) | refine Past.trans ?_ (by assumption)))⟩
          | some n =>
            have HD := Lib.hid (readDec_yes hd (by omega))
            obtain ⟨T, hT⟩ : ∃ T, T = wI (n - 1) := ⟨_, rfl⟩
            obtain ⟨D, hDD⟩ : ∃ D, D = wI (F - T) := ⟨_, rfl⟩
            have W1 : IntKind.i64.wrap (n - 1) = T := hT.symm
            have W2 : IntKind.i64.wrap (F - T) = D := hDD.symm
            have HT := Lib.hid (show toP F r = some ⟨F, T, D, Lib.hasSuffix r [42]⟩ by rw [toP, if_neg (by rw [hoff]; decide), hd, hDD, hT]; rfl)
            clear hd hT hDD hoff
            go_wp2_with fail
            (with_reducible refine (cutS_any _ _ hr).mono ?_)
            rintro e w9 ⟨rfl, rfl⟩
            go_wp2_with fail
            (with_reducible refine (HD.out _ (hg.past H1.q)).mono ?_)
            rintro e w2 ⟨rfl, hb⟩
            have H2 := H1.past hb
            clear hb
            obtain ⟨⟨v0, v1, v2, v3⟩, ⟨r0, r1, r2, r3⟩, ⟨e0, e1, e2, e3⟩, ⟨a0, a1, a2, a3⟩, b0, b1, b2, b3⟩ := H2.cells
            go_wp2_with fail
            go_meet
            case rel => exact ⟨rfl, _, HT, ((H2.set3 _).set1 T).set2 D⟩
        · obtain ⟨D, hDD⟩ : ∃ D, D = wI (F + 1) := ⟨_, rfl⟩
          have W1 : IntKind.i64.wrap (F + 1) = D := hDD.symm
          by_cases hrest : restP r = []
          · have hb : ((bOf (restP r)).toList.isEmpty) = true := by rw [bOf_toList, hrest]; rfl
            have HT := Lib.hid (show toP F r = some ⟨F, -1, D, false⟩ by rw [toP, if_pos hoff, if_pos hrest, hDD])
            clear hrest hDD hoff
            obtain ⟨⟨v0, v1, v2, v3⟩, ⟨r0, r1, r2, r3⟩, ⟨e0, e1, e2, e3⟩, ⟨a0, a1, a2, a3⟩, b0, b1, b2, b3⟩ := H1.cells
            go_wp2_with fail
            go_meet
            case rel => exact ⟨rfl, _, HT, (H1.set1 (-1)).set2 D⟩
          · have hb : ((bOf (restP r)).toList.isEmpty) = false := by rw [bOf_toList, List.isEmpty_eq_false_iff]; exact hrest
            have hsx : (innerP (restP r)).length ≤ 1048576 := by
              have h1 := trimP_le r [111, 102, 102]
              have h2 := trimP_le (restP r) [40]
              have h3 := trimS_le (Lib.trimPrefix (restP r) [40]) [41]
              have e : restP r = Lib.trimPrefix r [111, 102, 102] := rfl
              unfold innerP
              rw [e] at h2 h3 ⊢
              omega
            have hsy : (Lib.trimPrefix (restP r) [40]).length ≤ 1048576 := by
              have h1 := trimP_le r [111, 102, 102]
              have h2 := trimP_le (restP r) [40]
              have e : restP r = Lib.trimPrefix r [111, 102, 102] := rfl
              rw [e] at h2 ⊢
              omega
            have HY := Lib.hid hsy
            have H3 := (H1.set1 (-1)).set2 D
            cases hd : rdD (innerP (restP r)) with
            | none =>
              have HD := Lib.hid (readDec_no (l := Lib.trimSuffix (Lib.trimPrefix (restP r) [40]) [41]) hd hsx)
              obtain rfl : R = none := by rw [HR.out, toP, if_pos hoff, if_neg hrest, hd]; rfl
              clear hd HR hoff hrest hDD hsx hsy
              obtain ⟨⟨v0, v1, v2, v3⟩, ⟨r0, r1, r2, r3⟩, ⟨e0, e1, e2, e3⟩, ⟨a0, a1, a2, a3⟩, b0, b1, b2, b3⟩ := H1.cells
              go_wp2_with ((go_at_call 70; (with_reducible refine (trimP_any _ _).mono ?_); rintro e w9 ⟨rfl, rfl⟩))
              (with_reducible refine (trimS_any _ _ HY.out).mono ?_)
              rintro e w9 ⟨rfl, rfl⟩
              clear H1 v0 v1 v2 v3 r0 r1 r2 r3 e0 e1 e2 e3 a0 a1 a2 a3 b0 b1 b2 b3
              go_wp2_with fail
              (with_reducible refine (HD.out _ (hg.past H3.q)).mono ?_)
              rintro e w2 ⟨rfl, hb⟩
              have H4 := H3.past hb
              clear hb
              obtain ⟨⟨v0, v1, v2, v3⟩, ⟨r0, r1, r2, r3⟩, ⟨e0, e1, e2, e3⟩, ⟨a0, a1, a2, a3⟩, b0, b1, b2, b3⟩ := H4.cells
              have hpz := H4.q
              have hlz := H4.l
              clear H4
              go_wp2_with fail
              exact bodyPost_ret (v := .tuple #[.agg #[.int .i64 0, .int .i64 0, .int .i64 0, .bool false], .bool false]) (by simp [r0, r1, r2, r3, results, Tryd.results51, go_sem]) rfl ⟨rfl, (by repeat (first | exact Past.refl _ | assumption | refine Past.alloc ?_ _ | refine Past.drew ?_ | refine Past.drewN ?_ _ | refine Past.setCell ?_ (by first | (simp; done) | (simp <;> omega)) _ | refine Past.trans ?_ (past_over _ _) | refine Past.trans ?_ (by assumption)))⟩
            | some n =>
              have HD := Lib.hid (readDec_yes (l := Lib.trimSuffix (Lib.trimPrefix (restP r) [40]) [41]) hd hsx)
              have HT := Lib.hid (show toP F r = some ⟨F, -1, n, false⟩ by rw [toP, if_pos hoff, if_neg hrest, hd]; rfl)
              clear hd hoff hrest hDD hsx hsy
              obtain ⟨⟨v0, v1, v2, v3⟩, ⟨r0, r1, r2, r3⟩, ⟨e0, e1, e2, e3⟩, ⟨a0, a1, a2, a3⟩, b0, b1, b2, b3⟩ := H1.cells
              go_wp2_with ((go_at_call 70; (with_reducible refine (trimP_any _ _).mono ?_); rintro e w9 ⟨rfl, rfl⟩))
              (with_reducible refine (trimS_any _ _ HY.out).mono ?_)
              rintro e w9 ⟨rfl, rfl⟩
              clear H1 v0 v1 v2 v3 r0 r1 r2 r3 e0 e1 e2 e3 a0 a1 a2 a3 b0 b1 b2 b3
              go_wp2_with fail
              (with_reducible refine (HD.out _ (hg.past H3.q)).mono ?_)
              rintro e w2 ⟨rfl, hb⟩
              have H4 := H3.past hb
              clear hb
              obtain ⟨⟨v0, v1, v2, v3⟩, ⟨r0, r1, r2, r3⟩, ⟨e0, e1, e2, e3⟩, ⟨a0, a1, a2, a3⟩, b0, b1, b2, b3⟩ := H4.cells
              go_wp2_with fail
              go_meet
              case rel => exact ⟨rfl, _, HT, H4.set2 n⟩
      case rest =>
        obtain ⟨rfl, ⟨f, t, d, x⟩, HT, H2⟩ := hcut
        replace HR : Hid (R = if tripOk p s st.data.toList ⟨f, t, d, x⟩ = true then some ⟨f, t, d, x⟩ else none) := Lib.hid (by rw [HR.out, HT.out])
        clear H1 HT
        simp only at H2
        cases hpl : plS p s f t d x
        · obtain rfl : R = none := by rw [HR.out, if_neg (by simp [tripOk, hpl])]
          have HP := Lib.hid (fun w => plainStep_any p c h s f t d x w hp hs)
          rw [hpl] at HP
          clear hpl HR
          obtain ⟨⟨v0, v1, v2, v3⟩, ⟨r0, r1, r2, r3⟩, ⟨e0, e1, e2, e3⟩, ⟨a0, a1, a2, a3⟩, b0, b1, b2, b3⟩ := H2.cells
          go_wp2_with fail
          (with_reducible refine (HP.out _).mono ?_)
          rintro e w3 ⟨rfl, hb⟩
          clear v0 v1 v2 v3 r0 r1 r2 r3 e0 e1 e2 e3 a0 a1 a2 a3 b0 b1 b2 b3
          have H3 := H2.past hb
          clear hb H2
          obtain ⟨⟨v0, v1, v2, v3⟩, ⟨r0, r1, r2, r3⟩, ⟨e0, e1, e2, e3⟩, ⟨a0, a1, a2, a3⟩, b0, b1, b2, b3⟩ := H3.cells
          have hpz := H3.q
          have hlz := H3.l
          clear H3
          go_wp2_with fail
          exact bodyPost_ret (v := .tuple #[.agg #[.int .i64 0, .int .i64 0, .int .i64 0, .bool false], .bool false]) (by simp [r0, r1, r2, r3, results, Tryd.results51, go_sem]) rfl ⟨rfl, (by repeat (first | exact Past.refl _ | assumption | refine Past.alloc ?_ _ | refine Past.drew ?_ | refine Past.drewN ?_ _ | refine Past.setCell ?_ (by first | (simp; done) | (simp <;> omega)) _ | refine Past.trans ?_ (past_over _ _) | refine Past.trans ?_ (by assumption)))⟩
        · have HP := Lib.hid (fun w => plainStep_any p c h s f t d x w hp hs)
          rw [hpl] at HP
          have HX := Lib.hid (fun w => stepText_any p c h s f t d x w hp hs hpl)
          have hT : stB p f t d x = bOf (stTxt p f t d x) := rfl
          generalize stB p f t d x = T at hT HX
          have HRT : R = if T = st then some ⟨f, t, d, x⟩ else none := by
            rw [HR.out]
            by_cases e : T = st
            · rw [if_pos e, if_pos (by simp only [tripOk, hpl, Bool.true_and, decide_eq_true_eq]; rw [← e, hT]; rfl)]
            · rw [if_neg e, if_neg]
              simp only [tripOk, hpl, Bool.true_and, decide_eq_true_eq]
              intro e2
              exact e (by rw [hT, e2]; rfl)
          clear hpl HR hT
          obtain ⟨⟨v0, v1, v2, v3⟩, ⟨r0, r1, r2, r3⟩, ⟨e0, e1, e2, e3⟩, ⟨a0, a1, a2, a3⟩, b0, b1, b2, b3⟩ := H2.cells
          by_cases he : T = st
          · obtain rfl : R = some ⟨f, t, d, x⟩ := by rw [HRT, if_pos he]
            have hq : (T.toList == st.toList) = true := by rw [he]; exact beq_self_eq_true _
            clear he HRT
            go_wp2_with fail
            (with_reducible refine (HP.out _).mono ?_)
            rintro e w3 ⟨rfl, hb⟩
            clear v0 v1 v2 v3 r0 r1 r2 r3 e0 e1 e2 e3 a0 a1 a2 a3 b0 b1 b2 b3
            have H3 := H2.past hb
            clear hb H2
            obtain ⟨⟨v0, v1, v2, v3⟩, ⟨r0, r1, r2, r3⟩, ⟨e0, e1, e2, e3⟩, ⟨a0, a1, a2, a3⟩, b0, b1, b2, b3⟩ := H3.cells
            go_wp2_with fail
            (with_reducible refine (HX.out _).mono ?_)
            rintro e w4 ⟨rfl, hb⟩
            clear v0 v1 v2 v3 r0 r1 r2 r3 e0 e1 e2 e3 a0 a1 a2 a3 b0 b1 b2 b3
            have H4 := H3.past hb
            clear hb H3
            obtain ⟨⟨v0, v1, v2, v3⟩, ⟨r0, r1, r2, r3⟩, ⟨e0, e1, e2, e3⟩, ⟨a0, a1, a2, a3⟩, b0, b1, b2, b3⟩ := H4.cells
            have hpz := H4.q
            have hlz := H4.l
            clear H4
            go_wp2_with fail
            exact bodyPost_ret (v := .tuple #[.agg #[.int .i64 f, .int .i64 t, .int .i64 d, .bool x], .bool true]) (by simp [r0, r1, r2, r3, results, Tryd.results51, go_sem]) rfl ⟨rfl, (by repeat (first | exact Past.refl _ | assumption | refine Past.alloc ?_ _ | refine Past.drew ?_ | refine Past.drewN ?_ _ | refine Past.setCell ?_ (by first | (simp; done) | (simp <;> omega)) _ | refine Past.trans ?_ (past_over _ _) | refine Past.trans ?_ (by assumption)))⟩
          · obtain rfl : R = none := by rw [HRT, if_neg he]
            have hq : (T.toList == st.toList) = false := strNe he
            clear he HRT
            go_wp2_with fail
            (with_reducible refine (HP.out _).mono ?_)
            rintro e w3 ⟨rfl, hb⟩
            clear v0 v1 v2 v3 r0 r1 r2 r3 e0 e1 e2 e3 a0 a1 a2 a3 b0 b1 b2 b3
            have H3 := H2.past hb
            clear hb H2
            obtain ⟨⟨v0, v1, v2, v3⟩, ⟨r0, r1, r2, r3⟩, ⟨e0, e1, e2, e3⟩, ⟨a0, a1, a2, a3⟩, b0, b1, b2, b3⟩ := H3.cells
            go_wp2_with fail
            (with_reducible refine (HX.out _).mono ?_)
            rintro e w4 ⟨rfl, hb⟩
            clear v0 v1 v2 v3 r0 r1 r2 r3 e0 e1 e2 e3 a0 a1 a2 a3 b0 b1 b2 b3
            have H4 := H3.past hb
            clear hb H3
            obtain ⟨⟨v0, v1, v2, v3⟩, ⟨r0, r1, r2, r3⟩, ⟨e0, e1, e2, e3⟩, ⟨a0, a1, a2, a3⟩, b0, b1, b2, b3⟩ := H4.cells
            have hpz := H4.q
            have hlz := H4.l
            clear H4
            go_wp2_with fail
            exact bodyPost_ret (v := .tuple #[.agg #[.int .i64 0, .int .i64 0, .int .i64 0, .bool false], .bool false]) (by simp [r0, r1, r2, r3, results, Tryd.results51, go_sem]) rfl ⟨rfl, (by repeat (first | exact Past.refl _ | assumption | refine Past.alloc ?_ _ | refine Past.drew ?_ | refine Past.drewN ?_ _ | refine Past.setCell ?_ (by first | (simp; done) | (simp <;> omega)) _ | refine Past.trans ?_ (past_over _ _) | refine Past.trans ?_ (by assumption)))⟩
end Go.Proofs.YtdcdjocjlicplaaDoor
