/-
  Contracts: the draws of a variant and of a variant's text; another code.
-/
import Derived.Test.YtdcdjocjlicplaaDoorDrawX
import Derived.Test.YtdcdjocjlicplaaDoorOther
import Derived.Test.YtdcdjocjlicplaaDoorTextW
namespace Go.Proofs.YtdcdjocjlicplaaDoor
open Go.ChangeShapes Go.WideShapes Go.ChangeAt Go.RowKit Go.Joins

set_option maxHeartbeats 1000000 in
theorem other1_any (A : Option Addr) (n k : Nat) (w : World) (hx : RdC w w.heap.size A n) (hk : A = none → n = 0 ∧ k = 0) (hn : n ≤ 4096) :
    Calls Tryd.prog 36 #[.slice A n k, .int .u8 1] w (OtherMade w n) := by
  obtain ⟨i0, hi, hz0, hz1, hz2⟩ := info_parts infoB
  obtain ⟨xs, h1, h2, h3⟩ := hx.list
  have hb : ∀ x ∈ [(1 : Int), 8, 3] ++ xs, 0 ≤ x ∧ x ≤ 255 := fun x hx => by
    rcases List.mem_append.1 hx with hx | hx
    · simp only [List.mem_cons, List.not_mem_nil, or_false] at hx
      omega
    · exact h2 x hx
  obtain ⟨w1, hw1⟩ : ∃ w1, w1 = w.alloc (.cells #[.int .u8 1, .int .u8 8, .int .u8 3] 5) := ⟨_, rfl⟩
  have hp1 : Past w w1 := by rw [hw1]; exact (by repeat (first | exact Past.refl _ | assumption | refine Past.alloc ?_ _ | refine Past.drew ?_ | refine Past.drewN ?_ _ | refine Past.setCell ?_ (by first | (simp; done) | (simp <;> omega)) _ | refine Past.trans ?_ (past_over _ _) | refine Past.trans ?_ (by assumption)))
  have ho1 : w1.ownsRow w.heap.size 5 1 (.slice (some ⟨w.heap.size, 0, none⟩) 3 3) 3 [.int .u8 1, .int .u8 8, .int .u8 3] := by rw [hw1]; exact World.ownsRow_lit w #[.int .u8 1, .int .u8 8, .int .u8 3] 3 (Nat.le_refl _) (by decide) rfl
  go_enter Tryd.func36, Tryd.ntmps36
  go_upto_region 2 with fail
  rw [← hw1]
  clear hw1
  cases A with
  | none =>
    obtain ⟨rfl, rfl⟩ := hk rfl
    obtain rfl : xs = [] := List.length_eq_zero_iff.1 h1
    obtain ⟨g, k', hv, hr⟩ := own_bytes (xs := [(1 : Int), 8, 3]) ho1 (by simp) (fun x hx => hb x (by simpa using hx))
    simp only [Value.slice.injEq, Option.some.injEq, Addr.mk.injEq, and_true, true_and] at hv
    obtain ⟨rfl, rfl⟩ := hv
    go_wp2_with (at_builtin; refine wpList_append_own_none rfl _ _ 52 rfl w.heap.size 5 i0 1 Tryd.underlying52 hi _ 3 _ rfl ho1 rfl ?_)
    go_ret
    exact ⟨_, _, rfl, hr, hp1⟩
  | some ad =>
    have hnews : ∀ j u, (xs.map (Value.int .u8))[j]? = some u → w1.cell? (ad.add j) = some u := by
      intro j u hj
      rw [List.getElem?_map] at hj
      cases hxj : xs[j]? with
      | none => rw [hxj] at hj; cases hj
      | some x =>
        rw [hxj] at hj
        simp only [Option.map_some, Option.some.injEq] at hj
        subst hj
        exact hp1.keep (h3 j x hxj ad rfl)
    have HN := Lib.hid hnews
    have HL := Lib.hid h1
    clear hnews h1 h3 h2
    go_wp2_with (at_builtin; refine wpList_append_own _ rfl _ _ 52 rfl w.heap.size 5 i0 (.int .u8 0) 1 1 Tryd.underlying52 hi hz0 hz1 hz2 rfl (by decide) _ 3 [.int .u8 1, .int .u8 8, .int .u8 3] rfl ho1 ad n k (xs.map (Value.int .u8)) rfl (by have := HL.out; simpa using this) HN.out (by intro u hu; simp only [List.mem_map] at hu; obtain ⟨_, _, rfl⟩ := hu; rfl) (by unfold maxLen; omega) (by omega) hp1.sz ?_; intro v2 w2 hown2 hg2 hiff)
    obtain ⟨g, k', rfl, hr⟩ := own_bytes (xs := [(1 : Int), 8, 3] ++ xs) (by rw [List.map_append]; exact hown2) (fun h => absurd (hiff.1 h).1 (fun h2 => by injection h2 with h2; cases h2)) hb
    go_ret
    exact ⟨_, _, rfl, hr, past_grown hp1 ho1 (Nat.le_refl _) hg2⟩
set_option maxHeartbeats 1000000 in
theorem other7_any (A : Option Addr) (n k : Nat) (w : World) (hx : RdC w w.heap.size A n) (hk : A = none → n = 0 ∧ k = 0) (hn : n ≤ 4096) :
    Calls Tryd.prog 36 #[.slice A n k, .int .u8 7] w (OtherMade w n) := by
  obtain ⟨i0, hi, hz0, hz1, hz2⟩ := info_parts infoB
  obtain ⟨xs, h1, h2, h3⟩ := hx.list
  have hb : ∀ x ∈ [(7 : Int), 14, 21] ++ xs, 0 ≤ x ∧ x ≤ 255 := fun x hx => by
    rcases List.mem_append.1 hx with hx | hx
    · simp only [List.mem_cons, List.not_mem_nil, or_false] at hx
      omega
    · exact h2 x hx
  obtain ⟨w1, hw1⟩ : ∃ w1, w1 = w.alloc (.cells #[.int .u8 7, .int .u8 14, .int .u8 21] 5) := ⟨_, rfl⟩
  have hp1 : Past w w1 := by rw [hw1]; exact (by repeat (first | exact Past.refl _ | assumption | refine Past.alloc ?_ _ | refine Past.drew ?_ | refine Past.drewN ?_ _ | refine Past.setCell ?_ (by first | (simp; done) | (simp <;> omega)) _ | refine Past.trans ?_ (past_over _ _) | refine Past.trans ?_ (by assumption)))
  have ho1 : w1.ownsRow w.heap.size 5 1 (.slice (some ⟨w.heap.size, 0, none⟩) 3 3) 3 [.int .u8 7, .int .u8 14, .int .u8 21] := by rw [hw1]; exact World.ownsRow_lit w #[.int .u8 7, .int .u8 14, .int .u8 21] 3 (Nat.le_refl _) (by decide) rfl
  go_enter Tryd.func36, Tryd.ntmps36
  go_upto_region 2 with fail
  rw [← hw1]
  clear hw1
  cases A with
  | none =>
    obtain ⟨rfl, rfl⟩ := hk rfl
    obtain rfl : xs = [] := List.length_eq_zero_iff.1 h1
    obtain ⟨g, k', hv, hr⟩ := own_bytes (xs := [(7 : Int), 14, 21]) ho1 (by simp) (fun x hx => hb x (by simpa using hx))
    simp only [Value.slice.injEq, Option.some.injEq, Addr.mk.injEq, and_true, true_and] at hv
    obtain ⟨rfl, rfl⟩ := hv
    go_wp2_with (at_builtin; refine wpList_append_own_none rfl _ _ 52 rfl w.heap.size 5 i0 1 Tryd.underlying52 hi _ 3 _ rfl ho1 rfl ?_)
    go_ret
    exact ⟨_, _, rfl, hr, hp1⟩
  | some ad =>
    have hnews : ∀ j u, (xs.map (Value.int .u8))[j]? = some u → w1.cell? (ad.add j) = some u := by
      intro j u hj
      rw [List.getElem?_map] at hj
      cases hxj : xs[j]? with
      | none => rw [hxj] at hj; cases hj
      | some x =>
        rw [hxj] at hj
        simp only [Option.map_some, Option.some.injEq] at hj
        subst hj
        exact hp1.keep (h3 j x hxj ad rfl)
    have HN := Lib.hid hnews
    have HL := Lib.hid h1
    clear hnews h1 h3 h2
    go_wp2_with (at_builtin; refine wpList_append_own _ rfl _ _ 52 rfl w.heap.size 5 i0 (.int .u8 0) 1 1 Tryd.underlying52 hi hz0 hz1 hz2 rfl (by decide) _ 3 [.int .u8 7, .int .u8 14, .int .u8 21] rfl ho1 ad n k (xs.map (Value.int .u8)) rfl (by have := HL.out; simpa using this) HN.out (by intro u hu; simp only [List.mem_map] at hu; obtain ⟨_, _, rfl⟩ := hu; rfl) (by unfold maxLen; omega) (by omega) hp1.sz ?_; intro v2 w2 hown2 hg2 hiff)
    obtain ⟨g, k', rfl, hr⟩ := own_bytes (xs := [(7 : Int), 14, 21] ++ xs) (by rw [List.map_append]; exact hown2) (fun h => absurd (hiff.1 h).1 (fun h2 => by injection h2 with h2; cases h2)) hb
    go_ret
    exact ⟨_, _, rfl, hr, past_grown hp1 ho1 (Nat.le_refl _) hg2⟩
theorem decs_le {p : Int} (h : 0 ≤ p) (h2 : p < 100) : (dec p).length ≤ 2 := by
  rw [dec_eq h h2, decT]
  split <;> simp
theorem vtB_size (p c h s : Int) : (vtB p c h s).size ≤ 20 := by
  have e : (vtB p c h s).size = (vText p c h s).length := List.size_toArray ..
  rw [e, vText]
  split
  · rename_i hv
    have h1 := vOk_yes hv
    have d1 := decs_le (p := p) (by omega) (by omega)
    have d2 := decs_le (p := c) (by omega) (by omega)
    have d3 := decs_le (p := h) (by omega) (by omega)
    have d4 := decs_le (p := s) (by omega) (by omega)
    unfold vTxt
    simp only [List.length_append, List.length_cons]
    omega
  · simp
theorem past_four {w x : World} {v0 v1 v2 v3 : Value} (h : Past w x) : Past w ((((x.setCell ⟨w.heap.size, 0, none⟩ v0).setCell ⟨w.heap.size, 1, none⟩ v1).setCell ⟨w.heap.size, 2, none⟩ v2).setCell ⟨w.heap.size, 3, none⟩ v3) :=
  (((h.setCell (p := ⟨w.heap.size, 0, none⟩) (Nat.le_refl _) v0).setCell (p := ⟨w.heap.size, 1, none⟩) (Nat.le_refl _) v1).setCell (p := ⟨w.heap.size, 2, none⟩) (Nat.le_refl _) v2).setCell (p := ⟨w.heap.size, 3, none⟩) (Nat.le_refl _) v3
def VarDrawn (w : World) (e : Ending) (w' : World) : Prop := ∃ p c h s, e = .returned (.agg #[.int .i64 p, .int .i64 c, .int .i64 h, .int .i64 s]) ∧ vBd p c h s ∧ Past w w'
def TextDrawn (w : World) (e : Ending) (w' : World) : Prop := ∃ tb, e = .returned (.string tb) ∧ tb.size ≤ 1000 ∧ Past w w'
set_option maxHeartbeats 1000000 in
set_option maxRecDepth 100000 in
theorem drawVText_any (A : Option Addr) (n k : Nat) (w : World) (hx : RdC w w.heap.size A n) (hn : n ≤ 5000) :
    Calls Tryd.prog 33 #[.slice A n k] w (VarDrawn w) := by
  obtain ⟨w0, hw0⟩ : ∃ w0, w0 = w.alloc (.cells #[.int .i64 0, .int .i64 0, .int .i64 0, .int .i64 0] 25) := ⟨_, rfl⟩
  have hR : Blk w0 w.heap.size 25 #[.int .i64 0, .int .i64 0, .int .i64 0, .int .i64 0] := by rw [hw0]; exact Blk.new _ _ _
  have hp0 : Past w w0 := by rw [hw0]; exact (by repeat (first | exact Past.refl _ | assumption | refine Past.alloc ?_ _ | refine Past.drew ?_ | refine Past.drewN ?_ _ | refine Past.setCell ?_ (by first | (simp; done) | (simp <;> omega)) _ | refine Past.trans ?_ (past_over _ _) | refine Past.trans ?_ (by assumption)))
  have hz0 := hR.lt
  go_enter Tryd.func33, Tryd.ntmps33
  go_upto_region 1 with fail
  rw [← hw0]
  clear hw0
  go_wp2_with fail
  (with_reducible refine (from_any _ _ _ _ (hx.past hp0 hp0.sz) hn).mono ?_)
  rintro e w1 ⟨g, rfl, hs1, hg1, hp1⟩
  have hR1 := hR.past hp1
  have zg := hs1.lt
  go_wp2_with fail
  (with_reducible refine (drawAny_any _ _ _ _ _ hs1).mono ?_)
  rintro e w2 ⟨p, c, h, s, rfl, hbd, h2⟩
  have hR2 := h2.blk hR1 (by omega)
  have hp2 : Past w w2 := h2.pastOf (hp0.trans hp1) (by omega)
  have r0 : w2.cell? ⟨w.heap.size, 0, none⟩ = some (.int .i64 0) := hR2.cell 0 rfl
  have r1 : w2.cell? ⟨w.heap.size, 1, none⟩ = some (.int .i64 0) := hR2.cell 1 rfl
  have r2 : w2.cell? ⟨w.heap.size, 2, none⟩ = some (.int .i64 0) := hR2.cell 2 rfl
  have r3 : w2.cell? ⟨w.heap.size, 3, none⟩ = some (.int .i64 0) := hR2.cell 3 rfl
  have f0 := hR2.free 0
  have f1 := hR2.free 1
  have f2 := hR2.free 2
  have f3 := hR2.free 3
  clear h2 hR hR1 hp1 hs1 hR2
  go_wp2_with fail
  exact bodyPost_ret (v := .agg #[.int .i64 p, .int .i64 c, .int .i64 h, .int .i64 s]) (by simp [r0, r1, r2, r3, results, Tryd.results33, go_sem]) rfl ⟨p, c, h, s, rfl, hbd, past_four hp2⟩
set_option maxHeartbeats 1000000 in
set_option maxRecDepth 100000 in
theorem drawRText_any (A : Option Addr) (n k : Nat) (w : World) (hx : RdC w w.heap.size A n) (hn : n ≤ 5000) :
    Calls Tryd.prog 35 #[.slice A n k] w (TextDrawn w) := by
  go_enter Tryd.func35, Tryd.ntmps35
  go_wp2_with fail
  (with_reducible refine (from_any _ _ _ _ hx hn).mono ?_)
  rintro e w1 ⟨g, rfl, hs1, hg1, hp1⟩
  go_wp2_with fail
  (with_reducible refine (drawAny_any _ _ _ _ _ hs1).mono ?_)
  rintro e w2 ⟨p, c, h, s, rfl, hbd, h2⟩
  have hs2 := h2.src
  have hp2 : Past w w2 := h2.pastOf hp1 hg1
  have hsz := vtB_size p c h s
  have hvt := fun w => sVariantText_any p c h s w
  generalize vtB p c h s = T at hsz hvt
  have HV := Lib.hid hvt
  clear hvt h2 hs1
  go_wp2_with fail
  (with_reducible refine (HV.out _).mono ?_)
  rintro e w3 ⟨rfl, hp3⟩
  have hs3 := hs2.past hp3
  go_wp2_with fail
  (with_reducible refine (damV_any _ _ _ _ _ hs3 _ (by omega)).mono ?_)
  rintro e w4 ⟨tc, rfl, htc, h4⟩
  have hp4 : Past w w4 := h4.pastOf (hp2.trans hp3) hg1
  clear h4 hs3 hs2
  go_wp2_with fail
  go_ret
  exact ⟨tc, rfl, by omega, hp4⟩
end Go.Proofs.YtdcdjocjlicplaaDoor
