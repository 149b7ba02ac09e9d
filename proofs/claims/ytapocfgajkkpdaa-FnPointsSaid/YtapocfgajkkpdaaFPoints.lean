/-
  The points of a board have together the checkers that are neither on the bar nor borne off: the plain law and the walk.
-/
import Derived.Test.YtapocfgajkkpdaaDrawN
import Derived.Test.YtapocfgajkkpdaaOpenC
import Derived.Test.YtapocfgajkkpdaaLook3
namespace Go.Proofs.Ytapocfgajkkpdaa
open Go.ChangeShapes Go.WideShapes Go.ChangeAt Go.RowKit Go.Joins

set_option maxHeartbeats 4000000 in
set_option maxRecDepth 100000 in
theorem FnPoints.walk (w : World) (A : Option Addr) (n k : Nat) (hx : RdC w w.heap.size A n) :
    Calls Try.prog 5 #[.slice A n k] w fun e w' => e = .returned (.bool true) ∧ Past w w' := by
  have hbig := fun w => big_any A n k w
  cases hd : decide (4096 < n)
  · rw [hd] at hbig
    have hn : n ≤ 5000 := by have := of_decide_eq_false hd; omega
    clear hd
    go_enter Try.func5, Try.ntmps5
    go_wp2_with (go_at_call 11; (with_reducible refine (hbig _).mono ?_); rintro e w9 ⟨rfl, rfl⟩)
    (with_reducible refine (drawPoint_any _ _ _ _ hx hn).mono ?_)
    rintro e w1 ⟨p, c, h, s, b1, n1, l1, X1, b2, n2, l2, X2, N, rfl, hbd, rd1, rd2, m1, m2, hp1⟩
    go_upto_region 4 with fail
    obtain ⟨wv, hwv⟩ : ∃ wv, wv = w1.alloc (.cells #[.int .i64 p, .int .i64 c, .int .i64 h, .int .i64 s] 25) := ⟨_, rfl⟩
    have hVv : Blk wv w1.heap.size 25 #[.int .i64 p, .int .i64 c, .int .i64 h, .int .i64 s] := by rw [hwv]; exact Blk.new _ _ _
    have zv : wv.heap.size = w1.heap.size + 1 := by rw [hwv]; simp
    have hpv : Past w1 wv := by rw [hwv]; exact (Past.refl w1).alloc _
    obtain ⟨w2, hw2⟩ : ∃ w2, w2 = wv.alloc (.cells #[.slice (some ⟨b1, 0, none⟩) n1 l1, .slice (some ⟨b2, 0, none⟩) n2 l2] 43) := ⟨_, rfl⟩
    rw [← hwv, ← hw2]
    have hB : Blk w2 (w1.heap.size + 1) 43 #[.slice (some ⟨b1, 0, none⟩) n1 l1, .slice (some ⟨b2, 0, none⟩) n2 l2] := by rw [hw2]; exact Blk.at_ zv.symm
    have hpw : Past wv w2 := by rw [hw2]; exact (Past.refl wv).alloc _
    have hV := hVv.past hpw
    have hp12 := hpv.trans hpw
    have hp2 : Past w w2 := hp1.trans hp12
    have q1 := rd1.past hp12
    have q2 := rd2.past hp12
    obtain ⟨b, hb⟩ : ∃ b, b = w1.heap.size := ⟨_, rfl⟩
    rw [← hb] at hV hB zv ⊢
    clear hw2 hwv hbig hx hb hp1 hVv hpv hpw hp12 rd1 rd2
    have c0 : w2.cell? ⟨b, 0, none⟩ = some (.int .i64 p) := hV.cell 0 rfl
    have c1 : w2.cell? ⟨b, 1, none⟩ = some (.int .i64 c) := hV.cell 1 rfl
    have c2 : w2.cell? ⟨b, 2, none⟩ = some (.int .i64 h) := hV.cell 2 rfl
    have c3 : w2.cell? ⟨b, 3, none⟩ = some (.int .i64 s) := hV.cell 3 rfl
    have c4 : w2.cell? ⟨b + 1, 0, none⟩ = some (.slice (some ⟨b1, 0, none⟩) n1 l1) := hB.cell 0 rfl
    have c5 : w2.cell? ⟨b + 1, 1, none⟩ = some (.slice (some ⟨b2, 0, none⟩) n2 l2) := hB.cell 1 rfl
    have hbz := hB.lt
    have hsib := fun w hx hy => sIsBoard_any p c h s (some ⟨b1, 0, none⟩) (some ⟨b2, 0, none⟩) n1 l1 n2 l2 X1 X2 w hx hy (by omega) (by omega)
    have hpc := fun i w hx hy => pointCount p c h s (some ⟨b1, 0, none⟩) (some ⟨b2, 0, none⟩) n1 l1 n2 l2 X1 X2 i w hx hy (by omega) (by omega)
    cases hok : bOk p c h s X1 X2
    · rw [hok] at hsib
      have hp0 := hpc 0
      rw [show pointF p c h s X1 X2 0 = 0 from by simp [pointF, hok]] at hp0
      go_wp2_with fail
      (with_reducible refine (hsib _ q1 q2).mono ?_)
      rintro e w3 ⟨rfl, hp3⟩
      replace c0 := hp3.keep c0
      replace c1 := hp3.keep c1
      replace c2 := hp3.keep c2
      replace c3 := hp3.keep c3
      replace c4 := hp3.keep c4
      replace c5 := hp3.keep c5
      go_wp2_with fail
      (with_reducible refine (hp0 _ (q1.past hp3) (q2.past hp3)).mono ?_)
      rintro e w4 ⟨rfl, hp4⟩
      go_wp2
      go_ret
      exact ⟨rfl, hp2.trans (hp3.trans hp4)⟩
    · obtain ⟨hv, hx1, hx2, hsum, hap⟩ := bOk_yes hok
      obtain ⟨hv1, hv2, _, _⟩ := vOk_yes hv
      obtain ⟨P, rfl⟩ := Int.eq_ofNat_of_zero_le (show 0 ≤ p from by omega)
      obtain ⟨e1, e2, e3⟩ := sOk_yes hx1
      obtain ⟨f1, f2, f3⟩ := sOk_yes hx2
      have hl1 : X1.length = P + 1 := by omega
      have hl2 : X2.length = P + 1 := by omega
      have hn1 : n1 = P + 1 := by rw [← q1.1]; exact hl1
      have hn2 : n2 = P + 1 := by rw [← q2.1]; exact hl2
      have HN1 := Lib.hid hn1
      have HN2 := Lib.hid hn2
      clear hn1 hn2
      have hob := fun w hx hy => borneOff (P : Int) c h s (some ⟨b1, 0, none⟩) (some ⟨b2, 0, none⟩) n1 l1 n2 l2 X1 X2 w hx hy (by omega) (by omega)
      rw [show offF (P : Int) c h s X1 X2 = c - X1.sum from if_pos hok, show offG (P : Int) c h s X1 X2 = c - X2.sum from if_pos hok] at hob
      rw [hok] at hsib
      have HAP := Lib.hid hap
      have HE2 := Lib.hid e2
      have HF2 := Lib.hid f2
      have HL1 := Lib.hid hl1
      have HL2 := Lib.hid hl2
      have HOK := Lib.hid hok
      clear hap e1 e2 f1 f2 hl1 hl2 hx1 hx2 hok hv
      go_wp2_with fail
      (with_reducible refine (hsib _ q1 q2).mono ?_)
      rintro e w3 ⟨rfl, hp3⟩
      replace c0 := hp3.keep c0
      replace c1 := hp3.keep c1
      replace c2 := hp3.keep c2
      replace c3 := hp3.keep c3
      replace c4 := hp3.keep c4
      replace c5 := hp3.keep c5
      have r1 := q1.past hp3
      have r2 := q2.past hp3
      have hpw := hp2.trans hp3
      clear q1 q2 hp2 hp3 hsib hV hB
      go_wp2_with fail
      go_loopw [6, 7, 8, 9] (fun u v i _ wr => ∃ j : Nat, j ≤ P ∧ i = .int .i64 (j : Int) ∧ u = .int .i64 (X1.take j).sum ∧ v = .int .i64 ((X2.take P).sum - (X2.take (P - j)).sum) ∧ Past w3 wr) (fun _ _ i _ _ => P - (intOf i).toNat)
      case atStart => exact ⟨0, Nat.zero_le _, rfl, rfl, by simp, Past.refl _⟩
      case round =>
        obtain ⟨j, hj, rfl, rfl, rfl, hp⟩ := hrel
        have d0 := hp.keep c0
        have d1 := hp.keep c1
        have d2 := hp.keep c2
        have d3 := hp.keep c3
        have d4 := hp.keep c4
        have d5 := hp.keep c5
        have s1 := sum_take_le HE2.out j
        have s2 := sum_take_le HF2.out P
        have s3 := sum_take_le HF2.out (P - j)
        by_cases hlt : j < P
        · have i1 : (j : Int) < (P : Int) := by omega
          obtain ⟨x, hx⟩ : ∃ x, X1[j]? = some x := ⟨_, List.getElem?_eq_getElem (by have := HL1.out; omega)⟩
          obtain ⟨y, hy⟩ : ∃ y, X2[P - 1 - j]? = some y := ⟨_, List.getElem?_eq_getElem (by have := HL2.out; omega)⟩
          have x0 := HE2.out x (mem_of_get hx)
          have y0 := HF2.out y (mem_of_get hy)
          have xs := mem_le_sum HE2.out (mem_of_get hx)
          have ys := mem_le_sum HF2.out (mem_of_get hy)
          have hno := of_decide_eq_true HAP.out j (by omega)
          rw [Int.toNat_natCast, getD_of hx, getD_of hy] at hno
          have t1 := sum_take_succ hx
          have t2 := sum_take_succ hy
          rw [show P - 1 - j + 1 = P - j from by omega] at t2
          have hpj := fun w hx hy => hpc (j : Int) w hx hy
          rw [show pointF (P : Int) c h s X1 X2 (j : Int) = x - y from by
            rw [pointF, if_pos (by rw [HOK.out]; exact win_mk ⟨by omega, by omega⟩), Int.toNat_natCast, Int.toNat_natCast, getD_of hx, getD_of hy]] at hpj
          have HT1 := Lib.hid t1
          have HT2 : Hid ((X2.take P).sum - (X2.take (P - (j + 1))).sum = (X2.take P).sum - (X2.take (P - j)).sum + y) := Lib.hid (by rw [show P - (j + 1) = P - 1 - j from by omega]; omega)
          have s4 := sum_take_le HE2.out (j + 1)
          rw [t1] at s4
          clear hx hy t1 t2
          obtain ⟨A1, hA1⟩ : ∃ A, A = (X1.take j).sum := ⟨_, rfl⟩
          obtain ⟨A2, hA2⟩ : ∃ A, A = (X2.take P).sum - (X2.take (P - j)).sum := ⟨_, rfl⟩
          rw [← hA1] at HT1 s1 s4 ⊢
          rw [← hA2] at HT2 ⊢
          have HPJ := Lib.hid hpj
          clear hpj
          go_wp2_with fail
          (with_reducible refine (HPJ.out _ (r1.past hp) (r2.past hp)).mono ?_)
          rintro e w4 ⟨rfl, hp4⟩
          by_cases hxp : 0 < x
          · have hy0 : y = 0 := by omega
            subst hy0
            go_wp2_with fail
            go_roundw
            case rel => exact ⟨j + 1, by omega, by go_num, by rw [HT1.out]; go_num, by rw [HT2.out]; go_num, hp.trans hp4⟩
            case measure => simp [intOf]; omega
          · have hx0 : x = 0 := by omega
            subst hx0
            have hny : ¬ 0 < 0 - y := by omega
            go_wp2_with fail
            go_roundw
            case rel => exact ⟨j + 1, by omega, by go_num, by rw [HT1.out]; go_num, by rw [HT2.out]; go_num, hp.trans hp4⟩
            case measure => simp [intOf]; omega
        · obtain rfl : j = P := by omega
          have i1 : ¬ (j : Int) < (j : Int) := by omega
          rw [Nat.sub_self, List.take_zero]
          obtain ⟨xe, hxe⟩ : ∃ x, X1[j]? = some x := ⟨_, List.getElem?_eq_getElem (by have := HL1.out; omega)⟩
          obtain ⟨ye, hye⟩ : ∃ y, X2[j]? = some y := ⟨_, List.getElem?_eq_getElem (by have := HL2.out; omega)⟩
          have t1 := sum_take_succ hxe
          have t2 := sum_take_succ hye
          rw [List.take_of_length_le (by have := HL1.out; omega)] at t1
          rw [List.take_of_length_le (by have := HL2.out; omega)] at t2
          have x0 := HE2.out xe (mem_of_get hxe)
          have y0 := HF2.out ye (mem_of_get hye)
          have HXE := Lib.hid hxe
          have HYE := Lib.hid hye
          have HOB := Lib.hid hob
          clear hxe hye hob
          have hs0 : ([] : List Int).sum = 0 := rfl
          rw [hs0, Int.sub_zero]
          obtain ⟨A1, hA1⟩ : ∃ A, A = (X1.take j).sum := ⟨_, rfl⟩
          obtain ⟨A2, hA2⟩ : ∃ A, A = (X2.take j).sum := ⟨_, rfl⟩
          obtain ⟨T1, hT1⟩ : ∃ T, T = X1.sum := ⟨_, rfl⟩
          obtain ⟨T2, hT2⟩ : ∃ T, T = X2.sum := ⟨_, rfl⟩
          rw [← hA1, ← hT1] at t1
          rw [← hA2, ← hT2] at t2
          rw [← hA1] at s1 ⊢
          rw [← hA2] at s2 ⊢
          rw [← hT1] at s1
          rw [← hT2] at s2
          rw [← hT1] at e3
          rw [← hT2] at f3
          rw [← hT1, ← hT2] at HOB
          have g1 : (A1 + xe + (c - T1) == c) = true := by rw [beq_iff_eq]; omega
          have g2 : (A2 + ye + (c - T2) == c) = true := by rw [beq_iff_eq]; omega
          have xb : xe ≤ 15 := by omega
          have yb : ye ≤ 15 := by omega
          clear hA1 hA2 hT1 hT2 s3
          go_wp2_with fail
          (with_reducible refine (HOB.out _ (r1.past hp) (r2.past hp)).mono ?_)
          rintro e w4 ⟨rfl, hp4⟩
          have ra := (r1.past hp).past hp4
          have rb := (r2.past hp).past hp4
          obtain ⟨z1, z2, z3, z4, z5, z6⟩ := ra.at_ (show j < n1 by have := HN1.out; omega)
          obtain ⟨u1, u2, u3, u4, u5, u6⟩ := rb.at_ (show j < n2 by have := HN2.out; omega)
          simp only [Option.some.injEq, Addr.mk.injEq, and_true] at z4 u4
          obtain ⟨rfl, rfl⟩ := z4
          obtain ⟨rfl, rfl⟩ := u4
          rw [HXE.out] at z5
          rw [HYE.out] at u5
          obtain rfl := Option.some.inj z5
          obtain rfl := Option.some.inj u5
          have i2 : (j : Int) < (n1 : Int) := by have := HN1.out; omega
          have i4 : (j : Int) < (n2 : Int) := by have := HN2.out; omega
          have i3 : (0 : Int) ≤ (j : Int) := by omega
          replace d0 := hp4.keep d0
          replace d1 := hp4.keep d1
          replace d4 := hp4.keep d4
          replace d5 := hp4.keep d5
          rw [Nat.zero_add] at z6 u6
          clear z5 u5 t1 t2
          go_wp2_with fail
          go_quiet (fail)
          have hp5 : Past w (w4.drewN nq) := (hpw.trans (hp.trans hp4)).drewN nq
          generalize w4.drewN nq = w5 at hp5 ⊢
          go_wp2_with fail
          go_ret
          exact ⟨rfl, hp5⟩
  · rw [hd] at hbig
    go_enter Try.func5, Try.ntmps5
    go_wp2_with (go_at_call 11; (with_reducible refine (hbig _).mono ?_); rintro e w9 ⟨rfl, rfl⟩)
    go_ret
    exact ⟨rfl, Past.refl _⟩
end Go.Proofs.Ytapocfgajkkpdaa
