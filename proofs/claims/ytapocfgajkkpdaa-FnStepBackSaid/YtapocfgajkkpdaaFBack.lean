/-
  A legal step can be undone: the walk.
-/
import Derived.Test.YtapocfgajkkpdaaDrawA
import Derived.Test.YtapocfgajkkpdaaBack
import Derived.Test.YtapocfgajkkpdaaOpenC
import Derived.Test.YtapocfgajkkpdaaLike
import Derived.Test.YtapocfgajkkpdaaLook3
namespace Go.Proofs.Ytapocfgajkkpdaa
open Go.ChangeShapes Go.WideShapes Go.ChangeAt Go.RowKit Go.Joins

set_option maxHeartbeats 4000000 in
set_option maxRecDepth 100000 in
theorem FnStepBack.walk (w : World) (A : Option Addr) (n k : Nat) (hx : RdC w w.heap.size A n) :
    Calls Try.prog 9 #[.slice A n k] w fun e w' => e = .returned (.bool true) ∧ Past w w' := by
  have hbig := fun w => big_any A n k w
  cases hd : decide (4096 < n)
  · rw [hd] at hbig
    have hn : n ≤ 5000 := by have := of_decide_eq_false hd; omega
    clear hd
    go_enter Try.func9, Try.ntmps9
    go_wp2_with (go_at_call 11; (with_reducible refine (hbig _).mono ?_); rintro e w9 ⟨rfl, rfl⟩)
    (with_reducible refine (drawApply_any _ _ _ _ hx hn).mono ?_)
    rintro e w1 ⟨p, c, h, s, b1, n1, l1, X1, b2, n2, l2, X2, kf, kt, kd, kx, rfl, hbd, rd1, rd2, m1, m2, hp1⟩
    go_upto_region 4 with fail
    obtain ⟨wv, hwv⟩ : ∃ wv, wv = w1.alloc (.cells #[.int .i64 p, .int .i64 c, .int .i64 h, .int .i64 s] 25) := ⟨_, rfl⟩
    have hVv : Blk wv w1.heap.size 25 #[.int .i64 p, .int .i64 c, .int .i64 h, .int .i64 s] := by rw [hwv]; exact Blk.new _ _ _
    have zv : wv.heap.size = w1.heap.size + 1 := by rw [hwv]; simp
    have hpv : Past w1 wv := by rw [hwv]; exact (Past.refl w1).alloc _
    obtain ⟨wb, hwb⟩ : ∃ w2, w2 = wv.alloc (.cells #[.slice (some ⟨b1, 0, none⟩) n1 l1, .slice (some ⟨b2, 0, none⟩) n2 l2] 43) := ⟨_, rfl⟩
    have hBb : Blk wb (w1.heap.size + 1) 43 #[.slice (some ⟨b1, 0, none⟩) n1 l1, .slice (some ⟨b2, 0, none⟩) n2 l2] := by rw [hwb]; exact Blk.at_ zv.symm
    have hpw : Past wv wb := by rw [hwb]; exact (Past.refl wv).alloc _
    have zb : wb.heap.size = w1.heap.size + 1 + 1 := by rw [hwb]; simp [zv]
    obtain ⟨w2, hw2⟩ : ∃ w2, w2 = wb.alloc (.cells #[.int .i64 kf, .int .i64 kt, .int .i64 kd, .bool kx] 66) := ⟨_, rfl⟩
    rw [← hwv, ← hwb, ← hw2]
    have hS : Blk w2 (w1.heap.size + 1 + 1) 66 #[.int .i64 kf, .int .i64 kt, .int .i64 kd, .bool kx] := by rw [hw2]; exact Blk.at_ zb.symm
    have hps : Past wb w2 := by rw [hw2]; exact (Past.refl wb).alloc _
    have hV := (hVv.past hpw).past hps
    have hB := hBb.past hps
    have hp12 := hpv.trans (hpw.trans hps)
    have hp2 : Past w w2 := hp1.trans hp12
    have q1 := rd1.past hp12
    have q2 := rd2.past hp12
    obtain ⟨b, hb⟩ : ∃ b, b = w1.heap.size := ⟨_, rfl⟩
    rw [← hb] at hV hB hS zv ⊢
    clear hw2 hwv hwb hbig hx hb hp1 hVv hBb hpv hpw hps zb hp12 rd1 rd2
    have c0 : w2.cell? ⟨b, 0, none⟩ = some (.int .i64 p) := hV.cell 0 rfl
    have c1 : w2.cell? ⟨b, 1, none⟩ = some (.int .i64 c) := hV.cell 1 rfl
    have c2 : w2.cell? ⟨b, 2, none⟩ = some (.int .i64 h) := hV.cell 2 rfl
    have c3 : w2.cell? ⟨b, 3, none⟩ = some (.int .i64 s) := hV.cell 3 rfl
    have c4 : w2.cell? ⟨b + 1, 0, none⟩ = some (.slice (some ⟨b1, 0, none⟩) n1 l1) := hB.cell 0 rfl
    have c5 : w2.cell? ⟨b + 1, 1, none⟩ = some (.slice (some ⟨b2, 0, none⟩) n2 l2) := hB.cell 1 rfl
    have c6 : w2.cell? ⟨b + 1 + 1, 0, none⟩ = some (.int .i64 kf) := hS.cell 0 rfl
    have c7 : w2.cell? ⟨b + 1 + 1, 1, none⟩ = some (.int .i64 kt) := hS.cell 1 rfl
    have c8 : w2.cell? ⟨b + 1 + 1, 2, none⟩ = some (.int .i64 kd) := hS.cell 2 rfl
    have c9 : w2.cell? ⟨b + 1 + 1, 3, none⟩ = some (.bool kx) := hS.cell 3 rfl
    have hbz := hS.lt
    have hap := fun w hx hy => applyStep_any p c h s kf kt kd kx b1 0 b2 0 n1 l1 n2 l2 X1 X2 w hx hy (by omega) (by omega)
    have hsp := fun w hx hy => sApplyStep_any p c h s kf kt kd kx b1 0 b2 0 n1 l1 n2 l2 X1 X2 w hx hy (by omega) (by omega)
    have hil := fun w hx hy => isLegal p c h s kf kt kd kx (some ⟨b1, 0, none⟩) (some ⟨b2, 0, none⟩) n1 l1 n2 l2 X1 X2 w hx hy (by omega) (by omega)
    cases hok : apOk p c h s X1 X2 ⟨kf, kt, kd, kx⟩
    · obtain ⟨K, hK, hK0⟩ : ∃ K, apC p c h s X1 X2 ⟨kf, kt, kd, kx⟩ = K ∧ (K = 1 ∨ K = 5) := by
        unfold apC
        split
        · rename_i hb
          split
          · rename_i hw
            exfalso
            simp only [apOk, hb, hw, Bool.and_true] at hok
            cases hok
          · exact ⟨5, rfl, .inr rfl⟩
        · exact ⟨1, rfl, .inl rfl⟩
      rw [show apL p c h s X1 X2 ⟨kf, kt, kd, kx⟩ = [] from by simp [apL, hok], show apM p c h s X1 X2 ⟨kf, kt, kd, kx⟩ = [] from by simp [apM, hok], hK] at hap hsp
      rw [show isLegF p c h s X1 X2 ⟨kf, kt, kd, kx⟩ = false from hok] at hil
      clear hK
      go_wp2_with fail
      (with_reducible refine (hap _ q1 q2).mono ?_)
      rintro e w3 ⟨A3, k3, D3, l3, rfl, hval3, hp3⟩
      replace c0 := hp3.keep c0
      replace c1 := hp3.keep c1
      replace c2 := hp3.keep c2
      replace c3 := hp3.keep c3
      replace c4 := hp3.keep c4
      replace c5 := hp3.keep c5
      replace c6 := hp3.keep c6
      replace c7 := hp3.keep c7
      replace c8 := hp3.keep c8
      replace c9 := hp3.keep c9
      clear hval3
      replace q1 := q1.past hp3
      replace q2 := q2.past hp3
      go_upto_region 5 with fail
      obtain ⟨w4, hw_⟩ : ∃ x, x = w3.alloc (.cells #[.slice A3 0 k3, .slice D3 0 l3] 43) := ⟨_, rfl⟩
      rw [← hw_]
      have hC3 : Blk w4 w3.heap.size 43 #[.slice A3 0 k3, .slice D3 0 l3] := by rw [hw_]; exact Blk.new _ _ _
      have hp4 : Past w3 w4 := by rw [hw_]; exact (Past.refl w3).alloc _
      obtain ⟨bC, hb_⟩ : ∃ b, b = w3.heap.size := ⟨_, rfl⟩
      rw [← hb_] at hC3 ⊢
      clear hw_ hb_
      replace c0 := hp4.keep c0
      replace c1 := hp4.keep c1
      replace c2 := hp4.keep c2
      replace c3 := hp4.keep c3
      replace c4 := hp4.keep c4
      replace c5 := hp4.keep c5
      replace c6 := hp4.keep c6
      replace c7 := hp4.keep c7
      replace c8 := hp4.keep c8
      replace c9 := hp4.keep c9
      have c10 : w4.cell? ⟨bC, 0, none⟩ = some (.slice A3 0 k3) := hC3.cell 0 rfl
      have c11 : w4.cell? ⟨bC, 1, none⟩ = some (.slice D3 0 l3) := hC3.cell 1 rfl
      clear hC3
      replace q1 := q1.past hp4
      replace q2 := q2.past hp4
      go_wp2_with fail
      (with_reducible refine (hsp _ q1 q2).mono ?_)
      rintro e w5 ⟨A5, k5, D5, l5, rfl, hval5, hp5⟩
      replace c0 := hp5.keep c0
      replace c1 := hp5.keep c1
      replace c2 := hp5.keep c2
      replace c3 := hp5.keep c3
      replace c4 := hp5.keep c4
      replace c5 := hp5.keep c5
      replace c6 := hp5.keep c6
      replace c7 := hp5.keep c7
      replace c8 := hp5.keep c8
      replace c9 := hp5.keep c9
      replace c10 := hp5.keep c10
      replace c11 := hp5.keep c11
      clear hval5
      replace q1 := q1.past hp5
      replace q2 := q2.past hp5
      go_upto_region 6 with fail
      obtain ⟨w6, hw_⟩ : ∃ x, x = w5.alloc (.cells #[.slice A5 0 k5, .slice D5 0 l5] 43) := ⟨_, rfl⟩
      rw [← hw_]
      have hC5 : Blk w6 w5.heap.size 43 #[.slice A5 0 k5, .slice D5 0 l5] := by rw [hw_]; exact Blk.new _ _ _
      have hp6 : Past w5 w6 := by rw [hw_]; exact (Past.refl w5).alloc _
      obtain ⟨bD, hb_⟩ : ∃ b, b = w5.heap.size := ⟨_, rfl⟩
      rw [← hb_] at hC5 ⊢
      clear hw_ hb_
      replace c0 := hp6.keep c0
      replace c1 := hp6.keep c1
      replace c2 := hp6.keep c2
      replace c3 := hp6.keep c3
      replace c4 := hp6.keep c4
      replace c5 := hp6.keep c5
      replace c6 := hp6.keep c6
      replace c7 := hp6.keep c7
      replace c8 := hp6.keep c8
      replace c9 := hp6.keep c9
      replace c10 := hp6.keep c10
      replace c11 := hp6.keep c11
      clear hC5
      replace q1 := q1.past hp6
      replace q2 := q2.past hp6
      have hpw : Past w w6 := hp2.trans (hp3.trans (hp4.trans (hp5.trans hp6)))
      rcases hK0 with rfl | rfl
      · go_wp2_with fail
        (with_reducible refine (hil _ q1 q2).mono ?_)
        rintro e w7 ⟨rfl, hp7⟩
        go_wp2_with fail
        go_ret
        exact ⟨rfl, hpw.trans hp7⟩
      · go_wp2_with fail
        (with_reducible refine (hil _ q1 q2).mono ?_)
        rintro e w7 ⟨rfl, hp7⟩
        go_wp2_with fail
        go_ret
        exact ⟨rfl, hpw.trans hp7⟩
    · have hok2 := hok
      simp only [apOk, Bool.and_eq_true] at hok2
      obtain ⟨hb, hg⟩ := hok2
      obtain ⟨hv, hx1, hx2, _, _⟩ := bOk_yes hb
      obtain ⟨hv1, hv2, hv3, hv4⟩ := vOk_yes hv
      obtain ⟨P, rfl⟩ := Int.eq_ofNat_of_zero_le (show 0 ≤ p from by omega)
      have lx := (sOk_yes hx1).1
      have ly := (sOk_yes hx2).1
      have e1 := q1.1
      have e2 := q2.1
      have HN1 := Lib.hid (show n1 = P + 1 by omega)
      have HN2 := Lib.hid (show n2 = P + 1 by omega)
      have hn0 : 0 < n1 ∧ 0 < n2 := by omega
      have hk1 : apC (P : Int) c h s X1 X2 ⟨kf, kt, kd, kx⟩ = 0 := by simp [apC, hb, hg]
      rw [show apL (P : Int) c h s X1 X2 ⟨kf, kt, kd, kx⟩ = apX X1 ⟨kf, kt, kd, kx⟩ from by simp [apL, hok], show apM (P : Int) c h s X1 X2 ⟨kf, kt, kd, kx⟩ = apY (P : Int) X2 ⟨kf, kt, kd, kx⟩ from by simp [apM, hok], hk1] at hap hsp
      rw [show isLegF (P : Int) c h s X1 X2 ⟨kf, kt, kd, kx⟩ = true from hok] at hil
      have hu := undo_ok hb hg
      have hxx := back_x (ys := X2) (h := h) (s := s) lx hg
      have hyy := back_y (xs := X1) (h := h) (s := s) ly hg
      have hao := after_ok hb hg
      have hps := pips_step hb hg
      have la : (apX X1 ⟨kf, kt, kd, kx⟩).length = n1 := by rw [apX_len]; exact e1
      have lb : (apY (P : Int) X2 ⟨kf, kt, kd, kx⟩).length = n2 := by rw [apY_len]; exact e2
      have hpb := fun w hx hy => pipCounts (P : Int) c h s (some ⟨b1, 0, none⟩) (some ⟨b2, 0, none⟩) n1 l1 n2 l2 X1 X2 w hx hy (by omega) (by omega)
      rw [show pipCF (P : Int) c h s X1 X2 = pipsF X1 from if_pos hb, show pipCG (P : Int) c h s X1 X2 = pipsF X2 from if_pos hb] at hpb
      have hbd1 := pipsTo_bd (le15 (sOk_yes hx1).2.1 (sOk_yes hx1).2.2 hv2.2) (Nat.le_refl _) (show X1.length ≤ 25 by omega)
      have hbd2 := pipsTo_bd (le15 (sOk_yes hx2).2.1 (sOk_yes hx2).2.2 hv2.2) (Nat.le_refl _) (show X2.length ≤ 25 by omega)
      have hgY := gAt_nonneg (sOk_yes hx2).2.1 (P : Int)
      have hgZ := gAt_le (sOk_yes hx2).2.1 (P : Int)
      have hcs := (sOk_yes hx2).2.2
      have hkd := (leg_shape hg).1
      obtain ⟨Y1, hY1⟩ : ∃ Y, Y = apX X1 ⟨kf, kt, kd, kx⟩ := ⟨_, rfl⟩
      obtain ⟨Y2, hY2⟩ : ∃ Y, Y = apY (P : Int) X2 ⟨kf, kt, kd, kx⟩ := ⟨_, rfl⟩
      rw [← hY1, ← hY2] at hap hsp hu hao hps
      rw [← hY1] at hxx la
      rw [← hY2] at hyy lb
      have HLA := Lib.hid la
      have HLB := Lib.hid lb
      have HPS := Lib.hid hps
      have HU := Lib.hid hu
      have HXX := Lib.hid hxx
      have HYY := Lib.hid hyy
      have HAO := Lib.hid hao
      clear hok hb hg hv hx1 hx2 lx ly e1 e2 hk1 hu hxx hyy hao hps la lb hY1 hY2
      go_wp2_with fail
      (with_reducible refine (hap _ q1 q2).mono ?_)
      rintro e w3 ⟨A3, k3, D3, l3, rfl, hval3, hp3⟩
      replace c0 := hp3.keep c0
      replace c1 := hp3.keep c1
      replace c2 := hp3.keep c2
      replace c3 := hp3.keep c3
      replace c4 := hp3.keep c4
      replace c5 := hp3.keep c5
      replace c6 := hp3.keep c6
      replace c7 := hp3.keep c7
      replace c8 := hp3.keep c8
      replace c9 := hp3.keep c9
      obtain ⟨ha3, hb3, _⟩ := hval3
      rw [HLA.out] at ha3
      rw [HLB.out] at hb3
      obtain ⟨b3, rfl⟩ := OwI.addr ha3 (by omega)
      obtain ⟨b4, rfl⟩ := OwI.addr hb3 (by omega)
      rw [HLA.out, HLB.out]
      replace q1 := q1.past hp3
      replace q2 := q2.past hp3
      go_upto_region 5 with fail
      obtain ⟨w4, hw_⟩ : ∃ x, x = w3.alloc (.cells #[.slice (some ⟨b3, 0, none⟩) n1 k3, .slice (some ⟨b4, 0, none⟩) n2 l3] 43) := ⟨_, rfl⟩
      rw [← hw_]
      have hC3 : Blk w4 w3.heap.size 43 #[.slice (some ⟨b3, 0, none⟩) n1 k3, .slice (some ⟨b4, 0, none⟩) n2 l3] := by rw [hw_]; exact Blk.new _ _ _
      have hp4 : Past w3 w4 := by rw [hw_]; exact (Past.refl w3).alloc _
      obtain ⟨bC, hb_⟩ : ∃ b, b = w3.heap.size := ⟨_, rfl⟩
      rw [← hb_] at hC3 ⊢
      clear hw_ hb_
      replace c0 := hp4.keep c0
      replace c1 := hp4.keep c1
      replace c2 := hp4.keep c2
      replace c3 := hp4.keep c3
      replace c4 := hp4.keep c4
      replace c5 := hp4.keep c5
      replace c6 := hp4.keep c6
      replace c7 := hp4.keep c7
      replace c8 := hp4.keep c8
      replace c9 := hp4.keep c9
      have c10 : w4.cell? ⟨bC, 0, none⟩ = some (.slice (some ⟨b3, 0, none⟩) n1 k3) := hC3.cell 0 rfl
      have c11 : w4.cell? ⟨bC, 1, none⟩ = some (.slice (some ⟨b4, 0, none⟩) n2 l3) := hC3.cell 1 rfl
      clear hC3
      replace q1 := q1.past hp4
      replace q2 := q2.past hp4
      have q3 := ha3.rd.past hp4
      have q4 := hb3.rd.past hp4
      clear ha3 hb3
      go_wp2_with fail
      (with_reducible refine (hsp _ q1 q2).mono ?_)
      rintro e w5 ⟨A5, k5, D5, l5, rfl, hval5, hp5⟩
      replace c0 := hp5.keep c0
      replace c1 := hp5.keep c1
      replace c2 := hp5.keep c2
      replace c3 := hp5.keep c3
      replace c4 := hp5.keep c4
      replace c5 := hp5.keep c5
      replace c6 := hp5.keep c6
      replace c7 := hp5.keep c7
      replace c8 := hp5.keep c8
      replace c9 := hp5.keep c9
      replace c10 := hp5.keep c10
      replace c11 := hp5.keep c11
      obtain ⟨ha5, hb5, _⟩ := hval5
      rw [HLA.out] at ha5
      rw [HLB.out] at hb5
      obtain ⟨b5, rfl⟩ := OwI.addr ha5 (by omega)
      obtain ⟨b6, rfl⟩ := OwI.addr hb5 (by omega)
      rw [HLA.out, HLB.out]
      clear ha5 hb5
      replace q1 := q1.past hp5
      replace q2 := q2.past hp5
      replace q3 := q3.past hp5
      replace q4 := q4.past hp5
      go_upto_region 6 with fail
      obtain ⟨w6, hw_⟩ : ∃ x, x = w5.alloc (.cells #[.slice (some ⟨b5, 0, none⟩) n1 k5, .slice (some ⟨b6, 0, none⟩) n2 l5] 43) := ⟨_, rfl⟩
      rw [← hw_]
      have hC5 : Blk w6 w5.heap.size 43 #[.slice (some ⟨b5, 0, none⟩) n1 k5, .slice (some ⟨b6, 0, none⟩) n2 l5] := by rw [hw_]; exact Blk.new _ _ _
      have hp6 : Past w5 w6 := by rw [hw_]; exact (Past.refl w5).alloc _
      obtain ⟨bD, hb_⟩ : ∃ b, b = w5.heap.size := ⟨_, rfl⟩
      rw [← hb_] at hC5 ⊢
      clear hw_ hb_
      replace c0 := hp6.keep c0
      replace c1 := hp6.keep c1
      replace c2 := hp6.keep c2
      replace c3 := hp6.keep c3
      replace c4 := hp6.keep c4
      replace c5 := hp6.keep c5
      replace c6 := hp6.keep c6
      replace c7 := hp6.keep c7
      replace c8 := hp6.keep c8
      replace c9 := hp6.keep c9
      replace c10 := hp6.keep c10
      replace c11 := hp6.keep c11
      clear hC5
      replace q1 := q1.past hp6
      replace q2 := q2.past hp6
      replace q3 := q3.past hp6
      replace q4 := q4.past hp6
      have hpw : Past w w6 := hp2.trans (hp3.trans (hp4.trans (hp5.trans hp6)))
      clear hp2 hp3 hp4 hp5 hp6 hap hsp
      have hun := fun w hx hy => undoStep_any (P : Int) c h s kf kt kd kx b3 0 b4 0 n1 k3 n2 l3 Y1 Y2 w hx hy (by omega) (by omega)
      rw [show unL (P : Int) c h s Y1 Y2 ⟨kf, kt, kd, kx⟩ = X1 from by rw [unL, if_pos HU.out, HXX.out], show unM (P : Int) c h s Y1 Y2 ⟨kf, kt, kd, kx⟩ = X2 from by rw [unM, if_pos HU.out, HYY.out], show unC (P : Int) c h s Y1 Y2 ⟨kf, kt, kd, kx⟩ = 0 from by rw [unC, if_pos HAO.out, if_pos HU.out]] at hun
      have hsi := fun w hx hy => sIsBoard_any (P : Int) c h s (some ⟨b3, 0, none⟩) (some ⟨b4, 0, none⟩) n1 k3 n2 l3 Y1 Y2 w hx hy (by omega) (by omega)
      rw [HAO.out] at hsi
      have hpc := fun w hx hy => pipCounts (P : Int) c h s (some ⟨b3, 0, none⟩) (some ⟨b4, 0, none⟩) n1 k3 n2 l3 Y1 Y2 w hx hy (by omega) (by omega)
      rw [show pipCF (P : Int) c h s Y1 Y2 = pipsF Y1 from if_pos HAO.out, show pipCG (P : Int) c h s Y1 Y2 = pipsF Y2 from if_pos HAO.out] at hpc
      have HQ1 := Lib.hid q1.1
      have HQ2 := Lib.hid q2.1
      go_wp2_with fail
      go_wp2_with fail
      (with_reducible refine (hun _ q3 q4).mono ?_)
      rintro e w7 ⟨A7, k7, D7, l7, rfl, hval7, hp7⟩
      replace c0 := hp7.keep c0
      replace c1 := hp7.keep c1
      replace c2 := hp7.keep c2
      replace c3 := hp7.keep c3
      replace c4 := hp7.keep c4
      replace c5 := hp7.keep c5
      replace c6 := hp7.keep c6
      replace c7 := hp7.keep c7
      replace c8 := hp7.keep c8
      replace c9 := hp7.keep c9
      replace c10 := hp7.keep c10
      replace c11 := hp7.keep c11
      obtain ⟨ha7, hb7, _⟩ := hval7
      rw [HQ1.out] at ha7
      rw [HQ2.out] at hb7
      rw [HQ1.out, HQ2.out]
      replace q1 := q1.past hp7
      replace q2 := q2.past hp7
      replace q3 := q3.past hp7
      replace q4 := q4.past hp7
      go_upto_region 11 with fail
      obtain ⟨w8, hw_⟩ : ∃ x, x = w7.alloc (.cells #[.slice A7 n1 k7, .slice D7 n2 l7] 43) := ⟨_, rfl⟩
      rw [← hw_]
      have hC7 : Blk w8 w7.heap.size 43 #[.slice A7 n1 k7, .slice D7 n2 l7] := by rw [hw_]; exact Blk.new _ _ _
      have hp8 : Past w7 w8 := by rw [hw_]; exact (Past.refl w7).alloc _
      obtain ⟨bE, hb_⟩ : ∃ b, b = w7.heap.size := ⟨_, rfl⟩
      rw [← hb_] at hC7 ⊢
      clear hw_ hb_
      replace c0 := hp8.keep c0
      replace c1 := hp8.keep c1
      replace c2 := hp8.keep c2
      replace c3 := hp8.keep c3
      replace c4 := hp8.keep c4
      replace c5 := hp8.keep c5
      replace c6 := hp8.keep c6
      replace c7 := hp8.keep c7
      replace c8 := hp8.keep c8
      replace c9 := hp8.keep c9
      replace c10 := hp8.keep c10
      replace c11 := hp8.keep c11
      have c12 : w8.cell? ⟨bE, 0, none⟩ = some (.slice A7 n1 k7) := hC7.cell 0 rfl
      have c13 : w8.cell? ⟨bE, 1, none⟩ = some (.slice D7 n2 l7) := hC7.cell 1 rfl
      clear hC7
      replace q1 := q1.past hp8
      replace q2 := q2.past hp8
      replace q3 := q3.past hp8
      replace q4 := q4.past hp8
      have q5 := ha7.rd.past hp8
      have q6 := hb7.rd.past hp8
      replace hpw := hpw.trans (hp7.trans hp8)
      clear ha7 hb7 hp7 hp8 hun
      go_wp2_with fail
      (with_reducible refine (w9Boards_same _ _ _ _ _ _ _ _ _ _ _ _ _ _ _ q5 q6 q1 q2 (by omega) (by omega)).mono ?_)
      rintro e w9 ⟨rfl, hp9⟩
      replace c0 := hp9.keep c0
      replace c1 := hp9.keep c1
      replace c2 := hp9.keep c2
      replace c3 := hp9.keep c3
      replace c4 := hp9.keep c4
      replace c5 := hp9.keep c5
      replace c6 := hp9.keep c6
      replace c7 := hp9.keep c7
      replace c8 := hp9.keep c8
      replace c9 := hp9.keep c9
      replace c10 := hp9.keep c10
      replace c11 := hp9.keep c11
      replace c12 := hp9.keep c12
      replace c13 := hp9.keep c13
      replace q1 := q1.past hp9
      replace q2 := q2.past hp9
      replace q3 := q3.past hp9
      replace q4 := q4.past hp9
      go_wp2_with fail
      (with_reducible refine (hsi _ q3 q4).mono ?_)
      rintro e w10 ⟨rfl, hp10⟩
      replace c0 := hp10.keep c0
      replace c1 := hp10.keep c1
      replace c2 := hp10.keep c2
      replace c3 := hp10.keep c3
      replace c4 := hp10.keep c4
      replace c5 := hp10.keep c5
      replace c6 := hp10.keep c6
      replace c7 := hp10.keep c7
      replace c8 := hp10.keep c8
      replace c9 := hp10.keep c9
      replace c10 := hp10.keep c10
      replace c11 := hp10.keep c11
      replace q1 := q1.past hp10
      replace q2 := q2.past hp10
      replace q3 := q3.past hp10
      replace q4 := q4.past hp10
      go_wp2_with fail
      (with_reducible refine (hil _ q1 q2).mono ?_)
      rintro e w11 ⟨rfl, hp11⟩
      replace c0 := hp11.keep c0
      replace c1 := hp11.keep c1
      replace c2 := hp11.keep c2
      replace c3 := hp11.keep c3
      replace c4 := hp11.keep c4
      replace c5 := hp11.keep c5
      replace c6 := hp11.keep c6
      replace c7 := hp11.keep c7
      replace c8 := hp11.keep c8
      replace c9 := hp11.keep c9
      replace c10 := hp11.keep c10
      replace c11 := hp11.keep c11
      replace q1 := q1.past hp11
      replace q2 := q2.past hp11
      replace q3 := q3.past hp11
      replace q4 := q4.past hp11
      go_wp2_with fail
      (with_reducible refine (hpb _ q1 q2).mono ?_)
      rintro e w12 ⟨rfl, hp12⟩
      replace c0 := hp12.keep c0
      replace c1 := hp12.keep c1
      replace c2 := hp12.keep c2
      replace c3 := hp12.keep c3
      replace c4 := hp12.keep c4
      replace c5 := hp12.keep c5
      replace c6 := hp12.keep c6
      replace c7 := hp12.keep c7
      replace c8 := hp12.keep c8
      replace c9 := hp12.keep c9
      replace c10 := hp12.keep c10
      replace c11 := hp12.keep c11
      replace q1 := q1.past hp12
      replace q2 := q2.past hp12
      replace q3 := q3.past hp12
      replace q4 := q4.past hp12
      go_wp2_with fail
      (with_reducible refine (hpc _ q3 q4).mono ?_)
      rintro e w13 ⟨rfl, hp13⟩
      replace c0 := hp13.keep c0
      replace c1 := hp13.keep c1
      replace c2 := hp13.keep c2
      replace c3 := hp13.keep c3
      replace c4 := hp13.keep c4
      replace c5 := hp13.keep c5
      replace c6 := hp13.keep c6
      replace c7 := hp13.keep c7
      replace c8 := hp13.keep c8
      replace c9 := hp13.keep c9
      replace c10 := hp13.keep c10
      replace c11 := hp13.keep c11
      replace q1 := q1.past hp13
      replace q2 := q2.past hp13
      replace q3 := q3.past hp13
      replace q4 := q4.past hp13
      replace hpw := hpw.trans (hp9.trans (hp10.trans (hp11.trans (hp12.trans hp13))))
      clear hp9 hp10 hp11 hp12 hp13 hsi hil hpb hpc
      obtain ⟨p1, p2, p3, p4, p5⟩ := HPS.out
      try simp only at p1 p2 p3 p4 p5
      change 0 ≤ pipsF X1 ∧ pipsF X1 ≤ _ at hbd1
      change 0 ≤ pipsF X2 ∧ pipsF X2 ≤ _ at hbd2
      have gY : Y2[P]? = some (gAt Y2 (P : Int)) := by
        have hl : P < Y2.length := by have := HLB.out; have := HN2.out; omega
        rw [gAt, Int.toNat_natCast, List.getD_eq_getElem?_getD, List.getElem?_eq_getElem hl]
        rfl
      have gX : X2[P]? = some (gAt X2 (P : Int)) := by
        have hl : P < X2.length := by have := HQ2.out; have := HN2.out; omega
        rw [gAt, Int.toNat_natCast, List.getD_eq_getElem?_getD, List.getElem?_eq_getElem hl]
        rfl
      obtain ⟨b', o', x', ee, hx', cY⟩ := q4.at_ (show P < n2 by have := HN2.out; omega)
      rw [gY] at hx'
      obtain rfl := Option.some.inj hx'
      simp only [Option.some.injEq, Addr.mk.injEq, and_true] at ee
      obtain ⟨rfl, rfl⟩ := ee
      obtain ⟨b', o', x', ee, hx', cX⟩ := q2.at_ (show P < n2 by have := HN2.out; omega)
      rw [gX] at hx'
      obtain rfl := Option.some.inj hx'
      simp only [Option.some.injEq, Addr.mk.injEq, and_true] at ee
      obtain ⟨rfl, rfl⟩ := ee
      rw [Nat.zero_add] at cX cY
      have i1 : (P : Int) < (n2 : Int) := by have := HN2.out; omega
      have i0 : (0 : Int) ≤ (P : Int) := by omega
      have hb1' : pipsF X1 ≤ 10000 := by have := HQ1.out; omega
      have hb2' : pipsF X2 ≤ 10000 := by have := HQ2.out; omega
      clear gX gY hbd1 hbd2
      generalize pipsF X1 = A1 at p1 p2 hb1' ⊢
      generalize pipsF Y1 = B1 at p1 p2 ⊢
      generalize pipsF X2 = A2 at p3 p4 hb2' ⊢
      generalize pipsF Y2 = B2 at p3 p4 ⊢
      generalize gAt Y2 (P : Int) = U at p5 cY
      generalize gAt X2 (P : Int) = V at p5 cX hgY hgZ
      have t1 : ¬ A1 - B1 < 1 := by omega
      have t2 : ¬ kd < A1 - B1 := by omega
      have t3 : ¬ B2 < A2 := by omega
      have hkd2 : 1 ≤ kd ∧ kd ≤ 6 := by omega
      have hV : V ≤ 15 := by omega
      cases kx
      · have t4 : ¬ A2 < B2 := by simpa using p4
        have t5 : U - V = 0 := by simpa using p5
        have t6 : (U - V == 0) = true := by rw [t5]; rfl
        have t7 : (U - V == 1) = false := by rw [t5]; rfl
        have hU : 0 ≤ U ∧ U ≤ 16 := by omega
        clear p1 p2 p3 p4 p5 t5
        go_wp2_with fail
        go_quiet (fail)
        have hpE : Past w (w13.drewN nq) := hpw.drewN nq
        generalize w13.drewN nq = wE at hpE ⊢
        go_wp2_with fail
        go_ret
        exact ⟨rfl, hpE⟩
      · have t4 : A2 < B2 := by simpa using p4
        have t5 : U - V = 1 := by simpa using p5
        have t6 : (U - V == 0) = false := by rw [t5]; rfl
        have t7 : (U - V == 1) = true := by rw [t5]; rfl
        have hU : 0 ≤ U ∧ U ≤ 16 := by omega
        clear p1 p2 p3 p4 p5 t5
        go_wp2_with fail
        go_quiet (fail)
        have hpE : Past w (w13.drewN nq) := hpw.drewN nq
        generalize w13.drewN nq = wE at hpE ⊢
        go_wp2_with fail
        go_ret
        exact ⟨rfl, hpE⟩
  · rw [hd] at hbig
    go_enter Try.func9, Try.ntmps9
    go_wp2_with (go_at_call 11; (with_reducible refine (hbig _).mono ?_); rintro e w9 ⟨rfl, rfl⟩)
    go_ret
    exact ⟨rfl, Past.refl _⟩
end Go.Proofs.Ytapocfgajkkpdaa
