/-
  Swapping a board twice restores it: the plain law and the walk.
-/
import Derived.Test.YtapocfgajkkpdaaDrawL
import Derived.Test.YtapocfgajkkpdaaOpenC
import Derived.Test.YtapocfgajkkpdaaLike
import Derived.Test.YtapocfgajkkpdaaLook3
import Derived.Test.YtapocfgajkkpdaaBox
namespace Go.Proofs.Ytapocfgajkkpdaa
open Go.ChangeShapes Go.WideShapes Go.ChangeAt Go.RowKit Go.Joins

theorem overF_sym (xs ys : List Int) : overF ys xs = overF xs ys := by unfold overF; rw [Bool.or_comm]
theorem contactF_sym (p : Int) (xs ys : List Int) : contactF p ys xs = contactF p xs ys := by unfold contactF; rw [overF_sym, Int.add_comm]
theorem bOk_sym {p c h s : Int} {xs ys : List Int} (hb : bOk p c h s xs ys = true) : bOk p c h s ys xs = true := by
  obtain ⟨h1, h2, h3, h4, h5⟩ := bOk_yes hb
  rw [bOk_apart h1 h3 h2 (by omega)]
  have hp := (vOk_yes h1).1
  refine decide_eq_true fun i hi hh => ?_
  have h6 := of_decide_eq_true h5 (p.toNat - 1 - i) (by omega)
  rw [show p.toNat - 1 - (p.toNat - 1 - i) = i from by omega] at h6
  exact h6 ⟨hh.2, hh.1⟩
set_option maxHeartbeats 4000000 in
set_option maxRecDepth 100000 in
theorem FnSwap.walk (w : World) (A : Option Addr) (n k : Nat) (hx : RdC w w.heap.size A n) :
    Calls Try.prog 6 #[.slice A n k] w fun e w' => e = .returned (.bool true) ∧ Past w w' := by
  have hbig := fun w => big_any A n k w
  cases hd : decide (4096 < n)
  · rw [hd] at hbig
    have hn : n ≤ 5000 := by have := of_decide_eq_false hd; omega
    clear hd
    go_enter Try.func6, Try.ntmps6
    go_wp2_with (go_at_call 11; (with_reducible refine (hbig _).mono ?_); rintro e w9 ⟨rfl, rfl⟩)
    (with_reducible refine (drawSwap_any _ _ _ _ hx hn).mono ?_)
    rintro e w1 ⟨p, c, h, s, b1, n1, l1, X1, b2, n2, l2, X2, rfl, hbd, rd1, rd2, m1, m2, hp1⟩
    go_upto_region 4 with fail
    obtain ⟨wv, hwv⟩ : ∃ wv, wv = w1.alloc (.cells #[.int .i64 p, .int .i64 c, .int .i64 h, .int .i64 s] 25) := ⟨_, rfl⟩
    have hVv : Blk wv w1.heap.size 25 #[.int .i64 p, .int .i64 c, .int .i64 h, .int .i64 s] := by rw [hwv]; exact Blk.new _ _ _
    have zv : wv.heap.size = w1.heap.size + 1 := by rw [hwv]; simp
    have hpv : Past w1 wv := by rw [hwv]; exact (Past.refl w1).alloc _
    obtain ⟨w2, hw2⟩ : ∃ w2, w2 = wv.alloc (.cells #[.slice (some ⟨b1, 0, none⟩) n1 l1, .slice (some ⟨b2, 0, none⟩) n2 l2] 43) := ⟨_, rfl⟩
    rw [← hwv, ← hw2]
    have hB : Blk w2 (w1.heap.size + 1) 43 #[.slice (some ⟨b1, 0, none⟩) n1 l1, .slice (some ⟨b2, 0, none⟩) n2 l2] := by rw [hw2]; exact Blk.at_ zv.symm
    have hpw : Past wv w2 := by rw [hw2]; exact (Past.refl wv).alloc _
    have hV := hVv.past hpw
    have hp12 := hpv.trans hpw
    have hp2 : Past w w2 := hp1.trans hp12
    have q1 := rd1.past hp12
    have q2 := rd2.past hp12
    obtain ⟨b, hb⟩ : ∃ b, b = w1.heap.size := ⟨_, rfl⟩
    rw [← hb] at hV hB zv ⊢
    clear hw2 hwv hbig hx hb hp1 hVv hpv hpw hp12 rd1 rd2
    have c0 : w2.cell? ⟨b, 0, none⟩ = some (.int .i64 p) := hV.cell 0 rfl
    have c1 : w2.cell? ⟨b, 1, none⟩ = some (.int .i64 c) := hV.cell 1 rfl
    have c2 : w2.cell? ⟨b, 2, none⟩ = some (.int .i64 h) := hV.cell 2 rfl
    have c3 : w2.cell? ⟨b, 3, none⟩ = some (.int .i64 s) := hV.cell 3 rfl
    have c4 : w2.cell? ⟨b + 1, 0, none⟩ = some (.slice (some ⟨b1, 0, none⟩) n1 l1) := hB.cell 0 rfl
    have c5 : w2.cell? ⟨b + 1, 1, none⟩ = some (.slice (some ⟨b2, 0, none⟩) n2 l2) := hB.cell 1 rfl
    have hbz := hB.lt
    cases hok : bOk p c h s X1 X2
    · have hsw := fun w hx hy => swapBoard_any p c h s b1 0 b2 0 n1 l1 n2 l2 X1 X2 w hx hy (by omega) (by omega)
      rw [show swapL p c h s X1 X2 = [] from by simp [swapL, hok], show swapM p c h s X1 X2 = [] from by simp [swapM, hok]] at hsw
      have hib := fun w hx hy => isBoard_any p c h s (some ⟨b1, 0, none⟩) (some ⟨b2, 0, none⟩) n1 l1 n2 l2 X1 X2 w hx hy (by omega) (by omega)
      have hsib := fun w hx hy => sIsBoard_any p c h s (some ⟨b1, 0, none⟩) (some ⟨b2, 0, none⟩) n1 l1 n2 l2 X1 X2 w hx hy (by omega) (by omega)
      rw [hok] at hib hsib
      go_wp2_with fail
      (with_reducible refine (hsw _ q1 q2).mono ?_)
      rintro e w3 ⟨A3, k3, D3, l3, rfl, hval, hp3⟩
      replace c0 := hp3.keep c0
      replace c1 := hp3.keep c1
      replace c2 := hp3.keep c2
      replace c3 := hp3.keep c3
      replace c4 := hp3.keep c4
      replace c5 := hp3.keep c5
      go_upto_region 5 with fail
      obtain ⟨w4, hw4⟩ : ∃ w4, w4 = w3.alloc (.cells #[.slice A3 0 k3, .slice D3 0 l3] 43) := ⟨_, rfl⟩
      rw [← hw4]
      have hC4 : Blk w4 w3.heap.size 43 #[.slice A3 0 k3, .slice D3 0 l3] := by rw [hw4]; exact Blk.new _ _ _
      have hp4 : Past w3 w4 := by rw [hw4]; exact (Past.refl w3).alloc _
      obtain ⟨bC, hbC⟩ : ∃ b, b = w3.heap.size := ⟨_, rfl⟩
      rw [← hbC] at hC4 ⊢
      clear hw4 hbC
      have c6 : w4.cell? ⟨bC, 0, none⟩ = some (.slice A3 0 k3) := hC4.cell 0 rfl
      have c7 : w4.cell? ⟨bC, 1, none⟩ = some (.slice D3 0 l3) := hC4.cell 1 rfl
      replace c0 := hp4.keep c0
      replace c1 := hp4.keep c1
      replace c2 := hp4.keep c2
      replace c3 := hp4.keep c3
      replace c4 := hp4.keep c4
      replace c5 := hp4.keep c5
      go_wp2_with fail
      (with_reducible refine (hsib _ ((q1.past hp3).past hp4) ((q2.past hp3).past hp4)).mono ?_)
      rintro e w5 ⟨rfl, hp5⟩
      replace c0 := hp5.keep c0
      replace c1 := hp5.keep c1
      replace c2 := hp5.keep c2
      replace c3 := hp5.keep c3
      replace c4 := hp5.keep c4
      replace c5 := hp5.keep c5
      replace c6 := hp5.keep c6
      replace c7 := hp5.keep c7
      go_wp2_with fail
      (with_reducible refine (hib _ (((q1.past hp3).past hp4).past hp5) (((q2.past hp3).past hp4).past hp5)).mono ?_)
      rintro e w6 ⟨rfl, hp6⟩
      go_wp2
      go_ret
      exact ⟨rfl, hp2.trans (hp3.trans (hp4.trans (hp5.trans hp6)))⟩
    · have hok2 := bOk_sym hok
      have hl2 : 0 < n1 ∧ 0 < n2 := by
        obtain ⟨h1, h2, h3, _, _⟩ := bOk_yes hok
        have e1 := (sOk_yes h2).1
        have e2 := (sOk_yes h3).1
        have e3 := q1.1
        have e4 := q2.1
        have e5 := (vOk_yes h1).1
        omega
      have HL1 := Lib.hid q1.1
      have HL2 := Lib.hid q2.1
      have hsw := fun w hx hy => swapBoard_any p c h s b1 0 b2 0 n1 l1 n2 l2 X1 X2 w hx hy (by omega) (by omega)
      rw [show swapL p c h s X1 X2 = X2 from by simp [swapL, hok], show swapM p c h s X1 X2 = X1 from by simp [swapM, hok]] at hsw
      go_wp2_with fail
      (with_reducible refine (hsw _ q1 q2).mono ?_)
      rintro e w3 ⟨A3, k3, D3, l3, rfl, hval, hp3⟩
      replace c0 := hp3.keep c0
      replace c1 := hp3.keep c1
      replace c2 := hp3.keep c2
      replace c3 := hp3.keep c3
      replace c4 := hp3.keep c4
      replace c5 := hp3.keep c5
      obtain ⟨hv1, hv2, _⟩ := hval
      rw [HL1.out] at hv2
      rw [HL2.out] at hv1
      obtain ⟨b3, rfl⟩ := OwI.addr hv1 (by omega)
      obtain ⟨b4, rfl⟩ := OwI.addr hv2 (by omega)
      rw [HL1.out, HL2.out]
      go_upto_region 5 with fail
      obtain ⟨w4, hw4⟩ : ∃ w4, w4 = w3.alloc (.cells #[.slice (some ⟨b3, 0, none⟩) n2 k3, .slice (some ⟨b4, 0, none⟩) n1 l3] 43) := ⟨_, rfl⟩
      rw [← hw4]
      have hC4 : Blk w4 w3.heap.size 43 #[.slice (some ⟨b3, 0, none⟩) n2 k3, .slice (some ⟨b4, 0, none⟩) n1 l3] := by rw [hw4]; exact Blk.new _ _ _
      have hp4 : Past w3 w4 := by rw [hw4]; exact (Past.refl w3).alloc _
      obtain ⟨bC, hbC⟩ : ∃ b, b = w3.heap.size := ⟨_, rfl⟩
      rw [← hbC] at hC4 ⊢
      clear hw4 hbC
      have c6 : w4.cell? ⟨bC, 0, none⟩ = some (.slice (some ⟨b3, 0, none⟩) n2 k3) := hC4.cell 0 rfl
      have c7 : w4.cell? ⟨bC, 1, none⟩ = some (.slice (some ⟨b4, 0, none⟩) n1 l3) := hC4.cell 1 rfl
      replace c0 := hp4.keep c0
      replace c1 := hp4.keep c1
      replace c2 := hp4.keep c2
      replace c3 := hp4.keep c3
      replace c4 := hp4.keep c4
      replace c5 := hp4.keep c5
      have r1 := (q1.past hp3).past hp4
      have r2 := (q2.past hp3).past hp4
      have r3 := hv1.rd.past hp4
      have r4 := hv2.rd.past hp4
      have hpw : Past w w4 := hp2.trans (hp3.trans hp4)
      clear hv1 hv2 q1 q2 hp2 hp3 hp4 hsw HL1 HL2 hC4 hV hB hl2
      have hsib := fun w hx hy => sIsBoard_any p c h s (some ⟨b1, 0, none⟩) (some ⟨b2, 0, none⟩) n1 l1 n2 l2 X1 X2 w hx hy (by omega) (by omega)
      rw [hok] at hsib
      have hpb := fun w hx hy => pipCounts p c h s (some ⟨b1, 0, none⟩) (some ⟨b2, 0, none⟩) n1 l1 n2 l2 X1 X2 w hx hy (by omega) (by omega)
      have hpc := fun w hx hy => pipCounts p c h s (some ⟨b3, 0, none⟩) (some ⟨b4, 0, none⟩) n2 k3 n1 l3 X2 X1 w hx hy (by omega) (by omega)
      have hps := fun w hx hy => sPipCounts p c h s (some ⟨b1, 0, none⟩) (some ⟨b2, 0, none⟩) n1 l1 n2 l2 X1 X2 w hx hy (by omega) (by omega)
      have hob := fun w hx hy => borneOff p c h s (some ⟨b1, 0, none⟩) (some ⟨b2, 0, none⟩) n1 l1 n2 l2 X1 X2 w hx hy (by omega) (by omega)
      have hoc := fun w hx hy => borneOff p c h s (some ⟨b3, 0, none⟩) (some ⟨b4, 0, none⟩) n2 k3 n1 l3 X2 X1 w hx hy (by omega) (by omega)
      rw [show pipCF p c h s X1 X2 = pipsF X1 from if_pos hok, show pipCG p c h s X1 X2 = pipsF X2 from if_pos hok] at hpb hps
      rw [show pipCF p c h s X2 X1 = pipsF X2 from if_pos hok2, show pipCG p c h s X2 X1 = pipsF X1 from if_pos hok2] at hpc
      rw [show offF p c h s X1 X2 = c - X1.sum from if_pos hok, show offG p c h s X1 X2 = c - X2.sum from if_pos hok] at hob
      rw [show offF p c h s X2 X1 = c - X2.sum from if_pos hok2, show offG p c h s X2 X1 = c - X1.sum from if_pos hok2] at hoc
      generalize pipsF X1 = P1 at hpb hps hpc
      generalize pipsF X2 = P2 at hpb hps hpc
      generalize c - X1.sum = M1 at hob hoc
      generalize c - X2.sum = M2 at hob hoc
      have hkb := fun w hx hy => isContact p c h s (some ⟨b1, 0, none⟩) (some ⟨b2, 0, none⟩) n1 l1 n2 l2 X1 X2 w hx hy (by omega) (by omega)
      have hks := fun w hx hy => sIsContact p c h s (some ⟨b1, 0, none⟩) (some ⟨b2, 0, none⟩) n1 l1 n2 l2 X1 X2 w hx hy (by omega) (by omega)
      have hkc := fun w hx hy => isContact p c h s (some ⟨b3, 0, none⟩) (some ⟨b4, 0, none⟩) n2 k3 n1 l3 X2 X1 w hx hy (by omega) (by omega)
      rw [show isContactF p c h s X2 X1 = isContactF p c h s X1 X2 from by unfold isContactF; rw [hok, hok2, contactF_sym]] at hkc
      generalize isContactF p c h s X1 X2 = K at hkb hks hkc
      have hvb := fun w hx hy => isOver p c h s (some ⟨b1, 0, none⟩) (some ⟨b2, 0, none⟩) n1 l1 n2 l2 X1 X2 w hx hy (by omega) (by omega)
      have hvc := fun w hx hy => isOver p c h s (some ⟨b3, 0, none⟩) (some ⟨b4, 0, none⟩) n2 k3 n1 l3 X2 X1 w hx hy (by omega) (by omega)
      rw [show isOverF p c h s X2 X1 = isOverF p c h s X1 X2 from by unfold isOverF; rw [hok, hok2, overF_sym]] at hvc
      generalize isOverF p c h s X1 X2 = V at hvb hvc
      have hsc := fun w hx hy => swapBoard_any p c h s b3 0 b4 0 n2 k3 n1 l3 X2 X1 w hx hy (by omega) (by omega)
      rw [show swapL p c h s X2 X1 = X1 from by simp [swapL, hok2], show swapM p c h s X2 X1 = X2 from by simp [swapM, hok2]] at hsc
      have hic := fun w hx hy => isBoard_any p c h s (some ⟨b3, 0, none⟩) (some ⟨b4, 0, none⟩) n2 k3 n1 l3 X2 X1 w hx hy (by omega) (by omega)
      rw [hok2] at hic
      have HSIB := Lib.hid hsib
      have HPB := Lib.hid hpb
      have HPC := Lib.hid hpc
      have HPS := Lib.hid hps
      have HOB := Lib.hid hob
      have HOC := Lib.hid hoc
      have HKB := Lib.hid hkb
      have HKS := Lib.hid hks
      have HKC := Lib.hid hkc
      have HVB := Lib.hid hvb
      have HVC := Lib.hid hvc
      have HSC := Lib.hid hsc
      have HIC := Lib.hid hic
      clear hsib hpb hpc hps hob hoc hkb hks hkc hvb hvc hsc hic hok hok2
      go_wp2_with fail
      (with_reducible refine (HSIB.out _ r1 r2).mono ?_)
      rintro e w5 ⟨rfl, hp5⟩
      replace c0 := hp5.keep c0
      replace c1 := hp5.keep c1
      replace c2 := hp5.keep c2
      replace c3 := hp5.keep c3
      replace c4 := hp5.keep c4
      replace c5 := hp5.keep c5
      replace c6 := hp5.keep c6
      replace c7 := hp5.keep c7
      replace r1 := r1.past hp5
      replace r2 := r2.past hp5
      replace r3 := r3.past hp5
      replace r4 := r4.past hp5
      replace hpw := hpw.trans hp5
      clear hp5
      go_wp2_with fail
      (with_reducible refine (HPB.out _ r1 r2).mono ?_)
      rintro e w6 ⟨rfl, hp6⟩
      replace c0 := hp6.keep c0
      replace c1 := hp6.keep c1
      replace c2 := hp6.keep c2
      replace c3 := hp6.keep c3
      replace c4 := hp6.keep c4
      replace c5 := hp6.keep c5
      replace c6 := hp6.keep c6
      replace c7 := hp6.keep c7
      replace r1 := r1.past hp6
      replace r2 := r2.past hp6
      replace r3 := r3.past hp6
      replace r4 := r4.past hp6
      replace hpw := hpw.trans hp6
      clear hp6
      go_wp2_with fail
      (with_reducible refine (HPC.out _ r3 r4).mono ?_)
      rintro e w7 ⟨rfl, hp7⟩
      replace c0 := hp7.keep c0
      replace c1 := hp7.keep c1
      replace c2 := hp7.keep c2
      replace c3 := hp7.keep c3
      replace c4 := hp7.keep c4
      replace c5 := hp7.keep c5
      replace c6 := hp7.keep c6
      replace c7 := hp7.keep c7
      replace r1 := r1.past hp7
      replace r2 := r2.past hp7
      replace r3 := r3.past hp7
      replace r4 := r4.past hp7
      replace hpw := hpw.trans hp7
      clear hp7
      go_wp2_with fail
      (with_reducible refine (HOB.out _ r1 r2).mono ?_)
      rintro e w8 ⟨rfl, hp8⟩
      replace c0 := hp8.keep c0
      replace c1 := hp8.keep c1
      replace c2 := hp8.keep c2
      replace c3 := hp8.keep c3
      replace c4 := hp8.keep c4
      replace c5 := hp8.keep c5
      replace c6 := hp8.keep c6
      replace c7 := hp8.keep c7
      replace r1 := r1.past hp8
      replace r2 := r2.past hp8
      replace r3 := r3.past hp8
      replace r4 := r4.past hp8
      replace hpw := hpw.trans hp8
      clear hp8
      go_wp2_with fail
      (with_reducible refine (HOC.out _ r3 r4).mono ?_)
      rintro e w9 ⟨rfl, hp9⟩
      replace c0 := hp9.keep c0
      replace c1 := hp9.keep c1
      replace c2 := hp9.keep c2
      replace c3 := hp9.keep c3
      replace c4 := hp9.keep c4
      replace c5 := hp9.keep c5
      replace c6 := hp9.keep c6
      replace c7 := hp9.keep c7
      replace r1 := r1.past hp9
      replace r2 := r2.past hp9
      replace r3 := r3.past hp9
      replace r4 := r4.past hp9
      replace hpw := hpw.trans hp9
      clear hp9
      go_wp2_with fail
      (with_reducible refine (HPS.out _ r1 r2).mono ?_)
      rintro e w10 ⟨rfl, hp10⟩
      replace c0 := hp10.keep c0
      replace c1 := hp10.keep c1
      replace c2 := hp10.keep c2
      replace c3 := hp10.keep c3
      replace c4 := hp10.keep c4
      replace c5 := hp10.keep c5
      replace c6 := hp10.keep c6
      replace c7 := hp10.keep c7
      replace r1 := r1.past hp10
      replace r2 := r2.past hp10
      replace r3 := r3.past hp10
      replace r4 := r4.past hp10
      replace hpw := hpw.trans hp10
      clear hp10
      have e1 : (P1 == P1) = true := by simp
      have e2 : (P2 == P2) = true := by simp
      have e3 : (M1 == M1) = true := by simp
      have e4 : (M2 == M2) = true := by simp
      have e5 : (K == K) = true := by simp
      have e6 : (V == V) = true := by simp
      have HLX := Lib.hid (show X1.length ≤ 1048576 by have := r1.1; omega)
      have HLY := Lib.hid (show X2.length ≤ 1048576 by have := r2.1; omega)
      go_wp2_with fail
      go_region_held3 (fun w' => w'.cell? ⟨b, 0, none⟩ = some (.int .i64 p) ∧ w'.cell? ⟨b, 1, none⟩ = some (.int .i64 c) ∧ w'.cell? ⟨b, 2, none⟩ = some (.int .i64 h) ∧ w'.cell? ⟨b, 3, none⟩ = some (.int .i64 s) ∧ w'.cell? ⟨b + 1, 0, none⟩ = some (.slice (some ⟨b1, 0, none⟩) n1 l1) ∧ w'.cell? ⟨b + 1, 1, none⟩ = some (.slice (some ⟨b2, 0, none⟩) n2 l2) ∧ w'.cell? ⟨bC, 0, none⟩ = some (.slice (some ⟨b3, 0, none⟩) n2 k3) ∧ w'.cell? ⟨bC, 1, none⟩ = some (.slice (some ⟨b4, 0, none⟩) n1 l3) ∧ Past w10 w') (first | (go_split_ands; refine ⟨(by first | with_reducible assumption | (with_reducible refine Past.keep hq ?_; first | with_reducible assumption | (with_reducible refine cellqd ?_; with_reducible assumption)) | (with_reducible refine cellqd ?_; with_reducible assumption)), (by first | with_reducible assumption | (with_reducible refine Past.keep hq ?_; first | with_reducible assumption | (with_reducible refine cellqd ?_; with_reducible assumption)) | (with_reducible refine cellqd ?_; with_reducible assumption)), (by first | with_reducible assumption | (with_reducible refine Past.keep hq ?_; first | with_reducible assumption | (with_reducible refine cellqd ?_; with_reducible assumption)) | (with_reducible refine cellqd ?_; with_reducible assumption)), (by first | with_reducible assumption | (with_reducible refine Past.keep hq ?_; first | with_reducible assumption | (with_reducible refine cellqd ?_; with_reducible assumption)) | (with_reducible refine cellqd ?_; with_reducible assumption)), (by first | with_reducible assumption | (with_reducible refine Past.keep hq ?_; first | with_reducible assumption | (with_reducible refine cellqd ?_; with_reducible assumption)) | (with_reducible refine cellqd ?_; with_reducible assumption)), (by first | with_reducible assumption | (with_reducible refine Past.keep hq ?_; first | with_reducible assumption | (with_reducible refine cellqd ?_; with_reducible assumption)) | (with_reducible refine cellqd ?_; with_reducible assumption)), (by first | with_reducible assumption | (with_reducible refine Past.keep hq ?_; first | with_reducible assumption | (with_reducible refine cellqd ?_; with_reducible assumption)) | (with_reducible refine cellqd ?_; with_reducible assumption)), (by first | with_reducible assumption | (with_reducible refine Past.keep hq ?_; first | with_reducible assumption | (with_reducible refine cellqd ?_; with_reducible assumption)) | (with_reducible refine cellqd ?_; with_reducible assumption)), ?_⟩; first | with_reducible assumption | (with_reducible refine Past.trans ?_ hq; first | with_reducible assumption | (with_reducible refine Past.drew ?_; with_reducible assumption) | exact Past.drew (Past.refl _)) | (with_reducible refine Past.drew ?_; with_reducible assumption) | exact Past.drew (Past.refl _))) (first | (go_at_call 30; (try go_split_ands); (with_reducible refine (HSC.out _ (r3.past (by first | with_reducible assumption | (with_reducible refine Past.drew ?_; with_reducible assumption) | (with_reducible refine Past.drew (Past.refl _)))) (r4.past (by first | with_reducible assumption | (with_reducible refine Past.drew ?_; with_reducible assumption) | (with_reducible refine Past.drew (Past.refl _))))).mono ?_); rintro e w11 ⟨A5, k5, D5, l5, rfl, hval, hq⟩; have rd5 := hval.1.rd; have rd6 := hval.2.1.rd) | (go_at_call 34; (try go_split_ands); (with_reducible refine (w9Boards_same _ _ _ _ _ _ _ _ _ _ _ _ _ _ _ (by first | exact rd5 | exact RdI.drew rd5) (by first | exact rd6 | exact RdI.drew rd6) (r1.past (by first | with_reducible assumption | (with_reducible refine Past.drew ?_; with_reducible assumption) | (with_reducible refine Past.drew (Past.refl _)))) (r2.past (by first | with_reducible assumption | (with_reducible refine Past.drew ?_; with_reducible assumption) | (with_reducible refine Past.drew (Past.refl _)))) HLX.out HLY.out).mono ?_); rintro e w11 ⟨rfl, hq⟩) | (go_at_call 35; (try go_split_ands); (with_reducible refine (HKB.out _ (r1.past (by first | with_reducible assumption | (with_reducible refine Past.drew ?_; with_reducible assumption) | (with_reducible refine Past.drew (Past.refl _)))) (r2.past (by first | with_reducible assumption | (with_reducible refine Past.drew ?_; with_reducible assumption) | (with_reducible refine Past.drew (Past.refl _))))).mono ?_); rintro e w11 ⟨rfl, hq⟩) | (go_at_call 35; (try go_split_ands); (with_reducible refine (HKC.out _ (r3.past (by first | with_reducible assumption | (with_reducible refine Past.drew ?_; with_reducible assumption) | (with_reducible refine Past.drew (Past.refl _)))) (r4.past (by first | with_reducible assumption | (with_reducible refine Past.drew ?_; with_reducible assumption) | (with_reducible refine Past.drew (Past.refl _))))).mono ?_); rintro e w11 ⟨rfl, hq⟩) | (go_at_call 36; (try go_split_ands); (with_reducible refine (HKS.out _ (r1.past (by first | with_reducible assumption | (with_reducible refine Past.drew ?_; with_reducible assumption) | (with_reducible refine Past.drew (Past.refl _)))) (r2.past (by first | with_reducible assumption | (with_reducible refine Past.drew ?_; with_reducible assumption) | (with_reducible refine Past.drew (Past.refl _))))).mono ?_); rintro e w11 ⟨rfl, hq⟩) | (go_at_call 37; (try go_split_ands); (with_reducible refine (HVB.out _ (r1.past (by first | with_reducible assumption | (with_reducible refine Past.drew ?_; with_reducible assumption) | (with_reducible refine Past.drew (Past.refl _)))) (r2.past (by first | with_reducible assumption | (with_reducible refine Past.drew ?_; with_reducible assumption) | (with_reducible refine Past.drew (Past.refl _))))).mono ?_); rintro e w11 ⟨rfl, hq⟩) | (go_at_call 37; (try go_split_ands); (with_reducible refine (HVC.out _ (r3.past (by first | with_reducible assumption | (with_reducible refine Past.drew ?_; with_reducible assumption) | (with_reducible refine Past.drew (Past.refl _)))) (r4.past (by first | with_reducible assumption | (with_reducible refine Past.drew ?_; with_reducible assumption) | (with_reducible refine Past.drew (Past.refl _))))).mono ?_); rintro e w11 ⟨rfl, hq⟩) | (go_at_call 31; (try go_split_ands); (with_reducible refine (HIC.out _ (r3.past (by first | with_reducible assumption | (with_reducible refine Past.drew ?_; with_reducible assumption) | (with_reducible refine Past.drew (Past.refl _)))) (r4.past (by first | with_reducible assumption | (with_reducible refine Past.drew ?_; with_reducible assumption) | (with_reducible refine Past.drew (Past.refl _))))).mono ?_); rintro e w11 ⟨rfl, hq⟩))
      (try go_split_ands)
      have hpE : Past w10 w11 := by first | with_reducible assumption | exact Past.trans (by with_reducible assumption) hq | exact Past.trans (Past.drew (by with_reducible assumption)) hq | exact Past.trans (Past.drew (Past.refl _)) hq
      go_wp2_with fail
      go_ret
      exact ⟨rfl, hpw.trans hpE⟩
  · rw [hd] at hbig
    go_enter Try.func6, Try.ntmps6
    go_wp2_with (go_at_call 11; (with_reducible refine (hbig _).mono ?_); rintro e w9 ⟨rfl, rfl⟩)
    go_ret
    exact ⟨rfl, Past.refl _⟩
end Go.Proofs.Ytapocfgajkkpdaa
