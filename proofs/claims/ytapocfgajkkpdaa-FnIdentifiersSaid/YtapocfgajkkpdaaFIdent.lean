/-
  A board is recovered from its bits and from its identifier: the walk.
-/
import Derived.Test.YtapocfgajkkpdaaDrawL
import Derived.Test.YtapocfgajkkpdaaDrawT
import Derived.Test.YtapocfgajkkpdaaOpenD
import Derived.Test.YtapocfgajkkpdaaOther
import Derived.Test.YtapocfgajkkpdaaLike
import Derived.Test.YtapocfgajkkpdaaIdent
import Derived.Test.YtapocfgajkkpdaaReadId4
namespace Go.Proofs.Ytapocfgajkkpdaa
open Go.ChangeShapes Go.WideShapes Go.ChangeAt Go.RowKit Go.Joins

set_option maxHeartbeats 4000000 in
set_option maxRecDepth 100000 in
theorem FnIdentifiers.walk (w : World) (A : Option Addr) (n k : Nat) (hx : RdC w w.heap.size A n) (hyk : A = none → n = 0 ∧ k = 0) :
    Calls Try.prog 7 #[.slice A n k] w fun e w' => e = .returned (.bool true) ∧ Past w w' := by
  have hbig := fun w => big_any A n k w
  cases hd : decide (4096 < n)
  · rw [hd] at hbig
    have hn4 : n ≤ 4096 := by have := of_decide_eq_false hd; omega
    have hn : n ≤ 5000 := by have := of_decide_eq_false hd; omega
    clear hd
    go_enter Try.func7, Try.ntmps7
    go_wp2_with (go_at_call 11; (with_reducible refine (hbig _).mono ?_); rintro e w9 ⟨rfl, rfl⟩)
    (with_reducible refine (drawId_any _ _ _ _ hx hn).mono ?_)
    rintro e w1 ⟨p, c, h, s, b1, n1, l1, X1, b2, n2, l2, X2, rfl, hbd, rd1, rd2, m1, m2, hp1⟩
    go_upto_region 4 with fail
    obtain ⟨wv, hwv⟩ : ∃ wv, wv = w1.alloc (.cells #[.int .i64 p, .int .i64 c, .int .i64 h, .int .i64 s] 25) := ⟨_, rfl⟩
    have hVv : Blk wv w1.heap.size 25 #[.int .i64 p, .int .i64 c, .int .i64 h, .int .i64 s] := by rw [hwv]; exact Blk.new _ _ _
    have zv : wv.heap.size = w1.heap.size + 1 := by rw [hwv]; simp
    have hpv : Past w1 wv := by rw [hwv]; exact (Past.refl w1).alloc _
    obtain ⟨w2, hw2⟩ : ∃ w2, w2 = wv.alloc (.cells #[.slice (some ⟨b1, 0, none⟩) n1 l1, .slice (some ⟨b2, 0, none⟩) n2 l2] 43) := ⟨_, rfl⟩
    rw [← hwv, ← hw2]
    have hB : Blk w2 (w1.heap.size + 1) 43 #[.slice (some ⟨b1, 0, none⟩) n1 l1, .slice (some ⟨b2, 0, none⟩) n2 l2] := by rw [hw2]; exact Blk.at_ zv.symm
    have hpw : Past wv w2 := by rw [hw2]; exact (Past.refl wv).alloc _
    have hV := hVv.past hpw
    have hp12 := hpv.trans hpw
    have hp2 : Past w w2 := hp1.trans hp12
    have q1 := rd1.past hp12
    have q2 := rd2.past hp12
    obtain ⟨b, hb⟩ : ∃ b, b = w1.heap.size := ⟨_, rfl⟩
    rw [← hb] at hV hB zv ⊢
    clear hw2 hwv hbig hb hp1 hVv hpv hpw hp12 rd1 rd2
    have c0 : w2.cell? ⟨b, 0, none⟩ = some (.int .i64 p) := hV.cell 0 rfl
    have c1 : w2.cell? ⟨b, 1, none⟩ = some (.int .i64 c) := hV.cell 1 rfl
    have c2 : w2.cell? ⟨b, 2, none⟩ = some (.int .i64 h) := hV.cell 2 rfl
    have c3 : w2.cell? ⟨b, 3, none⟩ = some (.int .i64 s) := hV.cell 3 rfl
    have c4 : w2.cell? ⟨b + 1, 0, none⟩ = some (.slice (some ⟨b1, 0, none⟩) n1 l1) := hB.cell 0 rfl
    have c5 : w2.cell? ⟨b + 1, 1, none⟩ = some (.slice (some ⟨b2, 0, none⟩) n2 l2) := hB.cell 1 rfl
    have hbz := hB.lt
    have hbi := fun w hx hy => boardId_any p c h s b1 0 b2 0 n1 l1 n2 l2 X1 X2 w hx hy (by omega) (by omega)
    have hsb := fun w hx hy => sBoardId_any p c h s b1 0 b2 0 n1 l1 n2 l2 X1 X2 w hx hy (by omega) (by omega)
    have hsi := fun w hx hy => sIsBoard_any p c h s (some ⟨b1, 0, none⟩) (some ⟨b2, 0, none⟩) n1 l1 n2 l2 X1 X2 w hx hy (by omega) (by omega)
    have hsz := idBd_size p c h s X1 X2
    obtain ⟨tb, htb⟩ : ∃ tb, tb = idBd p c h s X1 X2 := ⟨_, rfl⟩
    rw [← htb] at hbi hsb hsz
    have HTB := Lib.hid htb
    clear htb hV hB
    go_wp2_with fail
    (with_reducible refine (hbi _ q1 q2).mono ?_)
    rintro e w3 ⟨rfl, hp3⟩
    replace c0 := hp3.keep c0
    replace c1 := hp3.keep c1
    replace c2 := hp3.keep c2
    replace c3 := hp3.keep c3
    replace c4 := hp3.keep c4
    replace c5 := hp3.keep c5
    replace q1 := q1.past hp3
    replace q2 := q2.past hp3
    go_wp2_with fail
    (with_reducible refine (hsb _ q1 q2).mono ?_)
    rintro e w4 ⟨rfl, hp4⟩
    replace c0 := hp4.keep c0
    replace c1 := hp4.keep c1
    replace c2 := hp4.keep c2
    replace c3 := hp4.keep c3
    replace c4 := hp4.keep c4
    replace c5 := hp4.keep c5
    replace q1 := q1.past hp4
    replace q2 := q2.past hp4
    cases hok : bOk p c h s X1 X2
    · rw [hok] at hsi
      go_wp2_with fail
      (with_reducible refine (hsi _ q1 q2).mono ?_)
      rintro e w5 ⟨rfl, hp5⟩
      replace c0 := hp5.keep c0
      replace c1 := hp5.keep c1
      replace c2 := hp5.keep c2
      replace c3 := hp5.keep c3
      replace c4 := hp5.keep c4
      replace c5 := hp5.keep c5
      have hpw : Past w w5 := hp2.trans (hp3.trans (hp4.trans hp5))
      clear hp2 hp3 hp4 hp5 hbi hsb hsi c0 c1 c2 c3 c4 c5 q1 q2
      go_wp2_with fail
      (with_reducible refine (other_any _ _ _ _ (hx.past hpw (hpw).sz) hyk hn4).mono ?_)
      rintro e wa ⟨ga, ka, rfl, hra, hpa⟩
      go_wp2_with fail
      (with_reducible refine (drawText_any _ _ _ _ hra (by omega)).mono ?_)
      rintro e wb ⟨p', c', h', s', tb', rfl, hbd', hsz', hpb⟩
      go_upto_region 13 with fail
      obtain ⟨wc, hwc⟩ : ∃ x, x = wb.alloc (.cells #[.int .i64 p', .int .i64 c', .int .i64 h', .int .i64 s'] 25) := ⟨_, rfl⟩
      rw [← hwc]
      have hVc : Blk wc wb.heap.size 25 #[.int .i64 p', .int .i64 c', .int .i64 h', .int .i64 s'] := by rw [hwc]; exact Blk.new _ _ _
      have hpc : Past wb wc := by rw [hwc]; exact (Past.refl wb).alloc _
      have hpW : Past w wc := (hpw).trans (hpa.trans (hpb.trans hpc))
      obtain ⟨bW, hbW⟩ : ∃ x, x = wb.heap.size := ⟨_, rfl⟩
      rw [← hbW] at hVc ⊢
      clear hwc hbW hpa hpb hpc hra
      have e0 : wc.cell? ⟨bW, 0, none⟩ = some (.int .i64 p') := hVc.cell 0 rfl
      have e1 : wc.cell? ⟨bW, 1, none⟩ = some (.int .i64 c') := hVc.cell 1 rfl
      have e2 : wc.cell? ⟨bW, 2, none⟩ = some (.int .i64 h') := hVc.cell 2 rfl
      have e3 : wc.cell? ⟨bW, 3, none⟩ = some (.int .i64 s') := hVc.cell 3 rfl
      have hrd := fun w => readId_any p' c' h' s' tb' w (by omega)
      by_cases hc0 : rdC p' c' h' s' tb' = 0
      · obtain ⟨hbb, hid⟩ := read_is hc0
        rw [hc0] at hrd
        have hLM := rd_le p' c' h' s' tb'
        have hL0 : 0 < (rdL p' c' h' s' tb').length ∧ 0 < (rdM p' c' h' s' tb').length := by
          obtain ⟨g1, g2, g3, _, _⟩ := bOk_yes hbb
          have g4 := (sOk_yes g2).1
          have g5 := (sOk_yes g3).1
          have g6 := (vOk_yes g1).1
          omega
        generalize rdL p' c' h' s' tb' = L at *
        generalize rdM p' c' h' s' tb' = M at *
        have hidb : idBd p' c' h' s' L M = tb' := by rw [idBd, if_pos hbb]; exact hid
        clear hid hbb hc0
        go_wp2_with fail
        (with_reducible refine (hrd _).mono ?_)
        rintro e wd ⟨Ad, kd, Dd, ld, rfl, hvd, hpd⟩
        obtain ⟨ho1, ho2, _⟩ := hvd
        obtain ⟨gd1, rfl⟩ := OwI.addr ho1 (by omega)
        obtain ⟨gd2, rfl⟩ := OwI.addr ho2 (by omega)
        replace e0 := hpd.keep e0
        replace e1 := hpd.keep e1
        replace e2 := hpd.keep e2
        replace e3 := hpd.keep e3
        go_upto_region 14 with fail
        obtain ⟨we, hwe⟩ : ∃ x, x = wd.alloc (.cells #[.slice (some ⟨gd1, 0, none⟩) L.length kd, .slice (some ⟨gd2, 0, none⟩) M.length ld] 43) := ⟨_, rfl⟩
        rw [← hwe]
        have hBe : Blk we wd.heap.size 43 #[.slice (some ⟨gd1, 0, none⟩) L.length kd, .slice (some ⟨gd2, 0, none⟩) M.length ld] := by rw [hwe]; exact Blk.new _ _ _
        have hpe : Past wd we := by rw [hwe]; exact (Past.refl wd).alloc _
        obtain ⟨bE, hbE⟩ : ∃ x, x = wd.heap.size := ⟨_, rfl⟩
        rw [← hbE] at hBe ⊢
        clear hwe hbE
        replace e0 := hpe.keep e0
        replace e1 := hpe.keep e1
        replace e2 := hpe.keep e2
        replace e3 := hpe.keep e3
        have e4 : we.cell? ⟨bE, 0, none⟩ = some (.slice (some ⟨gd1, 0, none⟩) L.length kd) := hBe.cell 0 rfl
        have e5 : we.cell? ⟨bE, 1, none⟩ = some (.slice (some ⟨gd2, 0, none⟩) M.length ld) := hBe.cell 1 rfl
        have hbi := fun w hx hy => boardId_any p' c' h' s' gd1 0 gd2 0 L.length kd M.length ld L M w hx hy (by omega) (by omega)
        rw [hidb] at hbi
        go_wp2_with fail
        (with_reducible refine (hbi _ (ho1.rd.past hpe) (ho2.rd.past hpe)).mono ?_)
        rintro e wf ⟨rfl, hpf⟩
        go_wp2_with fail
        go_ret
        exact ⟨rfl, hpW.trans (hpd.trans (hpe.trans hpf))⟩
      · obtain ⟨eL, eM⟩ := rd_none hc0
        rw [eL, eM] at hrd
        generalize rdC p' c' h' s' tb' = K at hc0 hrd
        have hk1 : (K != 0) = true := by rw [bne_iff_ne]; exact hc0
        have hk2 : (K == 0) = false := beq_eq_false_iff_ne.2 hc0
        clear eL eM
        go_wp2_with fail
        (with_reducible refine (hrd _).mono ?_)
        rintro e wd ⟨Ad, kd, Dd, ld, rfl, hvd, hpd⟩
        clear hvd
        go_upto_region 14 with fail
        obtain ⟨we, hwe⟩ : ∃ x, x = wd.alloc (.cells #[.slice Ad 0 kd, .slice Dd 0 ld] 43) := ⟨_, rfl⟩
        rw [← hwe]
        have hBe : Blk we wd.heap.size 43 #[.slice Ad 0 kd, .slice Dd 0 ld] := by rw [hwe]; exact Blk.new _ _ _
        have hpe : Past wd we := by rw [hwe]; exact (Past.refl wd).alloc _
        clear hwe
        have e4 : we.cell? ⟨wd.heap.size, 0, none⟩ = some (.slice Ad 0 kd) := hBe.cell 0 rfl
        go_wp2_with fail
        go_ret
        exact ⟨rfl, hpW.trans (hpd.trans hpe)⟩
    · rw [hok] at hsi
      obtain ⟨hv, hx1, hx2, _, _⟩ := bOk_yes hok
      obtain ⟨hv1, _, _, _⟩ := vOk_yes hv
      obtain ⟨P, rfl⟩ := Int.eq_ofNat_of_zero_le (show 0 ≤ p from by omega)
      have e1 := (sOk_yes hx1).1
      have e2 := (sOk_yes hx2).1
      have HL1 := Lib.hid q1.1
      have HL2 := Lib.hid q2.1
      have hn0 : 0 < n1 ∧ 0 < n2 := by
        have := q1.1
        have := q2.1
        omega
      have hrd0 := fun w => readId_any (P : Int) c h s tb w (by omega)
      have hT : tb = idOf (bitsRow (X1 ++ X2)) := by rw [HTB.out, idBd, if_pos hok]
      obtain ⟨i1, i2, i3⟩ := id_back hok
      rw [← hT] at i1 i2 i3
      rw [i1, i2, i3] at hrd0
      have hbb := fun w hx hy => boardBits (P : Int) c h s b1 0 b2 0 n1 l1 n2 l2 X1 X2 w hx hy (by omega) (by omega)
      rw [show bbL (P : Int) c h s X1 X2 = bitsRow (X1 ++ X2) from if_pos hok] at hbb
      obtain ⟨j1, j2, j3⟩ := bits_back hok
      have hrl := (row_facts hok).2.2.2.1
      have hob := fun A k w hB => boardOfBits_any (P : Int) c h s A (bitsRow (X1 ++ X2)).length k (bitsRow (X1 ++ X2)) w hB (by omega)
      rw [j1, j2, j3] at hob
      clear i1 i2 i3 j1 j2 j3 hv hx1 hx2 e1 e2 hT HTB hrl
      generalize bitsRow (X1 ++ X2) = BR at hbb hob
      have HBB := Lib.hid hbb
      have HOB := Lib.hid hob
      clear hbb hob
      go_wp2_with fail
      (with_reducible refine (hsi _ q1 q2).mono ?_)
      rintro e w5 ⟨rfl, hp5⟩
      replace c0 := hp5.keep c0
      replace c1 := hp5.keep c1
      replace c2 := hp5.keep c2
      replace c3 := hp5.keep c3
      replace c4 := hp5.keep c4
      replace c5 := hp5.keep c5
      replace q1 := q1.past hp5
      replace q2 := q2.past hp5
      go_wp2_with fail
      (with_reducible refine (hrd0 _).mono ?_)
      rintro e w6 ⟨A6, k6, D6, l6, rfl, hv6, hp6⟩
      replace c0 := hp6.keep c0
      replace c1 := hp6.keep c1
      replace c2 := hp6.keep c2
      replace c3 := hp6.keep c3
      replace c4 := hp6.keep c4
      replace c5 := hp6.keep c5
      obtain ⟨ho1, ho2, _⟩ := hv6
      rw [HL1.out] at ho1
      rw [HL2.out] at ho2
      rw [HL1.out, HL2.out]
      go_upto_region 9 with fail
      obtain ⟨w7, hw7⟩ : ∃ x, x = w6.alloc (.cells #[.slice A6 n1 k6, .slice D6 n2 l6] 43) := ⟨_, rfl⟩
      rw [← hw7]
      have hC7 : Blk w7 w6.heap.size 43 #[.slice A6 n1 k6, .slice D6 n2 l6] := by rw [hw7]; exact Blk.new _ _ _
      have hp7 : Past w6 w7 := by rw [hw7]; exact (Past.refl w6).alloc _
      obtain ⟨bC, hbC⟩ : ∃ x, x = w6.heap.size := ⟨_, rfl⟩
      rw [← hbC] at hC7 ⊢
      clear hw7 hbC
      replace c0 := hp7.keep c0
      replace c1 := hp7.keep c1
      replace c2 := hp7.keep c2
      replace c3 := hp7.keep c3
      replace c4 := hp7.keep c4
      replace c5 := hp7.keep c5
      have c6 : w7.cell? ⟨bC, 0, none⟩ = some (.slice A6 n1 k6) := hC7.cell 0 rfl
      have c7 : w7.cell? ⟨bC, 1, none⟩ = some (.slice D6 n2 l6) := hC7.cell 1 rfl
      have r1 := (q1.past hp6).past hp7
      have r2 := (q2.past hp6).past hp7
      have r3 := ho1.rd.past hp7
      have r4 := ho2.rd.past hp7
      have hpw : Past w w7 := hp2.trans (hp3.trans (hp4.trans (hp5.trans (hp6.trans hp7))))
      clear hp2 hp3 hp4 hp5 hp6 hp7 ho1 ho2 q1 q2 hbi hsb hsi hrd0 hC7
      have hbl := World.block_lt_of_cell? w7 _ c4
      simp only at hbl
      go_cut [8, 9] (fun s8 s9 wx => ∃ g A' k' D' l', s8 = .pointer (some ⟨g, 0, none⟩) ∧ s9 = .int .i64 0 ∧ BoxAt w7 wx g A' k' D' l' X1 X2)
      case first =>
        go_region_held3 (fun w' => w'.cell? ⟨b, 0, none⟩ = some (.int .i64 (P : Int)) ∧ w'.cell? ⟨b, 1, none⟩ = some (.int .i64 c) ∧ w'.cell? ⟨b, 2, none⟩ = some (.int .i64 h) ∧ w'.cell? ⟨b, 3, none⟩ = some (.int .i64 s) ∧ w'.cell? ⟨b + 1, 0, none⟩ = some (.slice (some ⟨b1, 0, none⟩) n1 l1) ∧ w'.cell? ⟨b + 1, 1, none⟩ = some (.slice (some ⟨b2, 0, none⟩) n2 l2) ∧ Past (w7) w') ((go_split_ands; refine keep_of (a := w7) (S := fun w' => w'.cell? ⟨b, 0, none⟩ = some (.int .i64 (P : Int)) ∧ w'.cell? ⟨b, 1, none⟩ = some (.int .i64 c) ∧ w'.cell? ⟨b, 2, none⟩ = some (.int .i64 h) ∧ w'.cell? ⟨b, 3, none⟩ = some (.int .i64 s) ∧ w'.cell? ⟨b + 1, 0, none⟩ = some (.slice (some ⟨b1, 0, none⟩) n1 l1) ∧ w'.cell? ⟨b + 1, 1, none⟩ = some (.slice (some ⟨b2, 0, none⟩) n2 l2) ∧ Past (w7) w') (by repeat (first | exact Past.refl _ | assumption | refine Past.alloc ?_ _ | refine Past.drew ?_ | refine Past.drewN ?_ _ | refine Past.setCell ?_ (by first | (simp; done) | (simp <;> omega)) _ | refine Past.trans ?_ (past_over _ _) | refine Past.trans ?_ (by assumption))) (fun x hP => ⟨hP.keep (by assumption), hP.keep (by assumption), hP.keep (by assumption), hP.keep (by assumption), hP.keep (by assumption), hP.keep (by assumption), hP⟩))) (first | (go_at_call 43; (with_reducible refine (HBB.out _ (r1.past (by repeat (first | exact Past.refl _ | assumption | refine Past.alloc ?_ _ | refine Past.drew ?_ | refine Past.drewN ?_ _ | refine Past.setCell ?_ (by first | (simp; done) | (simp <;> omega)) _ | refine Past.trans ?_ (past_over _ _) | refine Past.trans ?_ (by assumption)))) (r2.past (by repeat (first | exact Past.refl _ | assumption | refine Past.alloc ?_ _ | refine Past.drew ?_ | refine Past.drewN ?_ _ | refine Past.setCell ?_ (by first | (simp; done) | (simp <;> omega)) _ | refine Past.trans ?_ (past_over _ _) | refine Past.trans ?_ (by assumption))))).mono ?_); rintro e w8 ⟨Ab, kb, rfl, hob8, hb8⟩; (try (have nb := NewBox.past (by first | assumption | exact newBox_alloc _ _ | exact (newBox_alloc _ _).drew) hb8; have nb1 := nb; obtain ⟨nc0, nc1, nf0, nf1⟩ := nb1)); have hs := Past.sz hb8; (try simp only [size_drew] at hs); (try simp only [World.size_alloc] at hs); have rdb := hob8.rd) | (go_at_call 42; (with_reducible refine (HOB.out _ _ _ (by first | exact rdb | exact RdI.drew rdb | exact (RdI.past rdb (by repeat (first | exact Past.refl _ | assumption | refine Past.alloc ?_ _ | refine Past.drew ?_ | refine Past.drewN ?_ _ | refine Past.setCell ?_ (by first | (simp; done) | (simp <;> omega)) _ | refine Past.trans ?_ (past_over _ _) | refine Past.trans ?_ (by assumption)))))).mono ?_); rintro e w8 ⟨Ar, kr, Dr, lr, rfl, hor, hb8⟩; (try (have nb := NewBox.past (by first | assumption | exact newBox_alloc _ _ | exact (newBox_alloc _ _).drew) hb8; have nb1 := nb; obtain ⟨nc0, nc1, nf0, nf1⟩ := nb1)); have hs := Past.sz hb8; (try simp only [size_drew] at hs); (try simp only [World.size_alloc] at hs)))
        all_goals
          go_split_ands
          go_wp2_with fail
          go_meet
          first
          | exact ⟨_, _, _, _, _, rfl, rfl, box_alloc _ hor (by first | omega | (simp <;> omega)) (by repeat (first | exact Past.refl _ | assumption | refine Past.alloc ?_ _ | refine Past.drew ?_ | refine Past.drewN ?_ _ | refine Past.setCell ?_ (by first | (simp; done) | (simp <;> omega)) _ | refine Past.trans ?_ (past_over _ _) | refine Past.trans ?_ (by assumption)))⟩
          | exact ⟨_, _, _, _, _, rfl, rfl, box_set nb hor (by first | omega | (simp <;> omega)) (by first | omega | (simp <;> omega)) (by first | omega | (simp <;> omega)) (by repeat (first | exact Past.refl _ | assumption | refine Past.alloc ?_ _ | refine Past.drew ?_ | refine Past.drewN ?_ _ | refine Past.setCell ?_ (by first | (simp; done) | (simp <;> omega)) _ | refine Past.trans ?_ (past_over _ _) | refine Past.trans ?_ (by assumption)))⟩
      case rest =>
        obtain ⟨w8, rfl⟩ : ∃ w8 : World, w8 = wc := ⟨_, rfl⟩
        obtain ⟨g8, A8, k8, D8, l8, rfl, rfl, hB8⟩ := hcut
        obtain ⟨x0, x1, _, hv8, _, _, hp8⟩ := hB8
        obtain ⟨hy1, hy2, _⟩ := hv8
        rw [HL1.out] at x0 hy1
        rw [HL2.out] at x1 hy2
        replace c0 := hp8.keep c0
        replace c1 := hp8.keep c1
        replace c2 := hp8.keep c2
        replace c3 := hp8.keep c3
        replace c4 := hp8.keep c4
        replace c5 := hp8.keep c5
        replace c6 := hp8.keep c6
        replace c7 := hp8.keep c7
        replace r1 := r1.past hp8
        replace r2 := r2.past hp8
        replace r3 := r3.past hp8
        replace r4 := r4.past hp8
        have r5 := hy1.rd
        have r6 := hy2.rd
        clear hy1 hy2 HBB HOB
        go_wp2_with fail
        (with_reducible refine (w9Boards_same _ _ _ _ _ _ _ _ _ _ _ _ _ _ _ r3 r4 r1 r2 (by omega) (by omega)).mono ?_)
        rintro e w9 ⟨rfl, hp9⟩
        replace c4 := hp9.keep c4
        replace c5 := hp9.keep c5
        replace x0 := hp9.keep x0
        replace x1 := hp9.keep x1
        go_wp2_with fail
        (with_reducible refine (w9Boards_same _ _ _ _ _ _ _ _ _ _ _ _ _ _ _ (r5.past hp9) (r6.past hp9) (r1.past hp9) (r2.past hp9) (by omega) (by omega)).mono ?_)
        rintro e w10 ⟨rfl, hp10⟩
        have hpS : Past w w10 := hpw.trans (hp8.trans (hp9.trans hp10))
        clear hpw hp8 hp9 hp10 r1 r2 r3 r4 r5 r6 c0 c1 c2 c3 c4 c5 c6 c7 x0 x1 HL1 HL2 hok hbl
        go_wp2_with fail
        (with_reducible refine (other_any _ _ _ _ (hx.past hpS (hpS).sz) hyk hn4).mono ?_)
        rintro e wa ⟨ga, ka, rfl, hra, hpa⟩
        go_wp2_with fail
        (with_reducible refine (drawText_any _ _ _ _ hra (by omega)).mono ?_)
        rintro e wb ⟨p', c', h', s', tb', rfl, hbd', hsz', hpb⟩
        go_upto_region 13 with fail
        obtain ⟨wc, hwc⟩ : ∃ x, x = wb.alloc (.cells #[.int .i64 p', .int .i64 c', .int .i64 h', .int .i64 s'] 25) := ⟨_, rfl⟩
        rw [← hwc]
        have hVc : Blk wc wb.heap.size 25 #[.int .i64 p', .int .i64 c', .int .i64 h', .int .i64 s'] := by rw [hwc]; exact Blk.new _ _ _
        have hpc : Past wb wc := by rw [hwc]; exact (Past.refl wb).alloc _
        have hpW : Past w wc := (hpS).trans (hpa.trans (hpb.trans hpc))
        obtain ⟨bW, hbW⟩ : ∃ x, x = wb.heap.size := ⟨_, rfl⟩
        rw [← hbW] at hVc ⊢
        clear hwc hbW hpa hpb hpc hra
        have e0 : wc.cell? ⟨bW, 0, none⟩ = some (.int .i64 p') := hVc.cell 0 rfl
        have e1 : wc.cell? ⟨bW, 1, none⟩ = some (.int .i64 c') := hVc.cell 1 rfl
        have e2 : wc.cell? ⟨bW, 2, none⟩ = some (.int .i64 h') := hVc.cell 2 rfl
        have e3 : wc.cell? ⟨bW, 3, none⟩ = some (.int .i64 s') := hVc.cell 3 rfl
        have hrd := fun w => readId_any p' c' h' s' tb' w (by omega)
        by_cases hc0 : rdC p' c' h' s' tb' = 0
        · obtain ⟨hbb, hid⟩ := read_is hc0
          rw [hc0] at hrd
          have hLM := rd_le p' c' h' s' tb'
          have hL0 : 0 < (rdL p' c' h' s' tb').length ∧ 0 < (rdM p' c' h' s' tb').length := by
            obtain ⟨g1, g2, g3, _, _⟩ := bOk_yes hbb
            have g4 := (sOk_yes g2).1
            have g5 := (sOk_yes g3).1
            have g6 := (vOk_yes g1).1
            omega
          generalize rdL p' c' h' s' tb' = L at *
          generalize rdM p' c' h' s' tb' = M at *
          have hidb : idBd p' c' h' s' L M = tb' := by rw [idBd, if_pos hbb]; exact hid
          clear hid hbb hc0
          go_wp2_with fail
          (with_reducible refine (hrd _).mono ?_)
          rintro e wd ⟨Ad, kd, Dd, ld, rfl, hvd, hpd⟩
          obtain ⟨ho1, ho2, _⟩ := hvd
          obtain ⟨gd1, rfl⟩ := OwI.addr ho1 (by omega)
          obtain ⟨gd2, rfl⟩ := OwI.addr ho2 (by omega)
          replace e0 := hpd.keep e0
          replace e1 := hpd.keep e1
          replace e2 := hpd.keep e2
          replace e3 := hpd.keep e3
          go_upto_region 14 with fail
          obtain ⟨we, hwe⟩ : ∃ x, x = wd.alloc (.cells #[.slice (some ⟨gd1, 0, none⟩) L.length kd, .slice (some ⟨gd2, 0, none⟩) M.length ld] 43) := ⟨_, rfl⟩
          rw [← hwe]
          have hBe : Blk we wd.heap.size 43 #[.slice (some ⟨gd1, 0, none⟩) L.length kd, .slice (some ⟨gd2, 0, none⟩) M.length ld] := by rw [hwe]; exact Blk.new _ _ _
          have hpe : Past wd we := by rw [hwe]; exact (Past.refl wd).alloc _
          obtain ⟨bE, hbE⟩ : ∃ x, x = wd.heap.size := ⟨_, rfl⟩
          rw [← hbE] at hBe ⊢
          clear hwe hbE
          replace e0 := hpe.keep e0
          replace e1 := hpe.keep e1
          replace e2 := hpe.keep e2
          replace e3 := hpe.keep e3
          have e4 : we.cell? ⟨bE, 0, none⟩ = some (.slice (some ⟨gd1, 0, none⟩) L.length kd) := hBe.cell 0 rfl
          have e5 : we.cell? ⟨bE, 1, none⟩ = some (.slice (some ⟨gd2, 0, none⟩) M.length ld) := hBe.cell 1 rfl
          have hbi := fun w hx hy => boardId_any p' c' h' s' gd1 0 gd2 0 L.length kd M.length ld L M w hx hy (by omega) (by omega)
          rw [hidb] at hbi
          go_wp2_with fail
          (with_reducible refine (hbi _ (ho1.rd.past hpe) (ho2.rd.past hpe)).mono ?_)
          rintro e wf ⟨rfl, hpf⟩
          go_wp2_with fail
          go_ret
          exact ⟨rfl, hpW.trans (hpd.trans (hpe.trans hpf))⟩
        · obtain ⟨eL, eM⟩ := rd_none hc0
          rw [eL, eM] at hrd
          generalize rdC p' c' h' s' tb' = K at hc0 hrd
          have hk1 : (K != 0) = true := by rw [bne_iff_ne]; exact hc0
          have hk2 : (K == 0) = false := beq_eq_false_iff_ne.2 hc0
          clear eL eM
          go_wp2_with fail
          (with_reducible refine (hrd _).mono ?_)
          rintro e wd ⟨Ad, kd, Dd, ld, rfl, hvd, hpd⟩
          clear hvd
          go_upto_region 14 with fail
          obtain ⟨we, hwe⟩ : ∃ x, x = wd.alloc (.cells #[.slice Ad 0 kd, .slice Dd 0 ld] 43) := ⟨_, rfl⟩
          rw [← hwe]
          have hBe : Blk we wd.heap.size 43 #[.slice Ad 0 kd, .slice Dd 0 ld] := by rw [hwe]; exact Blk.new _ _ _
          have hpe : Past wd we := by rw [hwe]; exact (Past.refl wd).alloc _
          clear hwe
          have e4 : we.cell? ⟨wd.heap.size, 0, none⟩ = some (.slice Ad 0 kd) := hBe.cell 0 rfl
          go_wp2_with fail
          go_ret
          exact ⟨rfl, hpW.trans (hpd.trans hpe)⟩
  · rw [hd] at hbig
    go_enter Try.func7, Try.ntmps7
    go_wp2_with (go_at_call 11; (with_reducible refine (hbig _).mono ?_); rintro e w9 ⟨rfl, rfl⟩)
    go_ret
    exact ⟨rfl, Past.refl _⟩
end Go.Proofs.Ytapocfgajkkpdaa
