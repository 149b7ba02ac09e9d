/-
  A side is recovered from its number, and sides in order have numbers in order: the walk.
-/
import Derived.Test.YtapocfgajkkpdaaDrawS
import Derived.Test.YtapocfgajkkpdaaOpenC
import Derived.Test.YtapocfgajkkpdaaDec2
import Derived.Test.YtapocfgajkkpdaaSideOf
namespace Go.Proofs.Ytapocfgajkkpdaa
open Go.ChangeShapes Go.WideShapes Go.ChangeAt Go.RowKit Go.Joins

set_option maxHeartbeats 4000000 in
set_option maxRecDepth 100000 in
theorem FnSideNumbers.walk (w : World) (A : Option Addr) (n k : Nat) (hx : RdC w w.heap.size A n) :
    Calls Try.prog 3 #[.slice A n k] w fun e w' => e = .returned (.bool true) ∧ Past w w' := by
  have hbig := fun w => big_any A n k w
  cases hd : decide (4096 < n)
  · rw [hd] at hbig
    have hn : n ≤ 5000 := by have := of_decide_eq_false hd; omega
    clear hd
    go_enter Try.func3, Try.ntmps3
    go_wp2_with (go_at_call 11; (with_reducible refine (hbig _).mono ?_); rintro e w9 ⟨rfl, rfl⟩)
    (with_reducible refine (drawSideOf_any _ _ _ _ hx hn).mono ?_)
    rintro e w1 ⟨p, c, h, s, N, rfl, hbd, hp1⟩
    go_upto_region 4 with fail
    obtain ⟨w2, hw2⟩ : ∃ w2, w2 = w1.alloc (.cells #[.int .i64 p, .int .i64 c, .int .i64 h, .int .i64 s] 25) := ⟨_, rfl⟩
    rw [← hw2]
    have hV : Blk w2 w1.heap.size 25 #[.int .i64 p, .int .i64 c, .int .i64 h, .int .i64 s] := by rw [hw2]; exact Blk.new _ _ _
    have hp2 : Past w w2 := by rw [hw2]; exact hp1.alloc _
    clear hw2 hbig hx
    obtain ⟨b, hb⟩ : ∃ b, b = w1.heap.size := ⟨_, rfl⟩
    rw [← hb] at hV ⊢
    clear hb hp1
    have c0 : w2.cell? ⟨b, 0, none⟩ = some (.int .i64 p) := hV.cell 0 rfl
    have c1 : w2.cell? ⟨b, 1, none⟩ = some (.int .i64 c) := hV.cell 1 rfl
    have c2 : w2.cell? ⟨b, 2, none⟩ = some (.int .i64 h) := hV.cell 2 rfl
    have c3 : w2.cell? ⟨b, 3, none⟩ = some (.int .i64 s) := hV.cell 3 rfl
    have hbz := hV.lt
    cases ho : soOk p c h s N
    · obtain ⟨K, hK, hK0⟩ : ∃ K, soC p c h s N = K ∧ (K = 1 ∨ K = 4) := by
        cases hv : vOk p c h s
        · exact ⟨1, by simp [soC, hv], .inl rfl⟩
        · exact ⟨4, by simp [soC, hv, ho], .inr rfl⟩
      have h1 := fun w => sideOf_any p c h s N w
      have h2 := fun w => sSideOf_any p c h s N w
      rw [hK, show soL p c h s N = [] from by simp [soL, ho]] at h1 h2
      clear hK
      go_wp2_with fail
      (with_reducible refine (h1 _).mono ?_)
      rintro e w3 ⟨A1, k1, rfl, hown1, hp3⟩
      have d0 := hp3.keep c0
      have d1 := hp3.keep c1
      have d2 := hp3.keep c2
      have d3 := hp3.keep c3
      go_wp2_with fail
      (with_reducible refine (h2 _).mono ?_)
      rintro e w4 ⟨A2, k2, rfl, hown2, hp4⟩
      rcases hK0 with rfl | rfl
      · go_wp2
        go_ret
        exact ⟨rfl, hp2.trans (hp3.trans hp4)⟩
      · go_wp2
        go_ret
        exact ⟨rfl, hp2.trans (hp3.trans hp4)⟩
    · have ho2 := ho
      simp only [soOk, Bool.and_eq_true, decide_eq_true_eq] at ho2
      obtain ⟨hv, hN0, hN1⟩ := ho2
      obtain ⟨hv1, hv2, _, _⟩ := vOk_yes hv
      obtain ⟨P, rfl⟩ := Int.eq_ofNat_of_zero_le (show 0 ≤ p from by omega)
      obtain ⟨C, rfl⟩ := Int.eq_ofNat_of_zero_le (show 0 ≤ c from by omega)
      have hcb := cntI_bd (a := (P : Int) + 1) (b := (C : Int)) (by omega) (by omega)
      have hcn : cntI ((P : Int) + 1) (C : Int) = cnt (P + 1) C := cntI_nat (by omega) (by omega)
      have hP : P ≤ 24 := by omega
      have hC : C ≤ 15 := by omega
      have hOK : okN P C N := ⟨hN0, by rw [← hcn]; exact hN1⟩
      have h1 := fun w => sideOf_any (P : Int) (C : Int) h s N w
      have h2 := fun w => sSideOf_any (P : Int) (C : Int) h s N w
      have HL := Lib.hid (decL_len P C N)
      rw [show soC (P : Int) (C : Int) h s N = 0 from by simp [soC, hv, ho], show soL (P : Int) (C : Int) h s N = decL P C N from by simp [soL, ho]] at h1 h2
      have HSN : Hid (sideNumV (P : Int) (C : Int) h s (decL P C N) = .tuple #[.int .i64 N, .int .i64 0]) := Lib.hid (by
        rw [sideNumV, if_pos (by rw [hv, sOk_dec hP hC hOK]; rfl), Int.toNat_natCast, HL.out, num_of_dec hP hC hOK])
      go_wp2_with fail
      (with_reducible refine (h1 _).mono ?_)
      rintro e w3 ⟨A1, k1, rfl, hown1, hp3⟩
      have d0 := hp3.keep c0
      have d1 := hp3.keep c1
      have d2 := hp3.keep c2
      have d3 := hp3.keep c3
      go_wp2_with fail
      (with_reducible refine (h2 _).mono ?_)
      rintro e w4 ⟨A2, k2, rfl, hown2, hp4⟩
      have e0 := hp4.keep d0
      have e1 := hp4.keep d1
      have e2 := hp4.keep d2
      have e3 := hp4.keep d3
      clear c0 c1 c2 c3 d0 d1 d2 d3 h1 h2 hown2
      have hown := hown1.past hp4
      clear hown1
      go_wp2_with fail
      (with_reducible refine (sideNumber_any _ _ _ _ _ _ _ _ _ _ _ HSN (hown.rd) (by have := HL.out; omega)).mono ?_)
      rintro e w5 ⟨rfl, hp5⟩
      have x0 := hp5.keep e0
      have x1 := hp5.keep e1
      have x2 := hp5.keep e2
      have x3 := hp5.keep e3
      have hown5 := hown.past hp5
      have hN2 : N + 1 ≤ 100000000000 := by omega
      have hl1 : (((decL P C N).length : Int) != (P : Int) + 1) = false := by rw [HL.out]; simp
      have hl2 : (N != N) = false := by simp
      have h3 := fun w => sideOf_any (P : Int) (C : Int) h s (N + 1) w
      by_cases hm : N + 1 < cntI ((P : Int) + 1) (C : Int)
      · have ho3 : soOk (P : Int) (C : Int) h s (N + 1) = true := by simp [soOk, hv, hm]; omega
        rw [show soC (P : Int) (C : Int) h s (N + 1) = 0 from by simp [soC, hv, ho3], show soL (P : Int) (C : Int) h s (N + 1) = decL P C (N + 1) from by simp [soL, ho3]] at h3
        obtain ⟨t, htP, hpre, xa, xb, hxa, hxb, hab⟩ := dec_lex hP hC hOK (⟨by omega, by rw [← hcn]; exact hm⟩ : okN P C (N + 1)) (by omega)
        have HM := Lib.hid (decL_len P C (N + 1))
        generalize decL P C N = L at *
        generalize decL P C (N + 1) = M at *
        have HPRE := Lib.hid hpre
        clear hpre HSN hown
        go_wp2_with fail
        (with_reducible refine (h3 _).mono ?_)
        rintro e w6 ⟨A3, k3, rfl, hown6, hp6⟩
        have rdL := (hown5.past hp6).rd
        have rdM := hown6.rd
        have hpw : Past w w6 := hp2.trans (hp3.trans (hp4.trans (hp5.trans hp6)))
        have htL : t < L.length := by have := HL.out; omega
        have htM : t < M.length := by have := HM.out; omega
        clear hown5 hown6 h3 hp6 hp5 hp4 hp3 hp2 x0 x1 x2 x3 e0 e1 e2 e3 hV HL HM hm ho ho3 hv hcn hcb hN1 hl1
        go_wp2_with fail
        go_loopw [13] (fun i wr => ∃ j : Nat, j ≤ t ∧ i = .int .i64 (j : Int) ∧ Past w6 wr) (fun i _ => t + 1 - (intOf i).toNat)
        case atStart => exact ⟨0, Nat.zero_le _, rfl, Past.refl _⟩
        case round =>
          obtain ⟨j, hj, rfl, hp⟩ := hrel
          have i1 : (j : Int) < (L.length : Int) := by omega
          have i2 : (j : Int) < (M.length : Int) := by omega
          have i3 : (0 : Int) ≤ (j : Int) := by omega
          obtain ⟨g1, o1, y1, rfl, hy1, q1⟩ := (rdL.past hp).at_ (show j < L.length by omega)
          obtain ⟨g2, o2, y2, rfl, hy2, q2⟩ := (rdM.past hp).at_ (show j < M.length by omega)
          by_cases hjt : j = t
          · subst hjt
            rw [hxa] at hy1
            rw [hxb] at hy2
            obtain rfl := Option.some.inj hy1
            obtain rfl := Option.some.inj hy2
            have hne : (xa != xb) = true := by rw [bne_iff_ne]; omega
            clear hxa hxb HPRE
            go_wp2_with fail
            go_quiet (fail)
            obtain ⟨w7, hw7⟩ : ∃ w7, w7 = wr.drewN nq := ⟨_, rfl⟩
            rw [← hw7]
            have hp7 : Past wr w7 := by rw [hw7]; exact (Past.refl wr).drewN nq
            clear hw7 nq
            replace q1 := hp7.keep q1
            replace q2 := hp7.keep q2
            go_wp2_with fail
            go_quiet (fail)
            have hp8 : Past w (w7.drewN nq) := (hpw.trans (hp.trans hp7)).drewN nq
            generalize w7.drewN nq = w8 at hp8 ⊢
            go_wp2_with fail
            go_ret
            exact ⟨rfl, hp8⟩
          · have he := HPRE.out j (by omega)
            rw [hy1, hy2] at he
            obtain rfl := Option.some.inj he
            have hne : (y1 != y1) = false := by simp
            clear hxa hxb hy1 hy2
            go_wp2_with fail
            go_quiet (fail)
            obtain ⟨w7, hw7⟩ : ∃ w7, w7 = wr.drewN nq := ⟨_, rfl⟩
            rw [← hw7]
            have hp7 : Past wr w7 := by rw [hw7]; exact (Past.refl wr).drewN nq
            clear hw7 nq
            go_wp2_with fail
            go_roundw
            case rel => exact ⟨j + 1, by omega, by go_num, hp.trans hp7⟩
            case measure => simp [intOf]; omega
      · have ho3 : soOk (P : Int) (C : Int) h s (N + 1) = false := by simp [soOk, hv, hm]
        rw [show soC (P : Int) (C : Int) h s (N + 1) = 4 from by simp [soC, hv, ho3], show soL (P : Int) (C : Int) h s (N + 1) = [] from by simp [soL, ho3]] at h3
        have hsc := fun w => sideCount (P : Int) (C : Int) h s w
        rw [show countF (P : Int) (C : Int) h s = N + 1 from by rw [countF, if_pos hv]; omega] at hsc
        generalize decL P C N = L at *
        go_wp2_with fail
        (with_reducible refine (h3 _).mono ?_)
        rintro e w6 ⟨A3, k3, rfl, hown6, hp6⟩
        have y0 := hp6.keep x0
        have y1 := hp6.keep x1
        have y2 := hp6.keep x2
        have y3 := hp6.keep x3
        go_wp2_with fail
        (with_reducible refine (hsc _).mono ?_)
        rintro e w7 ⟨rfl, hp7⟩
        go_wp2
        go_ret
        exact ⟨rfl, hp2.trans (hp3.trans (hp4.trans (hp5.trans (hp6.trans hp7))))⟩
  · rw [hd] at hbig
    go_enter Try.func3, Try.ntmps3
    go_wp2_with (go_at_call 11; (with_reducible refine (hbig _).mono ?_); rintro e w9 ⟨rfl, rfl⟩)
    go_ret
    exact ⟨rfl, Past.refl _⟩
end Go.Proofs.Ytapocfgajkkpdaa
