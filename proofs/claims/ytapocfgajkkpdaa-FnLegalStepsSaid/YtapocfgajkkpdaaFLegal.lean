/-
  Every step that is listed is legal, and no other one is: the plain law and the walk.
-/
import Derived.Test.YtapocfgajkkpdaaDrawD
import Derived.Test.YtapocfgajkkpdaaOpenC
import Derived.Test.YtapocfgajkkpdaaLegal
import Derived.Test.YtapocfgajkkpdaaHits
namespace Go.Proofs.Ytapocfgajkkpdaa
open Go.ChangeShapes Go.WideShapes Go.ChangeAt Go.RowKit Go.Joins

theorem w9Steps_same (base base' : Nat) (A D : Option Addr) (n k m l : Nat) (L : List Stp) (w : World) (hx : OwS base w A n k L) (hy : OwS base' w D m l L) (hn : n ≤ 1048576) :
    Calls Try.prog 49 #[.slice A n k, .slice D m l] w fun e w' => e = .returned (.bool true) ∧ Past w w' := by
  obtain rfl : n = m := by have := hx.1; have := hy.1; omega
  go_enter Try.func49, Try.ntmps49
  go_wp2_with fail
  go_loopw [5] (fun i wr => ∃ j : Nat, j ≤ n ∧ i = .int .i64 (j : Int) ∧ Past w wr) (fun i _ => n - (intOf i).toNat)
  case atStart => exact ⟨0, Nat.zero_le _, rfl, Past.refl _⟩
  case round =>
    obtain ⟨j, hj, rfl, hp⟩ := hrel
    by_cases hlt : j < n
    · have i1 : (j : Int) < (n : Int) := by omega
      have i2 : (0 : Int) ≤ (j : Int) := by omega
      obtain ⟨g1, a, rfl, ha, q0, q1, q2, q3⟩ := OwS.at_ (hx.past hp) hlt
      obtain ⟨g2, a', rfl, ha', r0, r1, r2, r3⟩ := OwS.at_ (hy.past hp) hlt
      obtain rfl : a = a' := by rw [ha] at ha'; exact Option.some.inj ha'
      clear ha ha'
      obtain ⟨af, at_, ad, ax⟩ := a
      simp only at q0 q1 q2 q3 r0 r1 r2 r3
      go_wp2_with fail
      go_quiet (fail)
      have hp2 : Past w (wr.drewN nq) := hp.drewN nq
      generalize wr.drewN nq = w2 at hp2 ⊢
      go_wp2_with fail
      go_roundw
      case rel => exact ⟨j + 1, by omega, by go_num, hp2⟩
      case measure => simp [intOf]; omega
    · have i1 : ¬ (j : Int) < (n : Int) := by omega
      go_wp2_with fail
      go_ret
      exact ⟨rfl, hp⟩
def b2i (b : Bool) : Int := if b = true then 1 else 0
/-- How many legal steps lead from points below j. -/
def lgTo (P : Nat) (h : Int) (xs ys : List Int) (d : Int) (j : Nat) : Int := ((legL P h xs ys d).length : Int) - ((legTo P h xs ys d (P + 1 - j)).length : Int)
theorem lgTo_zero (P : Nat) (h : Int) (xs ys : List Int) (d : Int) : lgTo P h xs ys d 0 = 0 := by rw [lgTo, legL_eq, Nat.sub_zero]; omega
theorem lgTo_end (P : Nat) (h : Int) (xs ys : List Int) (d : Int) : lgTo P h xs ys d (P + 1) = ((legL P h xs ys d).length : Int) := by rw [lgTo, Nat.sub_self, legTo]; simp
theorem lgTo_succ {P : Nat} {h : Int} {xs ys : List Int} {d : Int} {j : Nat} (hj : j ≤ P) : lgTo P h xs ys d (j + 1) = lgTo P h xs ys d j + b2i (!overF xs ys && stOk P h xs ys (j : Int) d) := by
  rw [lgTo, lgTo, show P + 1 - j = (P - j) + 1 from by omega, show P + 1 - (j + 1) = P - j from by omega, legTo, show (P : Int) - ((P - j : Nat) : Int) = (j : Int) from by omega]
  unfold b2i
  split
  · simp; omega
  · omega
theorem leg_is {P : Nat} {c h s : Int} {xs ys : List Int} {d : Int} {j : Nat} (hb : bOk P c h s xs ys = true) (hd : win d 1 s = true) (hj : j ≤ P) (x : Bool) :
    isLegF P c h s xs ys ⟨(j : Int), toOf (j : Int) d, d, x⟩ = (!overF xs ys && stOk P h xs ys (j : Int) d && (stHit P ys (j : Int) d == x)) := by
  simp only [isLegF, hb, legB, hd, win_mk (x := (j : Int)) (lo := 0) (hi := (P : Int)) ⟨by omega, by omega⟩, Bool.true_and, stp, Stp.same, decide_true]
  rw [Bool.and_assoc]
theorem leg_sum {P : Nat} {c h s : Int} {xs ys : List Int} {d : Int} {j : Nat} (hb : bOk P c h s xs ys = true) (hd : win d 1 s = true) (hj : j ≤ P) :
    b2i (isLegF P c h s xs ys ⟨(j : Int), toOf (j : Int) d, d, false⟩) + b2i (isLegF P c h s xs ys ⟨(j : Int), toOf (j : Int) d, d, true⟩) = b2i (!overF xs ys && stOk P h xs ys (j : Int) d) := by
  rw [leg_is hb hd hj, leg_is hb hd hj]
  cases (!overF xs ys && stOk P h xs ys (j : Int) d) <;> cases stHit P ys (j : Int) d <;> rfl
def cn2 (a b : Bool) : Nat → Int
  | 0 => 0
  | 1 => b2i a
  | _ => b2i a + b2i b
theorem b2i_bd (a : Bool) : 0 ≤ b2i a ∧ b2i a ≤ 1 := by cases a <;> simp [b2i]
theorem lgTo_bd (P : Nat) (h : Int) (xs ys : List Int) (d : Int) (j : Nat) : -(P : Int) - 1 ≤ lgTo P h xs ys d j ∧ lgTo P h xs ys d j ≤ P + 1 := by
  have h1 := legTo_le P h xs ys d (P + 1)
  have h2 := legTo_le P h xs ys d (P + 1 - j)
  rw [lgTo, legL_eq]
  omega
theorem hitL_x {L : List Stp} {j : Nat} {a : Stp} (h : (hitL L)[j]? = some a) : a.x = true := (List.mem_filter.1 (List.mem_of_getElem? h)).2
theorem hitL_len (L : List Stp) : (hitL L).length ≤ L.length := List.length_filter_le _ _
set_option maxHeartbeats 4000000 in
set_option maxRecDepth 100000 in
theorem FnLegalSteps.walk (w : World) (A : Option Addr) (n k : Nat) (hx : RdC w w.heap.size A n) :
    Calls Try.prog 8 #[.slice A n k] w fun e w' => e = .returned (.bool true) ∧ Past w w' := by
  have hbig := fun w => big_any A n k w
  cases hd : decide (4096 < n)
  · rw [hd] at hbig
    have hn : n ≤ 5000 := by have := of_decide_eq_false hd; omega
    clear hd
    go_enter Try.func8, Try.ntmps8
    go_wp2_with (go_at_call 11; (with_reducible refine (hbig _).mono ?_); rintro e w9 ⟨rfl, rfl⟩)
    (with_reducible refine (drawLegal_any _ _ _ _ hx hn).mono ?_)
    rintro e w1 ⟨p, c, h, s, b1, n1, l1, X1, b2, n2, l2, X2, d, rfl, hbd, rd1, rd2, m1, m2, hp1⟩
    go_upto_region 4 with fail
    obtain ⟨wv, hwv⟩ : ∃ wv, wv = w1.alloc (.cells #[.int .i64 p, .int .i64 c, .int .i64 h, .int .i64 s] 25) := ⟨_, rfl⟩
    have hVv : Blk wv w1.heap.size 25 #[.int .i64 p, .int .i64 c, .int .i64 h, .int .i64 s] := by rw [hwv]; exact Blk.new _ _ _
    have zv : wv.heap.size = w1.heap.size + 1 := by rw [hwv]; simp
    have hpv : Past w1 wv := by rw [hwv]; exact (Past.refl w1).alloc _
    obtain ⟨w2, hw2⟩ : ∃ w2, w2 = wv.alloc (.cells #[.slice (some ⟨b1, 0, none⟩) n1 l1, .slice (some ⟨b2, 0, none⟩) n2 l2] 43) := ⟨_, rfl⟩
    rw [← hwv, ← hw2]
    have hB : Blk w2 (w1.heap.size + 1) 43 #[.slice (some ⟨b1, 0, none⟩) n1 l1, .slice (some ⟨b2, 0, none⟩) n2 l2] := by rw [hw2]; exact Blk.at_ zv.symm
    have hpw : Past wv w2 := by rw [hw2]; exact (Past.refl wv).alloc _
    have hV := hVv.past hpw
    have hp12 := hpv.trans hpw
    have hp2 : Past w w2 := hp1.trans hp12
    have q1 := rd1.past hp12
    have q2 := rd2.past hp12
    obtain ⟨b, hb⟩ : ∃ b, b = w1.heap.size := ⟨_, rfl⟩
    rw [← hb] at hV hB zv ⊢
    clear hw2 hwv hbig hx hb hp1 hVv hpv hpw hp12 rd1 rd2
    have c0 : w2.cell? ⟨b, 0, none⟩ = some (.int .i64 p) := hV.cell 0 rfl
    have c1 : w2.cell? ⟨b, 1, none⟩ = some (.int .i64 c) := hV.cell 1 rfl
    have c2 : w2.cell? ⟨b, 2, none⟩ = some (.int .i64 h) := hV.cell 2 rfl
    have c3 : w2.cell? ⟨b, 3, none⟩ = some (.int .i64 s) := hV.cell 3 rfl
    have c4 : w2.cell? ⟨b + 1, 0, none⟩ = some (.slice (some ⟨b1, 0, none⟩) n1 l1) := hB.cell 0 rfl
    have c5 : w2.cell? ⟨b + 1, 1, none⟩ = some (.slice (some ⟨b2, 0, none⟩) n2 l2) := hB.cell 1 rfl
    have hbz := hB.lt
    have hls := fun w hx hy => legalStepsC p c h s d (some ⟨b1, 0, none⟩) (some ⟨b2, 0, none⟩) n1 l1 n2 l2 X1 X2 w hx hy (by omega) (by omega)
    have hsl := fun w hx hy => sLegalStepsC p c h s d (some ⟨b1, 0, none⟩) (some ⟨b2, 0, none⟩) n1 l1 n2 l2 X1 X2 w hx hy (by omega) (by omega)
    have hit := fun w hx hy => hitSteps p c h s d (some ⟨b1, 0, none⟩) (some ⟨b2, 0, none⟩) n1 l1 n2 l2 X1 X2 w hx hy (by omega) (by omega)
    have hle := lsL_le p c h s X1 X2 d
    have hhl := hitL_len (lsL p c h s X1 X2 d)
    by_cases hok : bOk p c h s X1 X2 = true ∧ win d 1 s = true
    · obtain ⟨hb, hw⟩ := hok
      obtain ⟨hv, hx1, hx2, hsum, hap⟩ := bOk_yes hb
      obtain ⟨hv1, hv2, hv3, hv4⟩ := vOk_yes hv
      obtain ⟨d0, d1⟩ := win_yes hw
      obtain ⟨P, rfl⟩ := Int.eq_ofNat_of_zero_le (show 0 ≤ p from by omega)
      rw [show lsC (P : Int) c h s X1 X2 d = 0 from by simp [lsC, hb, hw], show lsL (P : Int) c h s X1 X2 d = legL P h X1 X2 d from by simp [lsL, hb, hw]] at hls hsl hit
      rw [show lsL (P : Int) c h s X1 X2 d = legL P h X1 X2 d from by simp [lsL, hb, hw]] at hle hhl
      have hle2 := hle
      have HEND := Lib.hid (lgTo_end P h X1 X2 d)
      have HZ := Lib.hid (lgTo_zero P h X1 X2 d)
      have HX := Lib.hid (fun (j : Nat) (a : Stp) (h : (hitL (legL P h X1 X2 d))[j]? = some a) => hitL_x h)
      have HB := Lib.hid hb
      have HW := Lib.hid hw
      clear hv hx1 hx2 hsum hap hb hw
      generalize hLg : legL P h X1 X2 d = L at hls hsl hit hle hhl HEND HX hle2
      generalize hitL L = M at hit hhl HX
      clear hLg
      go_wp2_with fail
      (with_reducible refine (hls _ q1 q2).mono ?_)
      rintro e w3 ⟨A3, k3, rfl, ho3, hp3⟩
      replace c0 := hp3.keep c0
      replace c1 := hp3.keep c1
      replace c2 := hp3.keep c2
      replace c3 := hp3.keep c3
      replace c4 := hp3.keep c4
      replace c5 := hp3.keep c5
      replace q1 := q1.past hp3
      replace q2 := q2.past hp3
      go_wp2_with fail
      (with_reducible refine (hsl _ q1 q2).mono ?_)
      rintro e w4 ⟨A4, k4, rfl, ho4, hp4⟩
      replace c0 := hp4.keep c0
      replace c1 := hp4.keep c1
      replace c2 := hp4.keep c2
      replace c3 := hp4.keep c3
      replace c4 := hp4.keep c4
      replace c5 := hp4.keep c5
      replace q1 := q1.past hp4
      replace q2 := q2.past hp4
      replace ho3 := OwS.past ho3 hp4
      go_wp2_with fail
      (with_reducible refine (w9Steps_same _ _ _ _ _ _ _ _ _ _ ho3 ho4 (by omega)).mono ?_)
      rintro e w5 ⟨rfl, hp5⟩
      replace q1 := q1.past hp5
      replace q2 := q2.past hp5
      replace c0 := hp5.keep c0
      replace c1 := hp5.keep c1
      replace c2 := hp5.keep c2
      replace c3 := hp5.keep c3
      replace c4 := hp5.keep c4
      replace c5 := hp5.keep c5
      have hpw : Past w w5 := hp2.trans (hp3.trans (hp4.trans hp5))
      clear hp2 hp3 hp4 hp5 ho3 ho4 hls hsl hV hB
      go_wp2_with fail
      go_loopw [10, 11, 12, 13] (fun u i _ _ wr => ∃ j : Nat, j ≤ P + 1 ∧ i = .int .i64 (j : Int) ∧ u = .int .i64 (lgTo P h X1 X2 d j) ∧ Past w5 wr) (fun _ i _ _ _ => P + 1 - (intOf i).toNat)
      case atStart => exact ⟨0, Nat.zero_le _, rfl, by rw [HZ.out], Past.refl _⟩
      case round =>
        obtain ⟨j, hj, rfl, rfl, hp⟩ := hrel
        have e0 := hp.keep c0
        have e1 := hp.keep c1
        have e2 := hp.keep c2
        have e3 := hp.keep c3
        have e4 := hp.keep c4
        have e5 := hp.keep c5
        have hlb := lgTo_bd P h X1 X2 d j
        by_cases hlt : j ≤ P
        · have i1 : (j : Int) ≤ (P : Int) := by omega
          have HS := Lib.hid (lgTo_succ (h := h) (xs := X1) (ys := X2) (d := d) hlt)
          have HQ := Lib.hid (leg_sum (c := c) HB.out HW.out hlt)
          obtain ⟨T, hT⟩ : ∃ T, T = toOf (j : Int) d := ⟨_, rfl⟩
          have HIF : Hid ((if -1 < (j : Int) - d then (j : Int) - d else -1) = T) := Lib.hid (by rw [hT]; unfold toOf; split <;> split <;> omega)
          have hTb : -1 ≤ T ∧ T ≤ 100 := by rw [hT]; unfold toOf; split <;> omega
          have hi0 := fun w hx hy => isLegal (P : Int) c h s (j : Int) T d false (some ⟨b1, 0, none⟩) (some ⟨b2, 0, none⟩) n1 l1 n2 l2 X1 X2 w hx hy (by omega) (by omega)
          have hi1 := fun w hx hy => isLegal (P : Int) c h s (j : Int) T d true (some ⟨b1, 0, none⟩) (some ⟨b2, 0, none⟩) n1 l1 n2 l2 X1 X2 w hx hy (by omega) (by omega)
          rw [← hT] at HQ
          obtain ⟨G0, hG0⟩ : ∃ G, G = isLegF (P : Int) c h s X1 X2 ⟨(j : Int), T, d, false⟩ := ⟨_, rfl⟩
          obtain ⟨G1, hG1⟩ : ∃ G, G = isLegF (P : Int) c h s X1 X2 ⟨(j : Int), T, d, true⟩ := ⟨_, rfl⟩
          rw [← hG0] at hi0 HQ
          rw [← hG1] at hi1 HQ
          rw [← HQ.out] at HS
          clear hG0 hG1 HQ hT
          have HI0 := Lib.hid hi0
          have HI1 := Lib.hid hi1
          clear hi0 hi1
          generalize hbase : lgTo P h X1 X2 d j = Q at HS hlb ⊢
          clear hbase
          go_wp2_with fail
          go_loopw [10, 12, 13] (fun u kk _ wi => ∃ e : Nat, e ≤ 2 ∧ kk = .int .i64 (e : Int) ∧ u = .int .i64 (Q + cn2 G0 G1 e) ∧ Past w5 wi) (fun _ kk _ _ => 2 - (intOf kk).toNat)
          case atStart => exact ⟨0, Nat.zero_le _, rfl, by simp [cn2], hp⟩
          case round =>
            obtain ⟨e, he, rfl, rfl, hpi⟩ := hrel
            replace e0 := hpi.keep c0
            replace e1 := hpi.keep c1
            replace e2 := hpi.keep c2
            replace e3 := hpi.keep c3
            replace e4 := hpi.keep c4
            replace e5 := hpi.keep c5
            rcases (by omega : e = 0 ∨ e = 1 ∨ e = 2) with rfl | rfl | rfl
            · rw [show cn2 G0 G1 0 = 0 from rfl]
              have hb0 : 0 ≤ b2i G0 ∧ b2i G0 ≤ 1 := b2i_bd _
              go_upto_region 18 with fail
              rw [HIF.out]
              obtain ⟨wn, hwn⟩ : ∃ wn, wn = wr.alloc (.cells #[.int .i64 (j : Int), .int .i64 T, .int .i64 d, .bool false] 66) := ⟨_, rfl⟩
              rw [← hwn]
              have hN : Blk wn wr.heap.size 66 #[.int .i64 (j : Int), .int .i64 T, .int .i64 d, .bool false] := by rw [hwn]; exact Blk.new _ _ _
              have hpn : Past wr wn := by rw [hwn]; exact (Past.refl wr).alloc _
              clear hwn
              have hpn5 := hpi.trans hpn
              replace e0 := hpn.keep e0
              replace e1 := hpn.keep e1
              replace e2 := hpn.keep e2
              replace e3 := hpn.keep e3
              replace e4 := hpn.keep e4
              replace e5 := hpn.keep e5
              have s0 : wn.cell? ⟨wr.heap.size, 0, none⟩ = some (.int .i64 (j : Int)) := hN.cell 0 rfl
              have s1 : wn.cell? ⟨wr.heap.size, 1, none⟩ = some (.int .i64 T) := hN.cell 1 rfl
              have s2 : wn.cell? ⟨wr.heap.size, 2, none⟩ = some (.int .i64 d) := hN.cell 2 rfl
              have s3 : wn.cell? ⟨wr.heap.size, 3, none⟩ = some (.bool false) := hN.cell 3 rfl
              go_wp2_with fail
              (with_reducible refine (HI0.out _ (q1.past hpn5) (q2.past hpn5)).mono ?_)
              rintro e' w7 ⟨rfl, hp7⟩
              cases G0
              · go_wp2_with fail
                go_roundw
                case rel => exact ⟨1, by omega, by go_num, by simp [cn2, b2i], hpn5.trans hp7⟩
                case measure => simp [intOf]
              · go_wp2_with fail
                go_roundw
                case rel => exact ⟨1, by omega, by go_num, by simp [cn2, b2i] <;> go_num, hpn5.trans hp7⟩
                case measure => simp [intOf]
            · rw [show cn2 G0 G1 1 = b2i G0 from rfl]
              have hb0 : 0 ≤ b2i G0 ∧ b2i G0 ≤ 1 := b2i_bd _
              go_upto_region 18 with fail
              rw [HIF.out]
              obtain ⟨wn, hwn⟩ : ∃ wn, wn = wr.alloc (.cells #[.int .i64 (j : Int), .int .i64 T, .int .i64 d, .bool true] 66) := ⟨_, rfl⟩
              rw [← hwn]
              have hN : Blk wn wr.heap.size 66 #[.int .i64 (j : Int), .int .i64 T, .int .i64 d, .bool true] := by rw [hwn]; exact Blk.new _ _ _
              have hpn : Past wr wn := by rw [hwn]; exact (Past.refl wr).alloc _
              clear hwn
              have hpn5 := hpi.trans hpn
              replace e0 := hpn.keep e0
              replace e1 := hpn.keep e1
              replace e2 := hpn.keep e2
              replace e3 := hpn.keep e3
              replace e4 := hpn.keep e4
              replace e5 := hpn.keep e5
              have s0 : wn.cell? ⟨wr.heap.size, 0, none⟩ = some (.int .i64 (j : Int)) := hN.cell 0 rfl
              have s1 : wn.cell? ⟨wr.heap.size, 1, none⟩ = some (.int .i64 T) := hN.cell 1 rfl
              have s2 : wn.cell? ⟨wr.heap.size, 2, none⟩ = some (.int .i64 d) := hN.cell 2 rfl
              have s3 : wn.cell? ⟨wr.heap.size, 3, none⟩ = some (.bool true) := hN.cell 3 rfl
              go_wp2_with fail
              (with_reducible refine (HI1.out _ (q1.past hpn5) (q2.past hpn5)).mono ?_)
              rintro e' w7 ⟨rfl, hp7⟩
              cases G1
              · go_wp2_with fail
                go_roundw
                case rel => exact ⟨2, by omega, by go_num, by simp [cn2, b2i], hpn5.trans hp7⟩
                case measure => simp [intOf]
              · go_wp2_with fail
                go_roundw
                case rel => exact ⟨2, by omega, by go_num, by simp [cn2, b2i] <;> go_num, hpn5.trans hp7⟩
                case measure => simp [intOf]
            · rw [show cn2 G0 G1 2 = b2i G0 + b2i G1 from rfl]
              go_wp2_with fail
              go_roundw
              case rel => exact ⟨j + 1, by omega, by go_num, by rw [HS.out], hpi⟩
              case measure => simp [intOf]; omega
        · obtain rfl : j = P + 1 := by omega
          rw [HEND.out]
          have HIT := Lib.hid hit
          clear hit
          go_wp2_with fail
          (with_reducible refine (HIT.out _ (q1.past hp) (q2.past hp)).mono ?_)
          rintro e w6 ⟨A5, k5, rfl, ho5, hp6⟩
          go_wp2_with fail
          go_loopw [16] (fun i wr => ∃ j : Nat, j ≤ M.length ∧ i = .int .i64 (j : Int) ∧ Past w6 wr) (fun i _ => M.length - (intOf i).toNat)
          case atStart => exact ⟨0, Nat.zero_le _, rfl, Past.refl _⟩
          case round =>
            obtain ⟨j, hj, rfl, hp7⟩ := hrel
            by_cases hlt : j < M.length
            · have i1 : (j : Int) < (M.length : Int) := by omega
              have i2 : (0 : Int) ≤ (j : Int) := by omega
              obtain ⟨g1, a, rfl, ha, q0, q1', q2', q3⟩ := OwS.at_ (OwS.past ho5 hp7) hlt
              rw [HX.out j a ha] at q3
              clear ha
              go_wp2_with fail
              go_roundw
              case rel => exact ⟨j + 1, by omega, by go_num, hp7⟩
              case measure => simp [intOf]; omega
            · have i1 : ¬ (j : Int) < (M.length : Int) := by omega
              have i2 : (M.length : Int) ≤ (L.length : Int) := by omega
              go_wp2_with fail
              go_ret
              exact ⟨rfl, hpw.trans (hp.trans (hp6.trans hp7))⟩
    · obtain ⟨K, hK, hK0⟩ : ∃ K, lsC p c h s X1 X2 d = K ∧ (K = 1 ∨ K = 2) := by
        unfold lsC
        split
        · split
          · rename_i hb hw
            exact absurd ⟨hb, hw⟩ hok
          · exact ⟨2, rfl, .inr rfl⟩
        · exact ⟨1, rfl, .inl rfl⟩
      have hE : lsL p c h s X1 X2 d = [] := lsC_cases p c h s X1 X2 d (by omega)
      rw [hE, hK] at hls hsl
      clear hit hle hhl hE hK
      go_wp2_with fail
      (with_reducible refine (hls _ q1 q2).mono ?_)
      rintro e w3 ⟨A3, k3, rfl, ho3, hp3⟩
      replace c0 := hp3.keep c0
      replace c1 := hp3.keep c1
      replace c2 := hp3.keep c2
      replace c3 := hp3.keep c3
      replace c4 := hp3.keep c4
      replace c5 := hp3.keep c5
      replace q1 := q1.past hp3
      replace q2 := q2.past hp3
      go_wp2_with fail
      (with_reducible refine (hsl _ q1 q2).mono ?_)
      rintro e w4 ⟨A4, k4, rfl, ho4, hp4⟩
      replace c0 := hp4.keep c0
      replace c1 := hp4.keep c1
      replace c2 := hp4.keep c2
      replace c3 := hp4.keep c3
      replace c4 := hp4.keep c4
      replace c5 := hp4.keep c5
      replace ho3 := OwS.past ho3 hp4
      have hpw : Past w w4 := hp2.trans (hp3.trans hp4)
      rw [List.length_nil] at ho3 ho4
      rcases hK0 with rfl | rfl
      · go_wp2_with fail
        (with_reducible refine (w9Steps_same _ _ _ _ _ _ _ _ _ _ ho3 ho4 (by simp)).mono ?_)
        rintro e w5 ⟨rfl, hp5⟩
        go_wp2_with fail
        go_ret
        exact ⟨rfl, hpw.trans hp5⟩
      · go_wp2_with fail
        (with_reducible refine (w9Steps_same _ _ _ _ _ _ _ _ _ _ ho3 ho4 (by simp)).mono ?_)
        rintro e w5 ⟨rfl, hp5⟩
        go_wp2_with fail
        go_ret
        exact ⟨rfl, hpw.trans hp5⟩
  · rw [hd] at hbig
    go_enter Try.func8, Try.ntmps8
    go_wp2_with (go_at_call 11; (with_reducible refine (hbig _).mono ?_); rintro e w9 ⟨rfl, rfl⟩)
    go_ret
    exact ⟨rfl, Past.refl _⟩
end Go.Proofs.Ytapocfgajkkpdaa
