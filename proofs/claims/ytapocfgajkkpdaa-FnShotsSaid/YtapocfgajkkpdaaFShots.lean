/-
  A die is a direct shot at a blot exactly if the other player can hit there: the plain law and the walk.
-/
import Derived.Test.YtapocfgajkkpdaaDrawI
import Derived.Test.YtapocfgajkkpdaaOpenC
import Derived.Test.YtapocfgajkkpdaaLike
import Derived.Test.YtapocfgajkkpdaaSym
import Derived.Test.YtapocfgajkkpdaaShots
namespace Go.Proofs.Ytapocfgajkkpdaa
open Go.ChangeShapes Go.WideShapes Go.ChangeAt Go.RowKit Go.Joins

theorem hasInt_any (A : Option Addr) (n k : Nat) (xs : List Int) (x : Int) (w : World) (hx : RdI w A n xs) (hn : n ≤ 1048576) :
    Calls Try.prog 61 #[.slice A n k, .int .i64 x] w fun e w' => e = .returned (.bool (decide (x ∈ xs))) ∧ Past w w' := by
  go_enter Try.func61, Try.ntmps61
  go_wp2_with fail
  go_loopw [5] (fun i wr => ∃ j : Nat, j ≤ n ∧ i = .int .i64 (j : Int) ∧ Hid (∀ t, t < j → xs[t]? ≠ some x) ∧ Past w wr) (fun i _ => n - (intOf i).toNat)
  case atStart => exact ⟨0, Nat.zero_le _, rfl, Lib.hid (fun t ht => absurd ht (Nat.not_lt_zero _)), Past.refl _⟩
  case round =>
    obtain ⟨j, hj, rfl, HN, hp⟩ := hrel
    by_cases hlt : j < n
    · have i1 : (j : Int) < (n : Int) := by omega
      have i2 : (0 : Int) ≤ (j : Int) := by omega
      obtain ⟨g1, o1, y, rfl, hy, q1⟩ := (hx.past hp).at_ hlt
      by_cases hyx : y = x
      · subst hyx
        have HM := Lib.hid (show y ∈ xs from List.mem_of_getElem? hy)
        clear hy
        go_wp2_with fail
        go_ret
        refine ⟨?_, hp⟩
        rw [decide_eq_true HM.out]
        rfl
      · have HN2 := Lib.hid (show ∀ t, t < j + 1 → xs[t]? ≠ some x from fun t ht => by
          by_cases e : t = j
          · subst e
            rw [hy]
            intro h
            exact hyx (Option.some.inj h)
          · exact HN.out t (by omega))
        clear hy
        go_wp2_with fail
        go_roundw
        case rel => exact ⟨j + 1, by omega, by go_num, HN2, hp⟩
        case measure => simp [intOf]; omega
    · have i1 : ¬ (j : Int) < (n : Int) := by omega
      have hm : ¬ x ∈ xs := fun h => by
        obtain ⟨t, ht, rfl⟩ := List.getElem_of_mem h
        exact HN.out t (by have := hx.1; omega) (List.getElem?_eq_getElem ht)
      have HM := Lib.hid hm
      clear hm
      go_wp2_with fail
      go_ret
      refine ⟨?_, hp⟩
      rw [decide_eq_false HM.out]
      rfl
theorem mem_shots {p h : Int} {xs ys : List Int} {i : Int} {j : Nat} {x : Int} : x ∈ shotsTo p h xs ys i j ↔ ∃ e : Nat, e < j ∧ x = (e : Int) + 1 ∧ shB p h xs ys i x = true := by
  induction j with
  | zero => simp [shotsTo]
  | succ j ih =>
    unfold shotsTo
    split
    · rename_i hs
      rw [List.mem_append, ih, List.mem_singleton]
      constructor
      · rintro (⟨e, h1, h2, h3⟩ | rfl)
        · exact ⟨e, by omega, h2, h3⟩
        · exact ⟨j, by omega, rfl, hs⟩
      · rintro ⟨e, h1, h2, h3⟩
        by_cases he : e = j
        · subst he
          exact .inr h2
        · exact .inl ⟨e, by omega, h2, h3⟩
    · rename_i hs
      rw [ih]
      constructor
      · rintro ⟨e, h1, h2, h3⟩
        exact ⟨e, by omega, h2, h3⟩
      · rintro ⟨e, h1, h2, h3⟩
        by_cases he : e = j
        · subst he
          subst h2
          exact absurd h3 hs
        · exact ⟨e, by omega, h2, h3⟩
theorem shot_is {p h : Int} {xs ys : List Int} {i : Int} {S j : Nat} (hj : j < S) : decide ((j : Int) + 1 ∈ shotsTo p h xs ys i S) = shB p h xs ys i ((j : Int) + 1) := by
  cases hs : shB p h xs ys i ((j : Int) + 1)
  · refine decide_eq_false fun hm => ?_
    obtain ⟨e, _, _, h3⟩ := mem_shots.1 hm
    rw [hs] at h3
    cases h3
  · exact decide_eq_true (mem_shots.2 ⟨j, hj, rfl, hs⟩)
theorem mem_blots {xs : List Int} {j : Nat} {i : Nat} (hi : i < j) (hx : xs.getD i 0 = 1) : (i : Int) ∈ blotsTo xs j := by
  induction j with
  | zero => omega
  | succ j ih =>
    unfold blotsTo
    by_cases he : i = j
    · subst he
      rw [if_pos hx]
      simp
    · split
      · exact List.mem_append_left _ (ih (by omega))
      · exact ih (by omega)
theorem any_take {T : Int} {L : List Stp} {j : Nat} {a : Stp} (ha : L[j]? = some a) : (L.take (j + 1)).any (hitsT T) = ((L.take j).any (hitsT T) || hitsT T a) := by
  obtain ⟨hj, rfl⟩ := List.getElem?_eq_some_iff.1 ha
  rw [List.take_succ_eq_append_getElem hj, List.any_append]
  simp
set_option maxHeartbeats 4000000 in
set_option maxRecDepth 100000 in
theorem FnShots.walk (w : World) (A : Option Addr) (n k : Nat) (hx : RdC w w.heap.size A n) :
    Calls Try.prog 10 #[.slice A n k] w fun e w' => e = .returned (.bool true) ∧ Past w w' := by
  have hbig := fun w => big_any A n k w
  cases hd : decide (4096 < n)
  · rw [hd] at hbig
    have hn : n ≤ 5000 := by have := of_decide_eq_false hd; omega
    clear hd
    go_enter Try.func10, Try.ntmps10
    go_wp2_with (go_at_call 11; (with_reducible refine (hbig _).mono ?_); rintro e w9 ⟨rfl, rfl⟩)
    (with_reducible refine (drawShots_any _ _ _ _ hx hn).mono ?_)
    rintro e w1 ⟨p, c, h, s, b1, n1, l1, X1, b2, n2, l2, X2, i, rfl, hbd, rd1, rd2, m1, m2, hp1⟩
    go_upto_region 4 with fail
    obtain ⟨wv, hwv⟩ : ∃ wv, wv = w1.alloc (.cells #[.int .i64 p, .int .i64 c, .int .i64 h, .int .i64 s] 25) := ⟨_, rfl⟩
    have hVv : Blk wv w1.heap.size 25 #[.int .i64 p, .int .i64 c, .int .i64 h, .int .i64 s] := by rw [hwv]; exact Blk.new _ _ _
    have zv : wv.heap.size = w1.heap.size + 1 := by rw [hwv]; simp
    have hpv : Past w1 wv := by rw [hwv]; exact (Past.refl w1).alloc _
    obtain ⟨w2, hw2⟩ : ∃ w2, w2 = wv.alloc (.cells #[.slice (some ⟨b1, 0, none⟩) n1 l1, .slice (some ⟨b2, 0, none⟩) n2 l2] 43) := ⟨_, rfl⟩
    rw [← hwv, ← hw2]
    have hB : Blk w2 (w1.heap.size + 1) 43 #[.slice (some ⟨b1, 0, none⟩) n1 l1, .slice (some ⟨b2, 0, none⟩) n2 l2] := by rw [hw2]; exact Blk.at_ zv.symm
    have hpw : Past wv w2 := by rw [hw2]; exact (Past.refl wv).alloc _
    have hV := hVv.past hpw
    have hp12 := hpv.trans hpw
    have hp2 : Past w w2 := hp1.trans hp12
    have q1 := rd1.past hp12
    have q2 := rd2.past hp12
    obtain ⟨b, hb⟩ : ∃ b, b = w1.heap.size := ⟨_, rfl⟩
    rw [← hb] at hV hB zv ⊢
    clear hw2 hwv hbig hx hb hp1 hVv hpv hpw hp12 rd1 rd2
    have c0 : w2.cell? ⟨b, 0, none⟩ = some (.int .i64 p) := hV.cell 0 rfl
    have c1 : w2.cell? ⟨b, 1, none⟩ = some (.int .i64 c) := hV.cell 1 rfl
    have c2 : w2.cell? ⟨b, 2, none⟩ = some (.int .i64 h) := hV.cell 2 rfl
    have c3 : w2.cell? ⟨b, 3, none⟩ = some (.int .i64 s) := hV.cell 3 rfl
    have c4 : w2.cell? ⟨b + 1, 0, none⟩ = some (.slice (some ⟨b1, 0, none⟩) n1 l1) := hB.cell 0 rfl
    have c5 : w2.cell? ⟨b + 1, 1, none⟩ = some (.slice (some ⟨b2, 0, none⟩) n2 l2) := hB.cell 1 rfl
    have hbz := hB.lt
    have hls := fun w hx hy => shots_any p c h s i (some ⟨b1, 0, none⟩) (some ⟨b2, 0, none⟩) n1 l1 n2 l2 X1 X2 w hx hy (by omega) (by omega)
    have hsl := fun w hx hy => sShots_any p c h s i (some ⟨b1, 0, none⟩) (some ⟨b2, 0, none⟩) n1 l1 n2 l2 X1 X2 w hx hy (by omega) (by omega)
    have hbl := fun w hx hy => blots_any p c h s (some ⟨b1, 0, none⟩) (some ⟨b2, 0, none⟩) n1 l1 n2 l2 X1 X2 w hx hy (by omega) (by omega)
    have hle := dsL_le p c h s X1 X2 i
    have hbe := blotsL_le p c h s X1 X2
    cases hok : dsOk p c h s X1 X2 i
    · obtain ⟨K, hK, hK0⟩ : ∃ K, dsC p c h s X1 X2 i = K ∧ (K = 1 ∨ K = 4) := by
        unfold dsC
        split
        · rename_i hb
          split
          · rename_i hw
            exfalso
            simp only [dsOk, hb, hw, Bool.and_true] at hok
            cases hok
          · exact ⟨4, rfl, .inr rfl⟩
        · exact ⟨1, rfl, .inl rfl⟩
      rw [show dsL p c h s X1 X2 i = [] from by simp [dsL, hok], hK] at hls hsl
      clear hle hbe hbl hK
      go_wp2_with fail
      (with_reducible refine (hls _ q1 q2).mono ?_)
      rintro e w3 ⟨A3, k3, rfl, ho3, hp3⟩
      replace c0 := hp3.keep c0
      replace c1 := hp3.keep c1
      replace c2 := hp3.keep c2
      replace c3 := hp3.keep c3
      replace c4 := hp3.keep c4
      replace c5 := hp3.keep c5
      replace q1 := q1.past hp3
      replace q2 := q2.past hp3
      go_wp2_with fail
      (with_reducible refine (hsl _ q1 q2).mono ?_)
      rintro e w4 ⟨A4, k4, rfl, ho4, hp4⟩
      replace c0 := hp4.keep c0
      replace c1 := hp4.keep c1
      replace c2 := hp4.keep c2
      replace c3 := hp4.keep c3
      replace c4 := hp4.keep c4
      replace c5 := hp4.keep c5
      have ra := (OwI.rd ho3).past hp4
      have rb := OwI.rd ho4
      rw [List.length_nil] at ra rb
      have hpw : Past w w4 := hp2.trans (hp3.trans hp4)
      rcases hK0 with rfl | rfl
      · go_wp2_with fail
        (with_reducible refine (likeInts_same _ _ _ _ _ _ _ _ ra rb (by simp)).mono ?_)
        rintro e w5 ⟨rfl, hp5⟩
        go_wp2_with fail
        go_ret
        exact ⟨rfl, hpw.trans hp5⟩
      · go_wp2_with fail
        (with_reducible refine (likeInts_same _ _ _ _ _ _ _ _ ra rb (by simp)).mono ?_)
        rintro e w5 ⟨rfl, hp5⟩
        go_wp2_with fail
        go_ret
        exact ⟨rfl, hpw.trans hp5⟩
    · have hok2 := hok
      simp only [dsOk, Bool.and_eq_true] at hok2
      obtain ⟨hb, hw, hg⟩ := hok2
      have hg1 : gAt X1 i = 1 := eq_of_beq hg
      have hbt := bOk_turn hb
      obtain ⟨hv, hx1, hx2, hsum, hap⟩ := bOk_yes hb
      obtain ⟨hv1, hv2, hv3, hv4⟩ := vOk_yes hv
      obtain ⟨d0, d1⟩ := win_yes hw
      obtain ⟨P, rfl⟩ := Int.eq_ofNat_of_zero_le (show 0 ≤ p from by omega)
      obtain ⟨I, rfl⟩ := Int.eq_ofNat_of_zero_le d0
      obtain ⟨S, rfl⟩ := Int.eq_ofNat_of_zero_le (show 0 ≤ s from by omega)
      rw [show dsC (P : Int) c h (S : Int) X1 X2 (I : Int) = 0 from by simp [dsC, hb, hw, hg], show dsL (P : Int) c h (S : Int) X1 X2 (I : Int) = shotsTo (P : Int) h X1 X2 (I : Int) S from by rw [dsL, if_pos hok, Int.toNat_natCast]] at hls hsl
      rw [show dsL (P : Int) c h (S : Int) X1 X2 (I : Int) = shotsTo (P : Int) h X1 X2 (I : Int) S from by rw [dsL, if_pos hok, Int.toNat_natCast]] at hle
      rw [show codeB (P : Int) c h (S : Int) X1 X2 = 0 from by simp [codeB, hb], show blotsL (P : Int) c h (S : Int) X1 X2 = blotsTo X1 P from by rw [blotsL, if_pos hb, Int.toNat_natCast]] at hbl
      rw [show blotsL (P : Int) c h (S : Int) X1 X2 = blotsTo X1 P from by rw [blotsL, if_pos hb, Int.toNat_natCast]] at hbe
      have hib : decide ((I : Int) ∈ blotsTo X1 P) = true := decide_eq_true (mem_blots (by omega) (by rw [gAt, Int.toNat_natCast] at hg1; exact hg1))
      have hl1 : X1.length = n1 := q1.1
      have hl2 : X2.length = n2 := q2.1
      have hn0 : 0 < n1 ∧ 0 < n2 := by
        have e1 := (sOk_yes hx1).1
        have e2 := (sOk_yes hx2).1
        omega
      have hsw := fun w hx hy => swapBoard_any (P : Int) c h (S : Int) b1 0 b2 0 n1 l1 n2 l2 X1 X2 w hx hy (by omega) (by omega)
      rw [show swapL (P : Int) c h (S : Int) X1 X2 = X2 from by simp [swapL, hb], show swapM (P : Int) c h (S : Int) X1 X2 = X1 from by simp [swapM, hb]] at hsw
      have HSH := Lib.hid (fun (j : Nat) (hj : j < S) => shot_is (p := (P : Int)) (h := h) (xs := X1) (ys := X2) (i := (I : Int)) hj)
      have HTB := Lib.hid hbt
      have HL1 := Lib.hid hl1
      have HL2 := Lib.hid hl2
      clear hok hb hw hg hg1 hv hx1 hx2 hsum hap hbt hl1 hl2
      obtain ⟨SL, hSL⟩ : ∃ SL, SL = shotsTo (P : Int) h X1 X2 (I : Int) S := ⟨_, rfl⟩
      obtain ⟨BL, hBL⟩ : ∃ BL, BL = blotsTo X1 P := ⟨_, rfl⟩
      rw [← hSL] at hls hsl hle HSH
      rw [← hBL] at hbl hbe hib
      clear hSL hBL
      go_wp2_with fail
      (with_reducible refine (hls _ q1 q2).mono ?_)
      rintro e w3 ⟨A3, k3, rfl, ho3, hp3⟩
      replace c0 := hp3.keep c0
      replace c1 := hp3.keep c1
      replace c2 := hp3.keep c2
      replace c3 := hp3.keep c3
      replace c4 := hp3.keep c4
      replace c5 := hp3.keep c5
      replace q1 := q1.past hp3
      replace q2 := q2.past hp3
      go_wp2_with fail
      (with_reducible refine (hsl _ q1 q2).mono ?_)
      rintro e w4 ⟨A4, k4, rfl, ho4, hp4⟩
      replace c0 := hp4.keep c0
      replace c1 := hp4.keep c1
      replace c2 := hp4.keep c2
      replace c3 := hp4.keep c3
      replace c4 := hp4.keep c4
      replace c5 := hp4.keep c5
      replace q1 := q1.past hp4
      replace q2 := q2.past hp4
      have ra := (OwI.rd ho3).past hp4
      have rb := OwI.rd ho4
      go_wp2_with fail
      (with_reducible refine (likeInts_same _ _ _ _ _ _ _ _ ra rb (by omega)).mono ?_)
      rintro e w5 ⟨rfl, hp5⟩
      replace q1 := q1.past hp5
      replace q2 := q2.past hp5
      replace ra := ra.past hp5
      replace c0 := hp5.keep c0
      replace c1 := hp5.keep c1
      replace c2 := hp5.keep c2
      replace c3 := hp5.keep c3
      replace c4 := hp5.keep c4
      replace c5 := hp5.keep c5
      have hpw : Past w w5 := hp2.trans (hp3.trans (hp4.trans hp5))
      clear hp2 hp3 hp4 hp5 ho3 ho4 hls hsl hV hB rb
      go_wp2_with fail
      (with_reducible refine (hbl _ q1 q2).mono ?_)
      rintro e w6 ⟨A6, k6, rfl, ho6, hp6⟩
      replace c0 := hp6.keep c0
      replace c1 := hp6.keep c1
      replace c2 := hp6.keep c2
      replace c3 := hp6.keep c3
      replace c4 := hp6.keep c4
      replace c5 := hp6.keep c5
      replace q1 := q1.past hp6
      replace q2 := q2.past hp6
      replace ra := ra.past hp6
      replace hpw := hpw.trans hp6
      have rB := OwI.rd ho6
      clear hp6 ho6 hbl
      go_wp2_with fail
      (with_reducible refine (hsw _ q1 q2).mono ?_)
      rintro e w7 ⟨A7, k7, D7, l7, rfl, hval, hp7⟩
      replace c0 := hp7.keep c0
      replace c1 := hp7.keep c1
      replace c2 := hp7.keep c2
      replace c3 := hp7.keep c3
      replace c4 := hp7.keep c4
      replace c5 := hp7.keep c5
      obtain ⟨hv1', hv2', _⟩ := hval
      rw [HL1.out] at hv2'
      rw [HL2.out] at hv1'
      obtain ⟨b3, rfl⟩ := OwI.addr hv1' (by omega)
      obtain ⟨b4, rfl⟩ := OwI.addr hv2' (by omega)
      rw [HL1.out, HL2.out]
      go_upto_region 12 with fail
      obtain ⟨w8, hw8⟩ : ∃ w8, w8 = w7.alloc (.cells #[.slice (some ⟨b3, 0, none⟩) n2 k7, .slice (some ⟨b4, 0, none⟩) n1 l7] 43) := ⟨_, rfl⟩
      rw [← hw8]
      have hC8 : Blk w8 w7.heap.size 43 #[.slice (some ⟨b3, 0, none⟩) n2 k7, .slice (some ⟨b4, 0, none⟩) n1 l7] := by rw [hw8]; exact Blk.new _ _ _
      have hp8 : Past w7 w8 := by rw [hw8]; exact (Past.refl w7).alloc _
      obtain ⟨bC, hbC⟩ : ∃ b, b = w7.heap.size := ⟨_, rfl⟩
      rw [← hbC] at hC8 ⊢
      clear hw8 hbC
      have c6 : w8.cell? ⟨bC, 0, none⟩ = some (.slice (some ⟨b3, 0, none⟩) n2 k7) := hC8.cell 0 rfl
      have c7 : w8.cell? ⟨bC, 1, none⟩ = some (.slice (some ⟨b4, 0, none⟩) n1 l7) := hC8.cell 1 rfl
      replace c0 := hp8.keep c0
      replace c1 := hp8.keep c1
      replace c2 := hp8.keep c2
      replace c3 := hp8.keep c3
      replace c4 := hp8.keep c4
      replace c5 := hp8.keep c5
      have r3 := hv1'.rd.past hp8
      have r4 := hv2'.rd.past hp8
      replace rB := (rB.past hp7).past hp8
      replace ra := (ra.past hp7).past hp8
      replace hpw := hpw.trans (hp7.trans hp8)
      clear hv1' hv2' q1 q2 hp7 hp8 hsw HL1 HL2 hC8
      go_wp2_with fail
      go_loopw [13, 14, 15, 16, 17] (fun i _ _ _ _ wr => ∃ j : Nat, j ≤ S ∧ i = .int .i64 ((j : Int) + 1) ∧ Past w8 wr) (fun i _ _ _ _ _ => S + 1 - (intOf i).toNat)
      case atStart => exact ⟨0, Nat.zero_le _, rfl, Past.refl _⟩
      case round =>
        obtain ⟨j, hj, rfl, hp⟩ := hrel
        have e0 := hp.keep c0
        have e1 := hp.keep c1
        have e2 := hp.keep c2
        have e3 := hp.keep c3
        have e4 := hp.keep c4
        have e5 := hp.keep c5
        have e6 := hp.keep c6
        have e7 := hp.keep c7
        by_cases hlt : j < S
        · have i1 : (j : Int) + 1 ≤ (S : Int) := by omega
          have hit := fun w hx hy => hitSteps (P : Int) c h (S : Int) ((j : Int) + 1) (some ⟨b3, 0, none⟩) (some ⟨b4, 0, none⟩) n2 k7 n1 l7 X2 X1 w hx hy (by omega) (by omega)
          have hwj : win ((j : Int) + 1) 1 (S : Int) = true := win_mk ⟨by omega, by omega⟩
          have hll := hitL_le (P : Int) c h (S : Int) X2 X1 ((j : Int) + 1)
          rw [show lsC (P : Int) c h (S : Int) X2 X1 ((j : Int) + 1) = 0 from by simp [lsC, HTB.out, hwj], show lsL (P : Int) c h (S : Int) X2 X1 ((j : Int) + 1) = legL (P : Int) h X2 X1 ((j : Int) + 1) from by simp [lsL, HTB.out, hwj]] at hit
          rw [show lsL (P : Int) c h (S : Int) X2 X1 ((j : Int) + 1) = legL (P : Int) h X2 X1 ((j : Int) + 1) from by simp [lsL, HTB.out, hwj]] at hll
          have hsh := HSH.out j hlt
          unfold shB at hsh
          rw [← any_hit] at hsh
          have HX := Lib.hid (fun (t : Nat) (a : Stp) (h' : (hitL (legL (P : Int) h X2 X1 ((j : Int) + 1)))[t]? = some a) => hitL_x h')
          generalize hitL (legL (P : Int) h X2 X1 ((j : Int) + 1)) = M at hit hll hsh HX
          have HSJ := Lib.hid hsh
          have HIT := Lib.hid hit
          clear hit hsh hwj
          go_wp2_with fail
          (with_reducible refine (HIT.out _ (r3.past hp) (r4.past hp)).mono ?_)
          rintro e w9 ⟨A9, k9, rfl, ho9, hp9⟩
          go_wp2_with fail
          go_loopw [16, 17] (fun u i wi => ∃ t : Nat, t ≤ M.length ∧ i = .int .i64 (t : Int) ∧ u = .bool ((M.take t).any (hitsT ((P : Int) - 1 - (I : Int)))) ∧ Past w9 wi) (fun _ i _ => M.length - (intOf i).toNat)
          case atStart => exact ⟨0, Nat.zero_le _, rfl, rfl, Past.refl _⟩
          case round =>
            obtain ⟨t, ht, rfl, rfl, hpi⟩ := hrel
            have x0 := (hp9.trans hpi).keep e0
            have x1 := (hp9.trans hpi).keep e1
            have x2 := (hp9.trans hpi).keep e2
            have x3 := (hp9.trans hpi).keep e3
            have x4 := (hp9.trans hpi).keep e4
            have x5 := (hp9.trans hpi).keep e5
            have x6 := (hp9.trans hpi).keep e6
            have x7 := (hp9.trans hpi).keep e7
            by_cases htl : t < M.length
            · have j1 : (t : Int) < (M.length : Int) := by omega
              have j2 : (0 : Int) ≤ (t : Int) := by omega
              obtain ⟨g1, a, rfl, ha, y0, y1, y2, y3⟩ := OwS.at_ (OwS.past ho9 hpi) htl
              have hax := HX.out t a ha
              have HT : Hid ((M.take (t + 1)).any (hitsT ((P : Int) - 1 - (I : Int))) = ((M.take t).any (hitsT ((P : Int) - 1 - (I : Int))) || (a.t == (P : Int) - 1 - (I : Int)))) := Lib.hid (by rw [any_take ha, hitsT, hax, Bool.true_and])
              obtain ⟨af, at_, ad, ax⟩ := a
              simp only at y0 y1 y2 y3 HT hax
              clear ha hax
              cases hF : (M.take t).any (hitsT ((P : Int) - 1 - (I : Int)))
              · rw [hF] at HT
                by_cases hq : at_ = (P : Int) - 1 - (I : Int)
                · have hqb : (at_ == (P : Int) - 1 - (I : Int)) = true := by rw [beq_iff_eq]; exact hq
                  go_wp2_with fail
                  go_quiet (fail)
                  have hpq : Past w9 (wr.drewN nq) := hpi.drewN nq
                  generalize wr.drewN nq = wq at hpq ⊢
                  go_wp2_with fail
                  go_roundw
                  case rel => exact ⟨t + 1, by omega, by go_num, by rw [HT.out, hqb]; rfl, hpq⟩
                  case measure => simp [intOf]; omega
                · have hqb : (at_ == (P : Int) - 1 - (I : Int)) = false := beq_eq_false_iff_ne.2 hq
                  go_wp2_with fail
                  go_quiet (fail)
                  have hpq : Past w9 (wr.drewN nq) := hpi.drewN nq
                  generalize wr.drewN nq = wq at hpq ⊢
                  go_wp2_with fail
                  go_roundw
                  case rel => exact ⟨t + 1, by omega, by go_num, by rw [HT.out, hqb]; rfl, hpq⟩
                  case measure => simp [intOf]; omega
              · rw [hF] at HT
                go_wp2_with fail
                go_quiet (fail)
                have hpq : Past w9 (wr.drewN nq) := hpi.drewN nq
                generalize wr.drewN nq = wq at hpq ⊢
                go_wp2_with fail
                go_roundw
                case rel => exact ⟨t + 1, by omega, by go_num, by rw [HT.out]; rfl, hpq⟩
                case measure => simp [intOf]; omega
            · obtain rfl : t = M.length := by omega
              have j1 : ¬ (M.length : Int) < (M.length : Int) := by omega
              rw [List.take_of_length_le (Nat.le_refl _)]
              have hha := fun w hx => hasInt_any A3 SL.length k3 SL ((j : Int) + 1) w hx (by omega)
              rw [HSJ.out] at hha
              generalize M.any (hitsT ((P : Int) - 1 - (I : Int))) = F at hha ⊢
              have hFF : (F != F) = false := by simp
              go_wp2_with fail
              (with_reducible refine (hha _ (ra.past (hp.trans (hp9.trans hpi)))).mono ?_)
              rintro e w10 ⟨rfl, hp10⟩
              go_wp2_with fail
              go_roundw
              case rel => exact ⟨j + 1, by omega, by go_num, hp.trans (hp9.trans (hpi.trans hp10))⟩
              case measure => simp [intOf]; omega
        · obtain rfl : j = S := by omega
          have i1 : ¬ (j : Int) + 1 ≤ (j : Int) := by omega
          have hha := fun w hx => hasInt_any A6 BL.length k6 BL (I : Int) w hx (by omega)
          rw [hib] at hha
          go_wp2_with fail
          (with_reducible refine (hha _ (rB.past hp)).mono ?_)
          rintro e w9 ⟨rfl, hp9⟩
          go_wp2_with fail
          go_ret
          exact ⟨rfl, hpw.trans (hp.trans hp9)⟩
  · rw [hd] at hbig
    go_enter Try.func10, Try.ntmps10
    go_wp2_with (go_at_call 11; (with_reducible refine (hbig _).mono ?_); rintro e w9 ⟨rfl, rfl⟩)
    go_ret
    exact ⟨rfl, Past.refl _⟩
end Go.Proofs.Ytapocfgajkkpdaa
