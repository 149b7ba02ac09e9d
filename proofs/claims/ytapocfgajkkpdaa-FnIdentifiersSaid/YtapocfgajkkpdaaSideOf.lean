/-
  Contracts: the side with a number, and a code.
-/
import Derived.Test.YtapocfgajkkpdaaDec
import Derived.Test.YtapocfgajkkpdaaBlots
import Derived.Test.YtapocfgajkkpdaaMark
import Derived.Deep.DeepCutAuto
namespace Go.Proofs.Ytapocfgajkkpdaa
open Go.ChangeShapes Go.WideShapes Go.ChangeAt Go.RowKit Go.Joins

theorem mid_get (X Z : List Int) (a : Int) {j : Nat} (hj : X.length = j) : ((X ++ a :: Z).map (Value.int .i64))[j]? = some (.int .i64 a) := by
  rw [List.getElem?_map, List.getElem?_append_right (by omega), hj, Nat.sub_self]
  rfl
theorem mid_set (X Z : List Int) (a b : Int) {j : Nat} (hj : X.length = j) : ((X ++ a :: Z).map (Value.int .i64)).set j (.int .i64 b) = (X ++ b :: Z).map (Value.int .i64) := by
  rw [← List.map_set, List.set_append_right _ _ (by omega), hj, Nat.sub_self, List.set_cons_zero]
theorem dst_next {P C : Nat} {N : Int} {j L : Nat} {M : Int} {X : List Int} (h : dst P C N j = (L, M, X)) : dst P C N (j + 1) = (L - decD (P - j) L M, decR (P - j) L M, X ++ [(decD (P - j) L M : Int)]) := by
  rw [dst, h]
theorem cntI_nat {a b : Int} {r m : Nat} (ha : a.toNat = r) (hb : b.toNat = m) : cntI a b = cnt r m := by rw [cntI, ha, hb]
theorem rep_cons (k : Nat) : List.replicate (k + 1) (0 : Int) = 0 :: List.replicate k 0 := rfl
theorem IntsCode.nil {w w' : World} {code : Int} (hp : Past w w') : RowCode w [] code (.returned (.tuple #[.slice none 0 0, .int .i64 code])) w' := ⟨none, 0, rfl, World.ownsRow_nil _ _ _ _, hp⟩
theorem IntsCode.lit {w w1 : World} {code : Int} (hp : Past w w1) : RowCode w [] code (.returned (.tuple #[.slice (some ⟨w1.heap.size, 0, none⟩) 0 0, .int .i64 code])) (w1.alloc (.cells #[] 2)) :=
  ⟨some ⟨w1.heap.size, 0, none⟩, 0, rfl, World.ownsRow_lit w1 #[] 0 (Past.sz hp) (Nat.zero_le _) rfl, Past.alloc hp _⟩
set_option maxHeartbeats 4000000 in
set_option maxRecDepth 100000 in
theorem sideOf_yes (P C : Nat) (h s N : Int) (w : World) (hv : vOk P C h s = true) (hN : okN P C N) :
    Calls Try.prog 13 #[.agg #[.int .i64 (P : Int), .int .i64 (C : Int), .int .i64 h, .int .i64 s], .int .i64 N] w (RowCode w (decL P C N) 0) := by
  obtain ⟨⟨p1, p2⟩, ⟨k1, k2⟩, _, _⟩ := vOk_yes hv
  have hsc := fun w => sideCount P C h s w
  rw [show countF P C h s = cntI ((P : Int) + 1) C from by simp [countF, hv]] at hsc
  have HSC := Lib.hid hsc
  have HV := Lib.hid hv
  have HN := Lib.hid hN
  have n0 := hN.1
  have n1 : N < cntI ((P : Int) + 1) (C : Int) := by rw [cntI_nat (r := P + 1) (m := C) (by omega) (by omega)]; exact hN.2
  have bc := (cntI_bd (a := (P : Int) + 1) (b := (C : Int)) (by omega) (by omega)).2
  have hN1 : ((P + 1 : Nat) : Int) = (P : Int) + 1 := by omega
  obtain ⟨n, hn⟩ : ∃ n, n = P + 1 := ⟨_, rfl⟩
  have hnI : (P : Int) + 1 = (n : Int) := by omega
  have HNN := Lib.hid hn
  have HNI := Lib.hid hnI
  have hn25 : n ≤ 25 := by omega
  have hPn : (P : Int) < (n : Int) := by omega
  obtain ⟨i0, hi, hz0, hz1, hz2⟩ := info_parts infoI
  clear hsc hv hN hN1 hn hnI
  obtain ⟨w0, hw0⟩ : ∃ w0 : World, w0 = w.alloc (.cells #[.int .i64 (P : Int), .int .i64 (C : Int), .int .i64 h, .int .i64 s] 25) := ⟨_, rfl⟩
  have hp0 : Past w w0 := by rw [hw0]; exact (by repeat (first | exact Past.refl _ | assumption | refine Past.alloc ?_ _ | refine Past.drew ?_ | refine Past.drewN ?_ _ | refine Past.setCell ?_ (by first | (simp; done) | (simp <;> omega)) _ | refine Past.trans ?_ (past_over _ _) | refine Past.trans ?_ (by assumption)))
  have c0 : w0.cell? ⟨w.heap.size, 0, none⟩ = some (.int .i64 (P : Int)) := by rw [hw0]; simp [go_sem]
  have c1 : w0.cell? ⟨w.heap.size, 1, none⟩ = some (.int .i64 (C : Int)) := by rw [hw0]; simp [go_sem]
  have c2 : w0.cell? ⟨w.heap.size, 2, none⟩ = some (.int .i64 h) := by rw [hw0]; simp [go_sem]
  have c3 : w0.cell? ⟨w.heap.size, 3, none⟩ = some (.int .i64 s) := by rw [hw0]; simp [go_sem]
  go_enter Try.func13, Try.ntmps13
  go_upto_region 1 with fail
  rw [← hw0]
  clear hw0
  have hv' := HV.out
  go_wp2_with fail
  (with_reducible refine (isVar_any _ _ _ _ _).mono ?_)
  rintro e w1 ⟨rfl, hb1⟩
  have hp1 := hp0.trans hb1
  have d0 := hb1.keep c0
  have d1 := hb1.keep c1
  have d2 := hb1.keep c2
  have d3 := hb1.keep c3
  rw [hv']
  clear hv' c0 c1 c2 c3
  go_wp2_with fail
  (with_reducible refine (HSC.out _).mono ?_)
  rintro e w2 ⟨rfl, hb2⟩
  have hp2 := hp1.trans hb2
  have c0 := hb2.keep d0
  have c1 := hb2.keep d1
  clear d0 d1 d2 d3
  go_wp2_with (at_make; refine wpList_make_full _ rfl _ _ 28 rfl w2.heap.size 2 i0 (.int .i64 0) 1 Try.underlying28 hi hz0 hz1 .i64 .i64 ((P : Int) + 1) ((P : Int) + 1) n rfl rfl HNI.out HNI.out (by rw [hz2]; omega) (by unfold maxLen; omega) (Nat.le_refl _) ?_; intro w3 hown3 hg3; rw [made_zero] at hown3; have hp23 : Past w2 w3 := Below.grown (Below.refl _ _) hg3 (Nat.le_refl _) (fun k hk => by cases hk); have e0 := hp23.keep c0; have e1 := hp23.keep c1)
  have HC0 := Lib.hid c0
  clear hg3 c0 c1
  go_loopw [1, 7, 29] (fun t l i wr => ∃ (j L : Nat) (M : Int) (X : List Int), j ≤ n ∧ i = .int .i64 j ∧ t = .int .i64 M ∧ l = .int .i64 (L : Int) ∧ Hid (dst P C N j = (L, M, X)) ∧ OwI w2.heap.size wr (some ⟨w2.heap.size, 0, none⟩) n n (X ++ List.replicate (n - j) 0) ∧ Past w2 wr) (fun _ _ i _ => n - (intOf i).toNat)
  case atStart => exact ⟨0, C, N, [], Nat.zero_le _, rfl, rfl, rfl, Lib.hid rfl, hown3, hp23⟩
  case round =>
    obtain ⟨j, L, M, X, hj, rfl, rfl, rfl, HD, hown, hp⟩ := hrel
    clear hown3 e1 e0
    have HXL := Lib.hid (show X.length = j from by have h := dst_len P C N j; rw [HD.out] at h; exact h)
    have hLC : L ≤ C := by have h := dst_left P C N j; rw [HD.out] at h; exact h
    have q0 := hp.keep HC0.out
    have qb := World.block_lt_of_cell? wr _ q0
    simp only at qb
    by_cases hlt : j < n
    · have hjP : j ≤ P := by have := HNN.out; omega
      have hok := dst_ok (P := P) (C := C) (N := N) (by omega) (by omega) HN.out hjP
      rw [HD.out] at hok
      obtain ⟨r, hr⟩ : ∃ r, P - j = r := ⟨_, rfl⟩
      have hr24 : r ≤ 24 := by omega
      have HDN := Lib.hid (dst_next HD.out)
      rw [hr] at hok HDN
      have HOK := Lib.hid hok
      have HRI := Lib.hid (show ((P : Int) - (j : Int)).toNat = r from by omega)
      rw [show n - j = (n - (j + 1)) + 1 from by omega, rep_cons] at hown
      clear hok hr
      go_wp2_with fail
      go_loopw [1, 7] (fun t l wi => ∃ (e l' : Nat) (M' : Int), t = .int .i64 M' ∧ l = .int .i64 (l' : Int) ∧ Hid (okN r l' M') ∧ Hid (l' + e = L) ∧ Hid (decD r L M = decD r l' M' + e ∧ decR r L M = decR r l' M') ∧ OwI w2.heap.size wi (some ⟨w2.heap.size, 0, none⟩) n n (X ++ (e : Int) :: List.replicate (n - (j + 1)) 0) ∧ Past w2 wi) (fun _ l _ => (intOf l).toNat)
      case atStart => exact ⟨0, L, M, rfl, rfl, HOK, Lib.hid rfl, Lib.hid ⟨rfl, rfl⟩, hown, hp⟩
      case round =>
        obtain ⟨e, l', M', rfl, rfl, HO, HLE, HDD, hown', hp'⟩ := hrel
        clear hown q0 qb hp
        have q0 := hp'.keep HC0.out
        have qb := World.block_lt_of_cell? wr _ q0
        simp only at qb
        have hl15 : l' ≤ 15 := by have := HLE.out; omega
        have he15 : e ≤ 15 := by have := HLE.out; omega
        have hk : cntI ((P : Int) - (j : Int)) (l' : Int) = cnt r l' := cntI_nat HRI.out (by simp)
        obtain ⟨k0, k1⟩ := cntI_bd (a := (P : Int) - (j : Int)) (b := (l' : Int)) (by omega) (by omega)
        have m0 : 0 ≤ M' := HO.out.1
        have m1 : M' ≤ 100000000000 := by have h1 := HO.out.2; have h2 := (cnt_bd (r := r + 1) (m := l') (by omega) (by omega)).2; omega
        have HK := Lib.hid hk
        clear hk
        by_cases hK : cntI ((P : Int) - (j : Int)) (l' : Int) ≤ M'
        · obtain ⟨l2, hl2, ho2, hd2, hr2⟩ := okN_more hr24 hl15 HO.out (by rw [← HK.out]; exact hK)
          have hl1 : 1 ≤ l' := by omega
          have HL2 := Lib.hid hl2
          have HO2 := Lib.hid ho2
          have HD2 := Lib.hid (show decD r L M = decD r l2 (M' - cnt r l') + (e + 1) ∧ decR r L M = decR r l2 (M' - cnt r l') from ⟨by rw [HDD.out.1, hd2]; omega, by rw [HDD.out.2, hr2]⟩)
          clear hl2 ho2 hd2 hr2
          have cj : wr.cell? ⟨w2.heap.size, j, none⟩ = some (.int .i64 (e : Int)) := by rw [World.ownsRow.cellAt hown' j (by omega)]; exact mid_get _ _ _ HXL.out
          have fj : wr.frozen? ⟨w2.heap.size, j, none⟩ = false := World.ownsRow.frozenAt hown' j
          have hown2 : OwI w2.heap.size (wr.setCell ⟨w2.heap.size, j, none⟩ (.int .i64 ((e : Int) + 1))) (some ⟨w2.heap.size, 0, none⟩) n n (X ++ ((e + 1 : Nat) : Int) :: List.replicate (n - (j + 1)) 0) := by
            rw [OwI, ← mid_set X _ (e : Int) _ HXL.out]
            exact (World.ownsRow.stored hown' j _).1
          have hp2 := hp'.setCell (p := ⟨w2.heap.size, j, none⟩) (Nat.le_refl _) (.int .i64 ((e : Int) + 1))
          clear hown'
          go_wp2_with (go_at_call 67; (with_reducible refine (listsUpTo_i _ _ (by omega) (by omega) (by omega) (by omega) _).mono ?_); rintro e w9 ⟨rfl, rfl⟩)
          go_roundw
          case rel => exact ⟨e + 1, l2, M' - cnt r l', by rw [HK.out], by rw [HL2.out]; go_num, HO2, Lib.hid (by have := HLE.out; have := HL2.out; omega), HD2, hown2, hp2⟩
          case measure => simp [intOf]; omega
        · obtain ⟨hd0, hr0⟩ := okN_none (r := r) (l := l') (N := M') (by rw [← HK.out]; omega)
          have HDX : Hid (dst P C N (j + 1) = (l', M', X ++ [(e : Int)])) := Lib.hid (by
            have h1 := HDD.out
            rw [hd0, hr0, Nat.zero_add] at h1
            rw [HDN.out, h1.1, h1.2, show L - e = l' from by have := HLE.out; omega])
          clear hd0 hr0
          have hown2 : OwI w2.heap.size wr (some ⟨w2.heap.size, 0, none⟩) n n ((X ++ [(e : Int)]) ++ List.replicate (n - (j + 1)) 0) := by rw [List.append_assoc]; exact hown'
          clear hown'
          go_wp2_with (go_at_call 67; (with_reducible refine (listsUpTo_i _ _ (by omega) (by omega) (by omega) (by omega) _).mono ?_); rintro e w9 ⟨rfl, rfl⟩)
          go_roundw
          case rel => exact ⟨j + 1, l', M', X ++ [(e : Int)], by omega, by go_num, rfl, rfl, HDX, hown2, hp'⟩
          case measure => simp [intOf]; omega
    · obtain rfl : n = j := by omega
      rw [Nat.sub_self, List.replicate_zero, List.append_nil] at hown
      have HX := Lib.hid (show decL P C N = X from by rw [decL, ← HNN.out, HD.out])
      clear q0
      go_wp2
      go_ret2
      rw [HX.out]
      refine ⟨some ⟨w2.heap.size, 0, none⟩, n, ?_, ?_, hp2.trans hp⟩
      · rw [HXL.out]; rfl
      · rw [HXL.out]; exact hown.less hp2.sz
theorem within_bb (x lo hi : Int) (b : Bool) (hb : Hid (win x lo hi = b)) (w : World) :
    Calls Try.prog 71 #[.int .i64 x, .int .i64 lo, .int .i64 hi] w fun e w' => e = .returned (.bool b) ∧ w = w' :=
  (within_any x lo hi w).mono fun _ _ ⟨he, hp⟩ => ⟨he.trans (ret_bool hb.out), hp⟩
theorem l01In_bb (x lo hi : Int) (b : Bool) (hb : Hid (win x lo hi = b)) (w : World) :
    Calls Try.prog 68 #[.int .i64 x, .int .i64 lo, .int .i64 hi] w fun e w' => e = .returned (.bool b) ∧ w = w' :=
  (l01In_any x lo hi w).mono fun _ _ ⟨he, hp⟩ => ⟨he.trans (ret_bool hb.out), hp⟩
/-- Numbers collected in a row of the call's own. -/
def NumsIn (w1 wr : World) (v : Value) (L : List Int) : Prop := ∃ A k, v = .slice A L.length k ∧ OwI w1.heap.size wr A L.length k L ∧ Past w1 wr
theorem NumsIn.past {w1 a b : World} {v : Value} {L : List Int} (h : NumsIn w1 a v L) (p : Past a b) : NumsIn w1 b v L := by
  obtain ⟨A, k, hv, ho, hp⟩ := h
  exact ⟨A, k, hv, ho.past p, Past.trans hp p⟩
theorem NumsIn.nil (w1 : World) : NumsIn w1 w1 (.slice none 0 0) [] := ⟨none, 0, rfl, World.ownsRow_nil _ _ _ _, Past.refl _⟩
theorem NumsIn.empty (w1 : World) (t : TypeId) (ht : t = 2) : NumsIn w1 (w1.alloc (.cells #[] t)) (.slice (some ⟨w1.heap.size, 0, none⟩) 0 0) [] :=
  ⟨some ⟨w1.heap.size, 0, none⟩, 0, rfl, by subst ht; exact World.ownsRow_lit w1 #[] 0 (Nat.le_refl _) (Nat.zero_le _) rfl, Past.alloc (Past.refl _) _⟩
theorem NumsIn.push {w1 w w' : World} {A : Option Addr} {k : Nat} {L : List Int} {x : Int} {v' : Value} (ho : OwI w1.heap.size w A L.length k L) (hp : Past w1 w)
    (h : w'.ownsRow w1.heap.size 2 1 v' (L.length + 1) (L.map (Value.int .i64) ++ [.int .i64 x])) (hg : w.grownBy w' (Value.slice A L.length k).ownBlock) (hnil : v' ≠ .slice none 0 0) : NumsIn w1 w' v' (L ++ [x]) := by
  obtain ⟨A', k', rfl, ho'⟩ := own_push rfl h hnil
  exact ⟨A', k', rfl, ho', past_grown hp ho (Nat.le_refl _) hg⟩
set_option maxHeartbeats 4000000 in
set_option maxRecDepth 100000 in
theorem sSideOf_yes (P C : Nat) (h s N : Int) (w : World) (hv : vOk P C h s = true) (hN : okN P C N) :
    Calls Try.prog 14 #[.agg #[.int .i64 (P : Int), .int .i64 (C : Int), .int .i64 h, .int .i64 s], .int .i64 N] w (RowCode w (decL P C N) 0) := by
  obtain ⟨⟨p1, p2⟩, ⟨k1, k2⟩, _, _⟩ := vOk_yes hv
  have HV := Lib.hid hv
  have HN := Lib.hid hN
  have n0 := hN.1
  have n1 : N < cntI ((P : Int) + 1) (C : Int) := by rw [cntI_nat (r := P + 1) (m := C) (by omega) (by omega)]; exact hN.2
  have bc := (cntI_bd (a := (P : Int) + 1) (b := (C : Int)) (by omega) (by omega)).2
  have HW := Lib.hid (win_mk (x := N) (lo := 0) (hi := cntI ((P : Int) + 1) (C : Int) - 1) (by omega))
  obtain ⟨i0, hi, hz0, hz1, hz2⟩ := info_parts infoI
  clear hv hN
  obtain ⟨w0, hw0⟩ : ∃ w0 : World, w0 = w.alloc (.cells #[.int .i64 (P : Int), .int .i64 (C : Int), .int .i64 h, .int .i64 s] 25) := ⟨_, rfl⟩
  have hp0 : Past w w0 := by rw [hw0]; exact (by repeat (first | exact Past.refl _ | assumption | refine Past.alloc ?_ _ | refine Past.drew ?_ | refine Past.drewN ?_ _ | refine Past.setCell ?_ (by first | (simp; done) | (simp <;> omega)) _ | refine Past.trans ?_ (past_over _ _) | refine Past.trans ?_ (by assumption)))
  have c0 : w0.cell? ⟨w.heap.size, 0, none⟩ = some (.int .i64 (P : Int)) := by rw [hw0]; simp [go_sem]
  have c1 : w0.cell? ⟨w.heap.size, 1, none⟩ = some (.int .i64 (C : Int)) := by rw [hw0]; simp [go_sem]
  have c2 : w0.cell? ⟨w.heap.size, 2, none⟩ = some (.int .i64 h) := by rw [hw0]; simp [go_sem]
  have c3 : w0.cell? ⟨w.heap.size, 3, none⟩ = some (.int .i64 s) := by rw [hw0]; simp [go_sem]
  go_enter Try.func14, Try.ntmps14
  go_upto_region 1 with fail
  rw [← hw0]
  clear hw0
  have hv' := HV.out
  go_wp2_with fail
  (with_reducible refine (sIsVar_any _ _ _ _ _).mono ?_)
  rintro e w1 ⟨rfl, hb1⟩
  have hp1 := hp0.trans hb1
  have d0 := hb1.keep c0
  have d1 := hb1.keep c1
  have db := World.block_lt_of_cell? w1 _ d0
  simp only at db
  rw [hv']
  clear hv' c0 c1 c2 c3
  go_wp2_with (first | (go_at_call 69; (with_reducible refine (sCount_i _ _ (by omega) (by omega) (by omega) (by omega) _).mono ?_); rintro e w9 ⟨rfl, rfl⟩) | (go_at_call 68; (with_reducible refine (l01In_bb _ _ _ _ HW _).mono ?_); rintro e w9 ⟨rfl, rfl⟩))
  go_loopw [1, 6, 7, 8] (fun t v l i wr => ∃ (j L : Nat) (M : Int) (X : List Int), j ≤ P + 1 ∧ i = .int .i64 ((P : Int) - (j : Int)) ∧ t = .int .i64 M ∧ l = .int .i64 (L : Int) ∧ Hid (dst P C N j = (L, M, X)) ∧ NumsIn w1 wr v X) (fun _ _ _ i _ => (intOf i + 1).toNat)
  case atStart => exact ⟨0, C, N, [], Nat.zero_le _, by simp, rfl, rfl, Lib.hid rfl, NumsIn.empty w1 _ rfl⟩
  case round =>
    obtain ⟨j, L, M, X, hj, rfl, rfl, rfl, HD, A', k', rfl, hown, hp⟩ := hrel
    have hXl : X.length ≤ 25 := by have h := dst_len P C N j; rw [HD.out] at h; dsimp only at h; omega
    have hLC : L ≤ C := by have h := dst_left P C N j; rw [HD.out] at h; exact h
    have q0 := hp.keep d0
    have qb := World.block_lt_of_cell? wr _ q0
    simp only at qb
    by_cases hlt : j ≤ P
    · have hge : (0 : Int) ≤ (P : Int) - (j : Int) := by omega
      have hok := dst_ok (P := P) (C := C) (N := N) (by omega) (by omega) HN.out hlt
      rw [HD.out] at hok
      obtain ⟨r, hr⟩ : ∃ r, P - j = r := ⟨_, rfl⟩
      have hr24 : r ≤ 24 := by omega
      have HDN := Lib.hid (dst_next HD.out)
      rw [hr] at hok HDN
      have HOK := Lib.hid hok
      have HRI := Lib.hid (show ((P : Int) - (j : Int)).toNat = r from by omega)
      clear hok hr
      go_wp2_with fail
      go_loop [1, 9] (fun t k => ∃ (e l' : Nat) (M' : Int), t = .int .i64 M' ∧ k = .int .i64 (e : Int) ∧ Hid (okN r l' M') ∧ Hid (l' + e = L) ∧ Hid (decD r L M = decD r l' M' + e ∧ decR r L M = decR r l' M')) (fun _ k => L - (intOf k).toNat)
      case atStart => exact ⟨0, L, M, rfl, rfl, HOK, Lib.hid rfl, Lib.hid ⟨rfl, rfl⟩⟩
      case round =>
        obtain ⟨e, l', M', rfl, rfl, HO, HLE, HDD⟩ := hrel
        have hl15 : l' ≤ 15 := by have := HLE.out; omega
        have he15 : e ≤ 15 := by have := HLE.out; omega
        have hle1 : (0 : Int) ≤ (L : Int) - (e : Int) := by have := HLE.out; omega
        have hle2 : (L : Int) - (e : Int) ≤ 15 := by have := HLE.out; omega
        have hk : cntI ((P : Int) - (j : Int)) ((L : Int) - (e : Int)) = cnt r l' := cntI_nat HRI.out (by have := HLE.out; omega)
        obtain ⟨k0, k1⟩ := cntI_bd (a := (P : Int) - (j : Int)) (b := (L : Int) - (e : Int)) (by omega) (by omega)
        have m0 : 0 ≤ M' := HO.out.1
        have m1 : M' ≤ 100000000000 := by have h1 := HO.out.2; have h2 := (cnt_bd (r := r + 1) (m := l') (by omega) (by omega)).2; omega
        have HK := Lib.hid hk
        clear hk
        by_cases hK : cntI ((P : Int) - (j : Int)) ((L : Int) - (e : Int)) ≤ M'
        · obtain ⟨l2, hl2, ho2, hd2, hr2⟩ := okN_more hr24 hl15 HO.out (by rw [← HK.out]; exact hK)
          have hl1 : e < L := by have := HLE.out; omega
          have HL2 := Lib.hid hl2
          have HO2 := Lib.hid ho2
          have HD2 := Lib.hid (show decD r L M = decD r l2 (M' - cnt r l') + (e + 1) ∧ decR r L M = decR r l2 (M' - cnt r l') from ⟨by rw [HDD.out.1, hd2]; omega, by rw [HDD.out.2, hr2]⟩)
          clear hl2 ho2 hd2 hr2
          go_wp2_with (go_at_call 69; (with_reducible refine (sCount_i _ _ (by omega) (by omega) (by omega) (by omega) _).mono ?_); rintro e w9 ⟨rfl, rfl⟩)
          go_round
          case rel => exact ⟨e + 1, l2, M' - cnt r l', by rw [HK.out], by go_num, HO2, Lib.hid (by have := HLE.out; have := HL2.out; omega), HD2⟩
          case measure => simp [intOf]; omega
        · obtain ⟨hd0, hr0⟩ := okN_none (r := r) (l := l') (N := M') (by rw [← HK.out]; omega)
          have HDX : Hid (dst P C N (j + 1) = (l', M', X ++ [(e : Int)])) := Lib.hid (by
            have h1 := HDD.out
            rw [hd0, hr0, Nat.zero_add] at h1
            rw [HDN.out, h1.1, h1.2, show L - e = l' from by have := HLE.out; omega])
          have HLI := Lib.hid (show (L : Int) - (e : Int) = (l' : Int) from by have := HLE.out; omega)
          clear hd0 hr0
          go_wp2_with (first | (go_at_call 69; (with_reducible refine (sCount_i _ _ (by omega) (by omega) (by omega) (by omega) _).mono ?_); rintro e w9 ⟨rfl, rfl⟩) | (at_builtin; refine wpList_append_own _ rfl _ _ 28 rfl w1.heap.size 2 i0 (.int .i64 0) 1 8 Try.underlying28 hi hz0 hz1 hz2 rfl (by decide) _ X.length (X.map (Value.int .i64)) rfl (hown.alloc _) ⟨wr.heap.size, 0, none⟩ 1 1 [.int .i64 (e : Int)] rfl rfl (cell_one_new _ _ _) (by intro u hu; simp at hu; subst hu; rfl) (by unfold maxLen; omega) (by omega) (Nat.le_trans hp.size (by simp)) ?_; intro v2 w5 hown5 hg5 hiff))
          go_roundw
          case rel => exact ⟨j + 1, l', M', X ++ [(e : Int)], by omega, by go_num, rfl, by rw [HLI.out], HDX, NumsIn.push (hown.alloc _) (hp.alloc _) hown5 hg5 (fun h => absurd (hiff.1 h).2 (by decide))⟩
          case measure => simp [intOf]; omega
    · obtain rfl : j = P + 1 := by omega
      have HX := Lib.hid (show decL P C N = X from by rw [decL, HD.out])
      go_wp2
      go_ret2
      rw [HX.out]
      exact ⟨A', k', rfl, hown.less hp1.sz, hp1.trans hp⟩
theorem sideOf_v (p c h s N : Int) (w : World) (hv : vOk p c h s = false) :
    Calls Try.prog 13 #[.agg #[.int .i64 p, .int .i64 c, .int .i64 h, .int .i64 s], .int .i64 N] w (RowCode w [] 1) := by
  go_enter Try.func13, Try.ntmps13
  go_wp2_with (go_at_call 66; (with_reducible refine (isVar_any _ _ _ _ _).mono ?_); rintro e w1 ⟨rfl, hb1⟩; obtain ⟨hc1, hf1, _⟩ := hb1.cells; have hz1_0 : w.heap.size < w1.heap.size := Past.lt hb1 (by first | omega | (simp <;> omega)))
  go_ret2
  first
  | exact IntsCode.nil (by repeat (first | exact Past.refl _ | assumption | refine Past.alloc ?_ _ | refine Past.drew ?_ | refine Past.drewN ?_ _ | refine Past.setCell ?_ (by first | (simp; done) | (simp <;> omega)) _ | refine Past.trans ?_ (past_over _ _) | refine Past.trans ?_ (by assumption)))
  | exact IntsCode.lit (by repeat (first | exact Past.refl _ | assumption | refine Past.alloc ?_ _ | refine Past.drew ?_ | refine Past.drewN ?_ _ | refine Past.setCell ?_ (by first | (simp; done) | (simp <;> omega)) _ | refine Past.trans ?_ (past_over _ _) | refine Past.trans ?_ (by assumption)))
theorem sSideOf_v (p c h s N : Int) (w : World) (hv : vOk p c h s = false) :
    Calls Try.prog 14 #[.agg #[.int .i64 p, .int .i64 c, .int .i64 h, .int .i64 s], .int .i64 N] w (RowCode w [] 1) := by
  go_enter Try.func14, Try.ntmps14
  go_wp2_with (go_at_call 19; (with_reducible refine (sIsVar_any _ _ _ _ _).mono ?_); rintro e w1 ⟨rfl, hb1⟩; obtain ⟨hc1, hf1, _⟩ := hb1.cells; have hz1_0 : w.heap.size < w1.heap.size := Past.lt hb1 (by first | omega | (simp <;> omega)))
  go_ret2
  first
  | exact IntsCode.nil (by repeat (first | exact Past.refl _ | assumption | refine Past.alloc ?_ _ | refine Past.drew ?_ | refine Past.drewN ?_ _ | refine Past.setCell ?_ (by first | (simp; done) | (simp <;> omega)) _ | refine Past.trans ?_ (past_over _ _) | refine Past.trans ?_ (by assumption)))
  | exact IntsCode.lit (by repeat (first | exact Past.refl _ | assumption | refine Past.alloc ?_ _ | refine Past.drew ?_ | refine Past.drewN ?_ _ | refine Past.setCell ?_ (by first | (simp; done) | (simp <;> omega)) _ | refine Past.trans ?_ (past_over _ _) | refine Past.trans ?_ (by assumption)))
theorem sideOf_no (p c h s N : Int) (w : World) (hv : vOk p c h s = true) (hN : ¬ (0 ≤ N ∧ N < cntI (p + 1) c)) :
    Calls Try.prog 13 #[.agg #[.int .i64 p, .int .i64 c, .int .i64 h, .int .i64 s], .int .i64 N] w (RowCode w [] 4) := by
  have hsc := fun w => sideCount p c h s w
  rw [show countF p c h s = cntI (p + 1) c from by simp [countF, hv]] at hsc
  have HSC := Lib.hid hsc
  clear hsc
  by_cases h0 : N < 0
  · clear hN
    go_enter Try.func13, Try.ntmps13
    go_wp2_with (first | (go_at_call 66; (with_reducible refine (isVar_any _ _ _ _ _).mono ?_); rintro e w1 ⟨rfl, hb1⟩; obtain ⟨hc1, hf1, _⟩ := hb1.cells; have hz1_0 : w.heap.size < w1.heap.size := Past.lt hb1 (by first | omega | (simp <;> omega))) | (go_at_call 16; (with_reducible refine (HSC.out _).mono ?_); rintro e w2 ⟨rfl, hb2⟩; obtain ⟨hc2, hf2, _⟩ := hb2.cells; have hz2_0 : w.heap.size < w2.heap.size := Past.lt hb2 (by first | omega | (simp <;> omega))))
    go_ret2
    exact IntsCode.nil (by repeat (first | exact Past.refl _ | assumption | refine Past.alloc ?_ _ | refine Past.drew ?_ | refine Past.drewN ?_ _ | refine Past.setCell ?_ (by first | (simp; done) | (simp <;> omega)) _ | refine Past.trans ?_ (past_over _ _) | refine Past.trans ?_ (by assumption)))
  · have h1 : cntI (p + 1) c ≤ N := by omega
    clear hN
    go_enter Try.func13, Try.ntmps13
    go_wp2_with (first | (go_at_call 66; (with_reducible refine (isVar_any _ _ _ _ _).mono ?_); rintro e w1 ⟨rfl, hb1⟩; obtain ⟨hc1, hf1, _⟩ := hb1.cells; have hz1_0 : w.heap.size < w1.heap.size := Past.lt hb1 (by first | omega | (simp <;> omega))) | (go_at_call 16; (with_reducible refine (HSC.out _).mono ?_); rintro e w2 ⟨rfl, hb2⟩; obtain ⟨hc2, hf2, _⟩ := hb2.cells; have hz2_0 : w.heap.size < w2.heap.size := Past.lt hb2 (by first | omega | (simp <;> omega))))
    go_ret2
    exact IntsCode.nil (by repeat (first | exact Past.refl _ | assumption | refine Past.alloc ?_ _ | refine Past.drew ?_ | refine Past.drewN ?_ _ | refine Past.setCell ?_ (by first | (simp; done) | (simp <;> omega)) _ | refine Past.trans ?_ (past_over _ _) | refine Past.trans ?_ (by assumption)))
theorem sSideOf_no (p c h s N : Int) (w : World) (hv : vOk p c h s = true) (hN : ¬ (0 ≤ N ∧ N < cntI (p + 1) c)) :
    Calls Try.prog 14 #[.agg #[.int .i64 p, .int .i64 c, .int .i64 h, .int .i64 s], .int .i64 N] w (RowCode w [] 4) := by
  obtain ⟨⟨p1, p2⟩, ⟨k1, k2⟩, _, _⟩ := vOk_yes hv
  have bc := cntI_bd (a := p + 1) (b := c) (by omega) (by omega)
  obtain ⟨bc1, bc2⟩ := bc
  have HW := Lib.hid (win_no (x := N) (lo := 0) (hi := cntI (p + 1) c - 1) (by omega))
  clear hN
  go_enter Try.func14, Try.ntmps14
  go_wp2_with (first | (go_at_call 19; (with_reducible refine (sIsVar_any _ _ _ _ _).mono ?_); rintro e w1 ⟨rfl, hb1⟩; obtain ⟨hc1, hf1, _⟩ := hb1.cells; have hz1_0 : w.heap.size < w1.heap.size := Past.lt hb1 (by first | omega | (simp <;> omega))) | (go_at_call 69; (with_reducible refine (sCount_i _ _ (by omega) (by omega) (by omega) (by omega) _).mono ?_); rintro e w9 ⟨rfl, rfl⟩) | (go_at_call 68; (with_reducible refine (l01In_bb _ _ _ _ HW _).mono ?_); rintro e w9 ⟨rfl, rfl⟩))
  go_ret2
  exact IntsCode.lit (by repeat (first | exact Past.refl _ | assumption | refine Past.alloc ?_ _ | refine Past.drew ?_ | refine Past.drewN ?_ _ | refine Past.setCell ?_ (by first | (simp; done) | (simp <;> omega)) _ | refine Past.trans ?_ (past_over _ _) | refine Past.trans ?_ (by assumption)))
theorem sideOf_any (p c h s N : Int) (w : World) :
    Calls Try.prog 13 #[.agg #[.int .i64 p, .int .i64 c, .int .i64 h, .int .i64 s], .int .i64 N] w (RowCode w (soL p c h s N) (soC p c h s N)) := by
  cases hv : vOk p c h s
  · rw [show soL p c h s N = [] from by simp [soL, soOk, hv], show soC p c h s N = 1 from by simp [soC, hv]]
    exact sideOf_v p c h s N w hv
  · by_cases hN : 0 ≤ N ∧ N < cntI (p + 1) c
    · have ho : soOk p c h s N = true := by simp [soOk, hv, hN.1, hN.2]
      rw [show soL p c h s N = decL p.toNat c.toNat N from by simp [soL, ho], show soC p c h s N = 0 from by simp [soC, hv, ho]]
      obtain ⟨⟨p1, p2⟩, ⟨k1, k2⟩, _, _⟩ := vOk_yes hv
      obtain ⟨P, rfl⟩ := Int.eq_ofNat_of_zero_le (show 0 ≤ p from by omega)
      obtain ⟨C, rfl⟩ := Int.eq_ofNat_of_zero_le (show 0 ≤ c from by omega)
      rw [Int.toNat_natCast, Int.toNat_natCast]
      have h2 := hN.2
      rw [cntI_nat (r := P + 1) (m := C) (by omega) (by omega)] at h2
      exact sideOf_yes P C h s N w hv ⟨hN.1, h2⟩
    · have ho : soOk p c h s N = false := by
        cases h1 : soOk p c h s N
        · rfl
        · simp [soOk] at h1
          exact absurd ⟨h1.2.1, h1.2.2⟩ hN
      rw [show soL p c h s N = [] from by simp [soL, ho], show soC p c h s N = 4 from by simp [soC, hv, ho]]
      exact sideOf_no p c h s N w hv hN
theorem sSideOf_any (p c h s N : Int) (w : World) :
    Calls Try.prog 14 #[.agg #[.int .i64 p, .int .i64 c, .int .i64 h, .int .i64 s], .int .i64 N] w (RowCode w (soL p c h s N) (soC p c h s N)) := by
  cases hv : vOk p c h s
  · rw [show soL p c h s N = [] from by simp [soL, soOk, hv], show soC p c h s N = 1 from by simp [soC, hv]]
    exact sSideOf_v p c h s N w hv
  · by_cases hN : 0 ≤ N ∧ N < cntI (p + 1) c
    · have ho : soOk p c h s N = true := by simp [soOk, hv, hN.1, hN.2]
      rw [show soL p c h s N = decL p.toNat c.toNat N from by simp [soL, ho], show soC p c h s N = 0 from by simp [soC, hv, ho]]
      obtain ⟨⟨p1, p2⟩, ⟨k1, k2⟩, _, _⟩ := vOk_yes hv
      obtain ⟨P, rfl⟩ := Int.eq_ofNat_of_zero_le (show 0 ≤ p from by omega)
      obtain ⟨C, rfl⟩ := Int.eq_ofNat_of_zero_le (show 0 ≤ c from by omega)
      rw [Int.toNat_natCast, Int.toNat_natCast]
      have h2 := hN.2
      rw [cntI_nat (r := P + 1) (m := C) (by omega) (by omega)] at h2
      exact sSideOf_yes P C h s N w hv ⟨hN.1, h2⟩
    · have ho : soOk p c h s N = false := by
        cases h1 : soOk p c h s N
        · rfl
        · simp [soOk] at h1
          exact absurd ⟨h1.2.1, h1.2.2⟩ hN
      rw [show soL p c h s N = [] from by simp [soL, ho], show soC p c h s N = 4 from by simp [soC, hv, ho]]
      exact sSideOf_no p c h s N w hv hN
end Go.Proofs.Ytapocfgajkkpdaa
