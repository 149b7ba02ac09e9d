/-
  Contracts: the program's letters of a board.
-/
import Derived.Test.YtapocfgajkkpdaaId
import Derived.Test.YtapocfgajkkpdaaOfBits
import Derived.Deep.DeepCutAuto
namespace Go.Proofs.Ytapocfgajkkpdaa
open Go.ChangeShapes Go.WideShapes Go.ChangeAt Go.RowKit Go.Joins

def nLen : Value → Nat
  | .slice _ n _ => n
  | _ => 0
set_option maxHeartbeats 4000000 in
set_option maxRecDepth 100000 in
theorem boardId_yes (p c h s : Int) (b o d q n k m l : Nat) (xs ys : List Int) (w : World) (hx : RdI w (some ⟨b, o, none⟩) n xs) (hy : RdI w (some ⟨d, q, none⟩) m ys) (hn : n ≤ 1048576) (hm : m ≤ 1048576) (hb : Hid (bOk p c h s xs ys = true)) :
    Calls Try.prog 39 #[.agg #[.int .i64 p, .int .i64 c, .int .i64 h, .int .i64 s], .agg #[.slice (some ⟨b, o, none⟩) n k, .slice (some ⟨d, q, none⟩) m l]] w fun e w' => e = .returned (.string (idOf (bitsRow (xs ++ ys)))) ∧ Past w w' := by
  obtain ⟨i0, hi, hz0, hz1, hz2⟩ := info_parts infoI
  obtain ⟨u0, ui, uz0, uz1, uz2⟩ := info_parts infoU
  obtain ⟨l1, l2, l3, b1, b2⟩ := bits_bd hb.out
  have hlen : (bitsRow (xs ++ ys)).length ≤ 1000 := by
    have h1 := bitsRow_len b1
    have h2 := bitsRow_len b2
    rw [bitsRow_app, List.length_append]
    omega
  have hpos : 0 < (bitsRow (xs ++ ys)).length := by
    have h1 := bitsRow_pos (xs ++ ys)
    rw [List.length_append] at h1
    omega
  have HBB := Lib.hid (bitsRow_01 (xs ++ ys))
  have e1 := hx.1
  have e2 := hy.1
  have hbits := fun w hx hy => bitsOf_any b o d q n k m l xs ys w hx hy (by omega) (by omega) b1 b2
  generalize bitsRow (xs ++ ys) = L at hbits hlen hpos HBB ⊢
  have HBITS := Lib.hid hbits
  clear hbits e1 e2 b1 b2
  have hb' := hb.out
  obtain ⟨w0, hw0⟩ : ∃ w0 : World, w0 = (w.alloc (.cells #[.int .i64 p, .int .i64 c, .int .i64 h, .int .i64 s] 25)).alloc (.cells #[.slice (some ⟨b, o, none⟩) n k, .slice (some ⟨d, q, none⟩) m l] 43) := ⟨_, rfl⟩
  have hp0 : Past w w0 := by rw [hw0]; exact (by repeat (first | exact Past.refl _ | assumption | refine Past.alloc ?_ _ | refine Past.drew ?_ | refine Past.drewN ?_ _ | refine Past.setCell ?_ (by first | (simp; done) | (simp <;> omega)) _ | refine Past.trans ?_ (past_over _ _) | refine Past.trans ?_ (by assumption)))
  have c0 : w0.cell? ⟨w.heap.size, 0, none⟩ = some (.int .i64 p) := by rw [hw0]; simp [go_sem]
  have c1 : w0.cell? ⟨w.heap.size, 1, none⟩ = some (.int .i64 c) := by rw [hw0]; simp [go_sem]
  have c2 : w0.cell? ⟨w.heap.size, 2, none⟩ = some (.int .i64 h) := by rw [hw0]; simp [go_sem]
  have c3 : w0.cell? ⟨w.heap.size, 3, none⟩ = some (.int .i64 s) := by rw [hw0]; simp [go_sem]
  have c4 : w0.cell? ⟨w.heap.size + 1, 0, none⟩ = some (.slice (some ⟨b, o, none⟩) n k) := by rw [hw0]; simp [go_sem]
  have c5 : w0.cell? ⟨w.heap.size + 1, 1, none⟩ = some (.slice (some ⟨d, q, none⟩) m l) := by rw [hw0]; simp [go_sem]
  go_enter Try.func39, Try.ntmps39
  go_upto_region 1 with fail
  rw [← hw0]
  clear hw0
  go_wp2_with fail
  (with_reducible refine (isBoard_any _ _ _ _ _ _ _ _ _ _ _ _ _ (hx.past hp0) (hy.past hp0) hn hm).mono ?_)
  rintro e w1 ⟨rfl, hb1⟩
  rw [hb']
  clear hb'
  have hx1 := hx.past (hp0.trans hb1)
  have hy1 := hy.past (hp0.trans hb1)
  have d4 := hb1.keep c4
  have d5 := hb1.keep c5
  have dl := World.block_lt_of_cell? w1 _ d4
  simp only at dl
  clear hx hy c0 c1 c2 c3 c4 c5
  go_wp2_with fail
  (with_reducible refine (HBITS.out _ hx1 hy1).mono ?_)
  rintro e w2 ⟨A', k', rfl, hown, hb2⟩
  have hp2 := (hp0.trans hb1).trans hb2
  have HS : NumsIn w1 w2 (.slice A' L.length k') (padded L 0) := by rw [padded, List.replicate_zero, List.append_nil]; exact ⟨A', k', rfl, hown, hb2⟩
  clear hown d4 d5
  have hp01 := hp0.trans hb1
  go_wp2_with fail
  obtain ⟨D, hD⟩ : ∃ D, (6 - L.length % 6) % 6 = D := ⟨_, rfl⟩
  have HD := Lib.hid hD
  clear hD
  go_loopw [5] (fun v wr => ∃ e : Nat, e ≤ D ∧ NumsIn w1 wr v (padded L e)) (fun v _ => L.length + 6 - nLen v)
  case atStart => exact ⟨0, Nat.zero_le _, HS⟩
  case round =>
    obtain ⟨e, he, A3, k3, rfl, hown3, hp3⟩ := hrel
    clear HS
    have hpl := padded_len L e
    have hD5 : D ≤ 5 := by have := HD.out; omega
    by_cases hlt : e < D
    · have hm6 : ¬ (padded L e).length % 6 = 0 := by have := HD.out; omega
      have HN := Lib.hid (padded_next L e)
      have HPL := Lib.hid hpl
      have hpl2 : (padded L e).length ≤ 1005 := by omega
      clear hpl
      generalize padded L e = Z at hown3 hm6 HN hpl2 HPL ⊢
      have hm7 : ¬ ((Z.length : Nat) : Int) % 6 = 0 := by omega
      clear hm6
      go_wp2_with (at_builtin; refine wpList_append_lies _ rfl _ _ 28 rfl w1.heap.size 2 i0 (.int .i64 0) 1 8 Try.underlying28 hi hz0 hz1 hz2 rfl (by decide) _ Z.length (Z.map (Value.int .i64)) rfl (hown3.alloc _) ⟨wr.heap.size, 0, none⟩ 1 1 [.int .i64 0] rfl rfl (cell_one_new _ _ _) (by intro u hu; simp at hu; subst hu; rfl) (by decide) (by unfold maxLen; omega) (by omega) (Nat.le_trans hp3.size (by simp)) _ rfl ?_; intro g5 k5 w5 hown5 hg5 hat hlt5)
      go_roundw
      case rel => exact ⟨e + 1, by omega, by rw [HN.out]; exact NumsIn.push (hown3.alloc _) (hp3.alloc _) hown5 hg5 (by simp)⟩
      case measure => simp [nLen]; have := HPL.out; omega
    · obtain rfl : e = D := by omega
      obtain ⟨T, hT⟩ : ∃ T, (L.length + 5) / 6 = T := ⟨_, rfl⟩
      have HT := Lib.hid hT
      have h6 : (padded L e).length = 6 * T := by have := HD.out; omega
      have hTb : T ≤ 170 := by omega
      have hT0 : 0 < T := by omega
      have HXB := Lib.hid (fun (j : Nat) (x : Int) (h : (padded L e)[j]? = some x) => padded_bit HBB.out h)
      clear hT hpl HD hlt
      obtain ⟨g, cap, ev, _, _⟩ := hown3.form (by omega)
      simp only [Value.slice.injEq, true_and] at ev
      obtain ⟨rfl, rfl⟩ := ev
      obtain ⟨N6, hN6⟩ : ∃ N6, (padded L e).length = N6 := ⟨_, rfl⟩
      rw [hN6] at hown3 h6 ⊢
      clear hN6
      generalize padded L e = Z at hown3 HXB ⊢
      have hcap := hown3.cap
      have hm7 : (N6 : Int) % 6 = 0 := by omega
      have HQ := Lib.hid (show (N6 : Int) / 6 = (T : Int) from by omega)
      have H6 := Lib.hid h6
      have hN0 : N6 ≤ 1020 := by omega
      have hz := hown3.rd
      have hpw := (hp0.trans hb1).trans hp3
      obtain ⟨wb, rfl⟩ : ∃ wb : World, wb = wr := ⟨_, rfl⟩
      clear hown3 hp3 h6
      go_wp2_with (at_make; refine wpList_make_own _ rfl _ _ 22 rfl wb.heap.size 5 u0 (.int .u8 0) 1 Try.underlying22 ui uz0 uz1 .i64 .i64 _ T rfl rfl HQ.out (by rw [uz2]; omega) (by unfold maxLen; omega) (Nat.le_refl _) ?_; intro w4 hown4 hg4)
      have hb4 : Past wb w4 := Below.grown (Below.refl _ _) hg4 (Nat.le_refl _) (fun k hk => by cases hk)
      have HB4 : BytesIn wb w4 (.slice (some ⟨wb.heap.size, 0, none⟩) 0 T) (idI L 0) := ⟨_, _, rfl, hown4, hb4⟩
      clear hown4 hg4 hm7
      go_loopw [6, 7] (fun v i wr => ∃ t : Nat, t ≤ T ∧ i = .int .i64 (6 * (t : Int)) ∧ BytesIn wb wr v (idI L t)) (fun _ i _ => N6 + 6 - (intOf i).toNat)
      case atStart => exact ⟨0, Nat.zero_le _, rfl, HB4⟩
      case round =>
        obtain ⟨t, ht, rfl, A5, k5, rfl, hown5, hp5⟩ := hrel
        clear HB4
        by_cases hlt : t < T
        · have ht0 : 6 * t + 6 ≤ N6 := by have := H6.out; omega
          have i0' : (0 : Int) ≤ 6 * (t : Int) := by omega
          have i1' : 6 * (t : Int) < (N6 : Int) := by omega
          have i2' : 6 * (t : Int) ≤ 6 * (t : Int) + 6 := by omega
          have i3' : 6 * (t : Int) + 6 ≤ (k3 : Int) := by omega
          have i4' : (6 * (t : Int)).toNat = 6 * t := by omega
          have i5' : (6 * (t : Int) + 6).toNat = 6 * t + 6 := by omega
          have i6' : ¬ k3 = 6 * t := by omega
          have i7' : 6 * t + 6 - 6 * t = 6 := by omega
          go_wp2_with fail
          go_loop [8, 40] (fun v j => ∃ e : Nat, e ≤ 6 ∧ j = .int .i64 (e : Int) ∧ v = .int .i64 (grp L t e)) (fun _ j => 6 - (intOf j).toNat)
          case atStart => exact ⟨0, Nat.zero_le _, rfl, rfl⟩
          case round =>
            obtain ⟨e, he, rfl, rfl⟩ := hrel
            obtain ⟨g0, g1⟩ := grp_64 L t e he
            by_cases hlte : e < 6
            · have hlte2 : (e : Int) < 6 := by omega
              obtain ⟨b1, o1, x, hA, hxj, hcx⟩ := (hz.past hp5).at_ (show 6 * t + e < N6 by omega)
              simp only [Option.some.injEq, Addr.mk.injEq] at hA
              obtain ⟨rfl, rfl, _⟩ := hA
              rw [Nat.zero_add] at hcx
              obtain rfl := HXB.out _ _ hxj
              obtain ⟨x0, x1⟩ := bitI_bd L (6 * t + e)
              have HG := Lib.hid (show grp L t (e + 1) = 2 * grp L t e + bitI L (6 * t + e) from rfl)
              clear hxj
              generalize grp L t e = G at g0 g1 HG ⊢
              generalize bitI L (6 * t + e) = X at x0 x1 hcx HG ⊢
              go_wp2
              go_round
              case rel => exact ⟨e + 1, by omega, by go_num, by rw [HG.out]⟩
              case measure => simp [intOf]; omega
            · obtain rfl : e = 6 := by omega
              have hix := fun w => letter_lit g0 g1 w
              have HN := Lib.hid (idI_next L t)
              have hil := idI_len L t
              have hil2 : (idI L t).length ≤ 170 := by omega
              clear hil
              generalize grp L t 6 = G at g0 g1 hix HN ⊢
              generalize ((letU G).toNat : Int) = U at hix HN
              generalize idI L t = Y at hown5 HN hil2 ⊢
              go_wp2_with (at_builtin; refine wpList_append_lies _ rfl _ _ 22 rfl wb.heap.size 5 u0 (.int .u8 0) 1 1 Try.underlying22 ui uz0 uz1 uz2 rfl (by decide) _ Y.length (Y.map (Value.int .u8)) rfl (hown5.alloc _) ⟨wr.heap.size, 0, none⟩ 1 1 [.int .u8 U] rfl rfl (World.news_of_block (Blk.at_ (by simp))) (by intro u hu; simp at hu; subst hu; rfl) (by decide) (by unfold maxLen; omega) (by omega) (Nat.le_trans hp5.size (by simp)) _ rfl ?_; intro g6 k6 w6 hown6 hg6 hat hlt6)
              go_roundw
              case rel => exact ⟨t + 1, by omega, by go_num, by rw [HN.out]; exact BytesIn.push (hown5.alloc _) (hp5.alloc _) hown6 hg6⟩
              case measure => simp [intOf]; omega
        · obtain rfl : t = T := by omega
          have hil := idI_len L t
          obtain ⟨g6, cap6, ev6, _, _⟩ := World.ownsRow.form hown5 (by omega)
          simp only [Value.slice.injEq, true_and] at ev6
          obtain ⟨rfl, rfl⟩ := ev6
          have hcv := run_convert_bytes_arg (P := Try.prog) wr 22 5 (by rfl) (by rfl) g6 0 (idI L t).length k5 (idI L t) rfl (fun i hi => OwB.cell hown5 i hi) 9 (by rfl)
          have HI := Lib.hid (show strOfNums (idI L t) = idOf L from by rw [idI_str, idOf, HT.out])
          have i1' : ¬ 6 * (t : Int) < (N6 : Int) := by have := H6.out; omega
          have hpf := hpw.trans hp5
          generalize strOfNums (idI L t) = S at hcv HI
          clear hil
          generalize (idI L t).length = q at hcv hown5 ⊢
          go_wp2
          go_ret
          rw [HI.out]
          exact ⟨rfl, hpf⟩
theorem boardId_any (p c h s : Int) (b o d q n k m l : Nat) (xs ys : List Int) (w : World) (hx : RdI w (some ⟨b, o, none⟩) n xs) (hy : RdI w (some ⟨d, q, none⟩) m ys) (hn : n ≤ 1048576) (hm : m ≤ 1048576) :
    Calls Try.prog 39 #[.agg #[.int .i64 p, .int .i64 c, .int .i64 h, .int .i64 s], .agg #[.slice (some ⟨b, o, none⟩) n k, .slice (some ⟨d, q, none⟩) m l]] w fun e w' => e = .returned (.string (idBd p c h s xs ys)) ∧ Past w w' := by
  cases hb : bOk p c h s xs ys
  · rw [show idBd p c h s xs ys = ⟨#[]⟩ from by simp [idBd, hb]]
    go_enter Try.func39, Try.ntmps39
    go_wp2_with (go_at_call 31; (with_reducible refine (isBoard_any _ _ _ _ _ _ _ _ _ _ _ _ _ (hx.past (by repeat (first | exact Past.refl _ | assumption | refine Past.alloc ?_ _ | refine Past.drew ?_ | refine Past.drewN ?_ _ | refine Past.setCell ?_ (by first | (simp; done) | (simp <;> omega)) _ | refine Past.trans ?_ (past_over _ _) | refine Past.trans ?_ (by assumption)))) (hy.past (by repeat (first | exact Past.refl _ | assumption | refine Past.alloc ?_ _ | refine Past.drew ?_ | refine Past.drewN ?_ _ | refine Past.setCell ?_ (by first | (simp; done) | (simp <;> omega)) _ | refine Past.trans ?_ (past_over _ _) | refine Past.trans ?_ (by assumption)))) hn hm).mono ?_); rintro e w1 ⟨rfl, hb1⟩; obtain ⟨hc1, hf1, _⟩ := hb1.cells; have hz1_0 : w.heap.size < w1.heap.size := Past.lt hb1 (by first | omega | (simp <;> omega)); have hz1_1 : w.heap.size + 1 < w1.heap.size := Past.lt hb1 (by first | omega | (simp <;> omega)))
    go_ret
    exact ⟨rfl, (by repeat (first | exact Past.refl _ | assumption | refine Past.alloc ?_ _ | refine Past.drew ?_ | refine Past.drewN ?_ _ | refine Past.setCell ?_ (by first | (simp; done) | (simp <;> omega)) _ | refine Past.trans ?_ (past_over _ _) | refine Past.trans ?_ (by assumption)))⟩
  · rw [show idBd p c h s xs ys = idOf (bitsRow (xs ++ ys)) from by simp [idBd, hb]]
    exact boardId_yes p c h s b o d q n k m l xs ys w hx hy hn hm (Lib.hid hb)
end Go.Proofs.Ytapocfgajkkpdaa
