/-
  Contracts: a board out of its letters: the walks.
-/
import Derived.Test.YtapocfgajkkpdaaReadId2
import Derived.Deep.DeepCutAuto
import Derived.Deep.RegionHeld3
namespace Go.Proofs.Ytapocfgajkkpdaa
open Go.ChangeShapes Go.WideShapes Go.ChangeAt Go.RowKit Go.Joins

theorem toList_ne {a b : ByteArray} (h : ¬ a = b) : (a.toList == b.toList) = false := by
  rw [beq_eq_false_iff_ne]
  intro e
  rw [ByteArray.toList_eq, ByteArray.toList_eq] at e
  exact h (ByteArray.ext (Array.toList_inj.1 e))
theorem and_one {x : Int} (h0 : 0 ≤ x) (h1 : x ≤ 63) : bits BinOp.and .i64 x 1 = x % 2 := by
  have h : ∀ v : Fin 64, bits BinOp.and .i64 ((v.val : Nat) : Int) 1 = ((v.val : Nat) : Int) % 2 := by decide
  have := h ⟨x.toNat, by omega⟩
  rw [show ((x.toNat : Nat) : Int) = x from by omega] at this
  exact this
set_option maxHeartbeats 4000000 in
set_option maxRecDepth 100000 in
theorem readId_yes (P : Nat) (c h s : Int) (tb : ByteArray) (w : World) (hv : Hid (vOk P c h s = true)) (hP : P ≤ 24) (hsz : tb.size ≤ 1048576) :
    Calls Try.prog 41 #[.agg #[.int .i64 (P : Int), .int .i64 c, .int .i64 h, .int .i64 s], .string tb] w (BoardCode w (rdL P c h s tb) (rdM P c h s tb) (rdC P c h s tb)) := by
  obtain ⟨i0, hi, hz0, hz1, hz2⟩ := info_parts infoI
  obtain ⟨wv, hwv⟩ : ∃ wv : World, wv = w.alloc (.cells #[.int .i64 (P : Int), .int .i64 c, .int .i64 h, .int .i64 s] 25) := ⟨_, rfl⟩
  have hp0 : Past w wv := by rw [hwv]; exact (by repeat (first | exact Past.refl _ | assumption | refine Past.alloc ?_ _ | refine Past.drew ?_ | refine Past.drewN ?_ _ | refine Past.setCell ?_ (by first | (simp; done) | (simp <;> omega)) _ | refine Past.trans ?_ (past_over _ _) | refine Past.trans ?_ (by assumption)))
  have c0 : wv.cell? ⟨w.heap.size, 0, none⟩ = some (.int .i64 (P : Int)) := by rw [hwv]; simp [go_sem]
  have c1 : wv.cell? ⟨w.heap.size, 1, none⟩ = some (.int .i64 c) := by rw [hwv]; simp [go_sem]
  have c2 : wv.cell? ⟨w.heap.size, 2, none⟩ = some (.int .i64 h) := by rw [hwv]; simp [go_sem]
  have c3 : wv.cell? ⟨w.heap.size, 3, none⟩ = some (.int .i64 s) := by rw [hwv]; simp [go_sem]
  have zv : wv.heap.size = w.heap.size + 1 := by rw [hwv]; simp [go_sem]
  obtain ⟨w0, hw0⟩ : ∃ w0 : World, w0 = wv.alloc (.cells #[.slice none 0 0, .slice none 0 0] 43) := ⟨_, rfl⟩
  have hpr : Past wv w0 := by rw [hw0]; exact (by repeat (first | exact Past.refl _ | assumption | refine Past.alloc ?_ _ | refine Past.drew ?_ | refine Past.drewN ?_ _ | refine Past.setCell ?_ (by first | (simp; done) | (simp <;> omega)) _ | refine Past.trans ?_ (past_over _ _) | refine Past.trans ?_ (by assumption)))
  have hR : Blk w0 (w.heap.size + 1) 43 #[.slice none 0 0, .slice none 0 0] := by rw [hw0]; exact Blk.at_ zv.symm
  have d0 := hpr.keep c0
  have d1 := hpr.keep c1
  have d2 := hpr.keep c2
  have d3 := hpr.keep c3
  have hp00 := hp0.trans hpr
  have zl : w.heap.size + 1 < w0.heap.size := hR.lt
  clear c0 c1 c2 c3 hp0 hpr zv
  have hv' := hv.out
  go_enter Try.func41, Try.ntmps41
  go_upto_region 1 with fail
  rw [← hwv, ← hw0]
  clear hwv hw0
  go_wp2_with fail
  (with_reducible refine (isVar_any _ _ _ _ _).mono ?_)
  rintro e w1 ⟨rfl, hb1⟩
  rw [hv']
  clear hv'
  replace d0 := hb1.keep d0
  replace d1 := hb1.keep d1
  replace d2 := hb1.keep d2
  replace d3 := hb1.keep d3
  have hR1 := hR.past hb1
  have hp01 := hp00.trans hb1
  have zl1 := hR1.lt
  have dl := World.block_lt_of_cell? w1 _ d0
  simp only at dl
  clear hR hp00 zl hb1
  by_cases h14 : tb.size ≤ 14
  · have h14' : (tb.size : Int) ≤ 14 := by omega
    go_wp2_with fail
    go_loopw [6, 23] (fun v i wr => ∃ j : Nat, j ≤ tb.size ∧ i = .int .i64 (j : Int) ∧ NumsIn w1 wr v (bitsTo tb j) ∧ Hid (∀ t, t < j → 0 ≤ letVal (byteAt tb t))) (fun _ i _ => tb.size - (intOf i).toNat)
    case atStart => exact ⟨0, Nat.zero_le _, rfl, NumsIn.nil w1, Lib.hid (fun _ h => absurd h (Nat.not_lt_zero _))⟩
    case round =>
      obtain ⟨j, hj, rfl, ⟨A2, k2, rfl, hown2, hp2⟩, HG⟩ := hrel
      have hl2 := bitsTo_len tb j
      by_cases hlt : j < tb.size
      · have hlt2 : (j : Int) < (tb.size : Int) := by omega
        have hix := fun w => tx_ix hlt w
        obtain ⟨v0, v1⟩ := letVal_bd (byteAt tb j)
        by_cases hneg : letVal (byteAt tb j) < 0
        · have U := Lib.hid (rd_6 hv.out h14 hlt hneg)
          have hRk := hR1.past hp2
          have r0 := hRk.cell 0 rfl
          have r1 := hRk.cell 1 rfl
          have r2 := hRk.free 0
          have r3 := hRk.free 1
          have hpp := Lib.hid (put2 (a := 0) (b := 1) (g := w.heap.size + 1) (u := .slice none 0 0) (v := .slice none 0 0) (hp01.trans hp2) (by omega))
          have hval := fun w => idValue_any (byteAt tb j) w
          clear hl2
          generalize byteAt tb j = bt at hix v0 v1 hneg hval
          generalize letVal bt = V at v0 v1 hneg hval
          have HVAL := Lib.hid hval
          clear hval
          go_wp2_with (go_at_call 85; (with_reducible refine (HVAL.out _).mono ?_); rintro e w9 ⟨rfl, rfl⟩)
          refine bodyPost_ret (v := .tuple #[.agg #[.slice none 0 0, .slice none 0 0], .int .i64 6]) (by simp [*, results, Try.results41, go_sem]) rfl (RdCode.nil U.out hpp.out)
        · have HT := Lib.hid (show bitsTo tb (j + 1) = bitsTo tb j ++ bitsV (letVal (byteAt tb j)) 6 from rfl)
          have HGN := Lib.hid (show ∀ t, t < j + 1 → 0 ≤ letVal (byteAt tb t) from fun t ht => by
            rcases Nat.lt_or_ge t j with h1 | h1
            · exact HG.out t h1
            · obtain rfl : t = j := by omega
              omega)
          have hl3 : (bitsTo tb j).length ≤ 90 := by omega
          have hval := fun w => idValue_any (byteAt tb j) w
          clear hl2
          generalize byteAt tb j = bt at hix v0 v1 hneg HT hval
          generalize letVal bt = V at v0 v1 hneg HT hval
          generalize bitsTo tb j = X at hown2 hl3 HT ⊢
          have HVAL := Lib.hid hval
          clear hval
          have a32 := and_one (x := V / 32) (by omega) (by omega)
          have a16 := and_one (x := V / 16) (by omega) (by omega)
          have a8 := and_one (x := V / 8) (by omega) (by omega)
          have a4 := and_one (x := V / 4) (by omega) (by omega)
          have a2 := and_one (x := V / 2) (by omega) (by omega)
          have a1 := and_one (x := V) (by omega) (by omega)
          go_wp2_with (go_at_call 85; (with_reducible refine (HVAL.out _).mono ?_); rintro e w9 ⟨rfl, rfl⟩)
          go_loopw [6, 9] (fun u i wr => ∃ e : Nat, e ≤ 6 ∧ i = .int .i64 (5 - (e : Int)) ∧ NumsIn w1 wr u (X ++ bitsV V e)) (fun _ i _ => (intOf i + 1).toNat)
          case atStart => exact ⟨0, Nat.zero_le _, rfl, by rw [bitsV, List.append_nil]; exact ⟨A2, k2, rfl, hown2, hp2⟩⟩
          case round =>
            obtain ⟨e, he, rfl, A3, k3, rfl, hown3, hp3⟩ := hrel
            clear hown2 hp2
            have hlz : (X ++ bitsV V e).length ≤ 100 := by rw [List.length_append, bitsV_len]; omega
            by_cases hlte : e < 6
            · have HN := Lib.hid (show X ++ bitsV V (e + 1) = (X ++ bitsV V e) ++ [V / kAt e % 2] from by rw [bitsV, List.append_assoc])
              generalize X ++ bitsV V e = Z at hown3 hlz HN ⊢
              rcases (by omega : e = 0 ∨ e = 1 ∨ e = 2 ∨ e = 3 ∨ e = 4 ∨ e = 5) with rfl | rfl | rfl | rfl | rfl | rfl
              all_goals
                go_wp2_with (at_builtin; refine wpList_append_lies _ rfl _ _ 28 rfl w1.heap.size 2 i0 (.int .i64 0) 1 8 Try.underlying28 hi hz0 hz1 hz2 rfl (by decide) _ Z.length (Z.map (Value.int .i64)) rfl (hown3.alloc _) ⟨wr.heap.size, 0, none⟩ 1 1 [.int .i64 _] rfl rfl (cell_one_new _ _ _) (by intro u hu; simp at hu; subst hu; rfl) (by decide) (by unfold maxLen; omega) (by omega) (Nat.le_trans hp3.size (by simp)) _ rfl ?_; intro g5 k5 w5 hown5 hg5 hat hlt5)
                go_roundw
                case rel =>
                  first
                  | exact ⟨1, by omega, by first | rfl | go_num, HN.out ▸ NumsIn.push (hown3.alloc _) (hp3.alloc _) hown5 hg5 (by simp)⟩
                  | exact ⟨2, by omega, by first | rfl | go_num, HN.out ▸ NumsIn.push (hown3.alloc _) (hp3.alloc _) hown5 hg5 (by simp)⟩
                  | exact ⟨3, by omega, by first | rfl | go_num, HN.out ▸ NumsIn.push (hown3.alloc _) (hp3.alloc _) hown5 hg5 (by simp)⟩
                  | exact ⟨4, by omega, by first | rfl | go_num, HN.out ▸ NumsIn.push (hown3.alloc _) (hp3.alloc _) hown5 hg5 (by simp)⟩
                  | exact ⟨5, by omega, by first | rfl | go_num, HN.out ▸ NumsIn.push (hown3.alloc _) (hp3.alloc _) hown5 hg5 (by simp)⟩
                  | exact ⟨6, by omega, by first | rfl | go_num, (show X ++ bitsV V 6 = Z ++ [V % 2] from by rw [HN.out, show kAt 5 = 1 from rfl, Int.ediv_one]) ▸ NumsIn.push (hown3.alloc _) (hp3.alloc _) hown5 hg5 (by simp)⟩
                case measure => simp [intOf]
            · obtain rfl : e = 6 := by omega
              go_wp2
              go_roundw
              case rel => exact ⟨j + 1, by omega, by go_num, by rw [HT.out]; exact ⟨A3, k3, rfl, hown3, hp3⟩, HGN⟩
              case measure => simp [intOf]; omega
      · obtain rfl : j = tb.size := by omega
        have HGT : Hid (goodT tb) := Lib.hid (fun t ht => HG.out t ht)
        have q0 := hp2.keep d0
        have q1 := hp2.keep d1
        have q2 := hp2.keep d2
        have q3 := hp2.keep d3
        have hRr := hR1.past hp2
        have hzr := hRr.lt
        have hp02 := hp01.trans hp2
        have hBn : (bitsTo tb tb.size).length ≤ 1000 := by omega
        have hB1 := hown2.rd
        clear hl2 HG hown2
        rw [show bitsTo tb tb.size = rdB tb from rfl] at hB1 hBn ⊢
        go_wp2_with fail
        (with_reducible refine (boardFrom_any P c h s A2 (rdB tb).length k2 (rdB tb) _ hB1 hBn hP).mono ?_)
        intro e w2 hbf
        rcases hbf with ⟨t, A6, k6, D6, l6, HT, rfl, hval, hb2⟩ | ⟨HT, rfl, hb2⟩
        · obtain ⟨L, hL⟩ : ∃ L, (spl (rdB tb) (t + 1)).1.take (P + 1) = L := ⟨_, rfl⟩
          obtain ⟨M, hM⟩ : ∃ M, (spl (rdB tb) (t + 1)).1.drop (P + 1) = M := ⟨_, rfl⟩
          rw [hL, hM] at hval ⊢
          obtain ⟨ok, hok⟩ : ∃ ok, bOk P c h s L M = ok := ⟨_, rfl⟩
          rw [hok]
          have hRk := hRr.past hb2
          have zl2 := hRk.lt
          have dl2 : w.heap.size < w2.heap.size := by omega
          have s0 := hb2.keep q0
          have s1 := hb2.keep q1
          have s2 := hb2.keep q2
          have s3 := hb2.keep q3
          have hp03 := hp02.trans hb2
          clear q0 q1 q2 q3 d0 d1 d2 d3 hBn hB1
          go_upto_region 18 with fail
          have hb3 := (Past.refl w2).alloc (.cells #[.slice A6 L.length k6, .slice D6 M.length l6] 43)
          have hB3 := Blk.new w2 43 #[.slice A6 L.length k6, .slice D6 M.length l6]
          generalize w2.alloc (.cells #[.slice A6 L.length k6, .slice D6 M.length l6] 43) = w3 at hb3 hB3 ⊢
          replace s0 := hb3.keep s0
          replace s1 := hb3.keep s1
          replace s2 := hb3.keep s2
          replace s3 := hb3.keep s3
          have b0 := hB3.cell 0 rfl
          have b1 := hB3.cell 1 rfl
          have hv3 := hval.past hb3
          have hR3 := hRk.past hb3
          have hp04 := hp03.trans hb3
          have bl := hB3.lt
          have el := World.block_lt_of_cell? w3 _ s0
          simp only at el
          cases ok
          · have U := Lib.hid (rd_4 (p := (P : Int)) (tb := tb) hv.out h14 HGT.out (fun L' M' ⟨j', hj', e1, e2, hb', _⟩ => by
              rw [Int.toNat_natCast] at hj' e1 e2
              obtain rfl := hitZ_one_only HT hj'
              rw [← e1, ← e2, hL, hM, hok] at hb'
              cases hb'))
            have r0 := hR3.cell 0 rfl
            have r1 := hR3.cell 1 rfl
            have r2 := hR3.free 0
            have r3 := hR3.free 1
            have hpp := Lib.hid (put2 (a := 0) (b := 1) (g := w.heap.size + 1) (u := .slice none 0 0) (v := .slice none 0 0) hp04 (by omega))
            clear hval hL hM
            go_wp2
            refine bodyPost_ret (v := .tuple #[.agg #[.slice none 0 0, .slice none 0 0], .int .i64 4]) (by simp [*, results, Try.results41, go_sem]) rfl (RdCode.nil U.out hpp.out)
          · have F := bFacts hok
            have hL0 : 0 < L.length := by omega
            have hM0 : 0 < M.length := by omega
            have hL25 : L.length ≤ 1048576 := by omega
            have hM25 : M.length ≤ 1048576 := by omega
            clear F
            obtain ⟨g1, cap1, ev1, _, _⟩ := World.ownsRow.form hv3.1 hL0
            obtain ⟨g2, cap2, ev2, _, _⟩ := World.ownsRow.form hv3.2.1 hM0
            simp only [Value.slice.injEq, true_and] at ev1 ev2
            obtain ⟨rfl, rfl⟩ := ev1
            obtain ⟨rfl, rfl⟩ := ev2
            have rd1 := hv3.1.rd
            have rd2 := hv3.2.1.rd
            have hS : idBd P c h s L M = idOf (bitsRow (L ++ M)) := by rw [idBd, if_pos hok]
            go_wp2_with fail
            (with_reducible refine (boardId_any _ _ _ _ _ _ _ _ _ _ _ _ _ _ _ rd1 rd2 hL25 hM25).mono ?_)
            rintro e w4 ⟨rfl, hb4⟩
            have u0 := hb4.keep b0
            have u1 := hb4.keep b1
            have hR4 := hR3.past hb4
            have hv4 := hv3.past hb4
            have hp05 := hp04.trans hb4
            have r0 := hR4.cell 0 rfl
            have r1 := hR4.cell 1 rfl
            have r2 := hR4.free 0
            have r3 := hR4.free 1
            by_cases hE : idBd P c h s L M = tb
            · have U := Lib.hid (rd_0 (p := (P : Int)) (tb := tb) (L := L) (M := M) hv.out h14 HGT.out ⟨t, by rw [Int.toNat_natCast]; exact HT, by rw [Int.toNat_natCast]; exact hL, by rw [Int.toNat_natCast]; exact hM, hok, by rw [← hS]; exact hE⟩)
              have hv8 := Lib.hid ((hv4.far (g := w.heap.size + 1) (by omega) (.slice (some ⟨g1, 0, none⟩) L.length k6) (.slice (some ⟨g2, 0, none⟩) M.length l6)).less (V := w) (by omega))
              have hp8 := Lib.hid (put2 (a := 0) (b := 1) (g := w.heap.size + 1) (u := .slice (some ⟨g1, 0, none⟩) L.length k6) (v := .slice (some ⟨g2, 0, none⟩) M.length l6) hp05 (by omega))
              rw [hE]
              clear hval hv3 hv4 hS hE hok hL hM
              go_wp2
              refine bodyPost_ret (v := .tuple #[.agg #[.slice (some ⟨g1, 0, none⟩) L.length k6, .slice (some ⟨g2, 0, none⟩) M.length l6], .int .i64 0]) (by simp [*, results, Try.results41, go_sem]) rfl (RdCode.at_ U.out rfl rfl hv8.out hp8.out)
            · have U := Lib.hid (rd_4 (p := (P : Int)) (tb := tb) hv.out h14 HGT.out (fun L' M' ⟨j', hj', e1, e2, _, e3⟩ => by
                rw [Int.toNat_natCast] at hj' e1 e2
                obtain rfl := hitZ_one_only HT hj'
                rw [hL] at e1
                rw [hM] at e2
                subst e1 e2
                exact hE (hS.trans e3)))
              have hpp := Lib.hid (put2 (a := 0) (b := 1) (g := w.heap.size + 1) (u := .slice none 0 0) (v := .slice none 0 0) hp05 (by omega))
              have hbb := toList_ne hE
              clear hval hv3 hv4 hS hok hL hM hE
              generalize idBd P c h s L M = S at hbb ⊢
              go_wp2
              refine bodyPost_ret (v := .tuple #[.agg #[.slice none 0 0, .slice none 0 0], .int .i64 4]) (by simp [*, results, Try.results41, go_sem]) rfl (RdCode.nil U.out hpp.out)
        · have U := Lib.hid (rd_4 (p := (P : Int)) (tb := tb) hv.out h14 HGT.out (fun L' M' ⟨j', hj', _⟩ => by
            rw [Int.toNat_natCast] at hj'
            exact HT j' hj'))
          have hRk := hRr.past hb2
          have zl2 := hRk.lt
          have dl2 : w.heap.size < w2.heap.size := by omega
          have r0 := hRk.cell 0 rfl
          have r1 := hRk.cell 1 rfl
          have r2 := hRk.free 0
          have r3 := hRk.free 1
          have hpp := Lib.hid ((put2 (a := 0) (b := 1) (g := w.heap.size + 1) (u := .slice none 0 0) (v := .slice none 0 0) (hp02.trans hb2) (by omega)).alloc (.cells #[.slice none 0 0, .slice none 0 0] 43))
          clear HT
          go_wp2
          refine bodyPost_ret (v := .tuple #[.agg #[.slice none 0 0, .slice none 0 0], .int .i64 4]) (by simp [*, results, Try.results41, go_sem]) rfl (RdCode.nil U.out hpp.out)
  · have U := Lib.hid (rd_3 hv.out h14)
    have h14' : ¬ (tb.size : Int) ≤ 14 := by omega
    have r0 := hR1.cell 0 rfl
    have r1 := hR1.cell 1 rfl
    have r2 := hR1.free 0
    have r3 := hR1.free 1
    have hpp := Lib.hid (put2 (a := 0) (b := 1) (g := w.heap.size + 1) (u := .slice none 0 0) (v := .slice none 0 0) (hp01) (by omega))
    go_wp2
    refine bodyPost_ret (v := .tuple #[.agg #[.slice none 0 0, .slice none 0 0], .int .i64 3]) (by simp [*, results, Try.results41, go_sem]) rfl (RdCode.nil U.out hpp.out)
end Go.Proofs.Ytapocfgajkkpdaa
