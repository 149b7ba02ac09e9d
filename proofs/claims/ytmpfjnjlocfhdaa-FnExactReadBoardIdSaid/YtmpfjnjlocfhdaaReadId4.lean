/-
  Contracts: a board out of its letters: the reference's walk; the law's contracts.
-/
import Derived.Test.YtmpfjnjlocfhdaaReadId3
namespace Go.Proofs.Ytmpfjnjlocfhdaa
open Go.ChangeShapes Go.WideShapes Go.ChangeAt Go.RowKit Go.Joins

theorem spl_lt {B : List Int} {Z j : Nat} (hj : j ≤ B.length) (hZ : 0 < Z) (h : ∀ t, t < j → ¬ hitZ B Z t) : (spl B j).1.length < Z := by
  rcases Nat.lt_or_ge (spl B j).1.length Z with h1 | h1
  · exact h1
  · obtain ⟨t, ht⟩ := hit_of hj hZ h1
    rcases Nat.lt_or_ge t j with h2 | h2
    · exact absurd ht (h t h2)
    · have := spl_mono B h2
      have := ht.2.2
      omega
set_option maxHeartbeats 4000000 in
set_option maxRecDepth 100000 in
theorem sReadId_yes (P : Nat) (c h s : Int) (tb : ByteArray) (w : World) (hv : Hid (vOk P c h s = true)) (hP : P ≤ 24) (hsz : tb.size ≤ 1048576) :
    Calls Try.prog 39 #[.agg #[.int .i64 (P : Int), .int .i64 c, .int .i64 h, .int .i64 s], .string tb] w (BoardCode w (rdL P c h s tb) (rdM P c h s tb) (rdC P c h s tb)) := by
  obtain ⟨i0, hi, hz0, hz1, hz2⟩ := info_parts infoI
  obtain ⟨wv, hwv⟩ : ∃ wv : World, wv = w.alloc (.cells #[.int .i64 (P : Int), .int .i64 c, .int .i64 h, .int .i64 s] 29) := ⟨_, rfl⟩
  have hp0 : Past w wv := by rw [hwv]; exact (by repeat (first | exact Past.refl _ | assumption | refine Past.alloc ?_ _ | refine Past.drew ?_ | refine Past.drewN ?_ _ | refine Past.setCell ?_ (by first | (simp; done) | (simp <;> omega)) _ | refine Past.trans ?_ (past_over _ _) | refine Past.trans ?_ (by assumption)))
  have c0 : wv.cell? ⟨w.heap.size, 0, none⟩ = some (.int .i64 (P : Int)) := by rw [hwv]; simp [go_sem]
  have c1 : wv.cell? ⟨w.heap.size, 1, none⟩ = some (.int .i64 c) := by rw [hwv]; simp [go_sem]
  have c2 : wv.cell? ⟨w.heap.size, 2, none⟩ = some (.int .i64 h) := by rw [hwv]; simp [go_sem]
  have c3 : wv.cell? ⟨w.heap.size, 3, none⟩ = some (.int .i64 s) := by rw [hwv]; simp [go_sem]
  have zv : wv.heap.size = w.heap.size + 1 := by rw [hwv]; simp [go_sem]
  obtain ⟨w0, hw0⟩ : ∃ w0 : World, w0 = wv.alloc (.cells #[.slice none 0 0, .slice none 0 0] 26) := ⟨_, rfl⟩
  have hpr : Past wv w0 := by rw [hw0]; exact (by repeat (first | exact Past.refl _ | assumption | refine Past.alloc ?_ _ | refine Past.drew ?_ | refine Past.drewN ?_ _ | refine Past.setCell ?_ (by first | (simp; done) | (simp <;> omega)) _ | refine Past.trans ?_ (past_over _ _) | refine Past.trans ?_ (by assumption)))
  have hR : Blk w0 (w.heap.size + 1) 26 #[.slice none 0 0, .slice none 0 0] := by rw [hw0]; exact Blk.at_ zv.symm
  have d0 := hpr.keep c0
  have d1 := hpr.keep c1
  have d2 := hpr.keep c2
  have d3 := hpr.keep c3
  have hp00 := hp0.trans hpr
  have zl : w.heap.size + 1 < w0.heap.size := hR.lt
  clear c0 c1 c2 c3 hp0 hpr zv
  have hv' := hv.out
  go_enter Try.func39, Try.ntmps39
  go_upto_region 1 with fail
  rw [← hwv, ← hw0]
  clear hwv hw0
  go_wp2_with fail
  (with_reducible refine (sIsVar_any _ _ _ _ _).mono ?_)
  rintro e w1 ⟨rfl, hb1⟩
  rw [hv']
  clear hv'
  replace d0 := hb1.keep d0
  replace d1 := hb1.keep d1
  replace d2 := hb1.keep d2
  replace d3 := hb1.keep d3
  have hR1 := hR.past hb1
  have hp01 := hp00.trans hb1
  have zl1 := hR1.lt
  have dl := World.block_lt_of_cell? w1 _ d0
  simp only at dl
  clear hR hp00 zl hb1
  by_cases h14 : tb.size ≤ 14
  · have h14' : (tb.size : Int) ≤ 14 := by omega
    go_wp2_with fail
    have HS := NumsIn.empty w1 2 rfl
    go_loopw [6, 7] (fun v i wr => ∃ j : Nat, j ≤ tb.size ∧ i = .int .i64 (j : Int) ∧ NumsIn w1 wr v (bitsTo tb j) ∧ Hid (∀ t, t < j → 0 ≤ letVal (byteAt tb t))) (fun _ i _ => tb.size - (intOf i).toNat)
    case atStart => exact ⟨0, Nat.zero_le _, rfl, HS, Lib.hid (fun _ h => absurd h (Nat.not_lt_zero _))⟩
    case round =>
      obtain ⟨j, hj, rfl, ⟨A2, k2, rfl, hown2, hp2⟩, HG⟩ := hrel
      clear HS
      have hl2 := bitsTo_len tb j
      by_cases hlt : j < tb.size
      · have hlt2 : (j : Int) < (tb.size : Int) := by omega
        have hix := fun w => tx_ix hlt w
        obtain ⟨v0, v1⟩ := letVal_bd (byteAt tb j)
        by_cases hneg : letVal (byteAt tb j) < 0
        · have U := Lib.hid (rd_6 hv.out h14 hlt hneg)
          have hRk := hR1.past hp2
          have r0 := hRk.cell 0 rfl
          have r1 := hRk.cell 1 rfl
          have r2 := hRk.free 0
          have r3 := hRk.free 1
          have hpp := Lib.hid (put2 (a := 0) (b := 1) (g := w.heap.size + 1) (u := .slice none 0 0) (v := .slice none 0 0) (hp01.trans hp2) (by omega))
          have hval := fun w => l03Letter_any (byteAt tb j) w
          clear hl2
          generalize byteAt tb j = bt at hix v0 v1 hneg hval
          generalize letVal bt = V at v0 v1 hneg hval
          have HVAL := Lib.hid hval
          clear hval
          go_wp2_with (go_at_call 73; (with_reducible refine (HVAL.out _).mono ?_); rintro e w9 ⟨rfl, rfl⟩)
          refine bodyPost_ret (v := .tuple #[.agg #[.slice none 0 0, .slice none 0 0], .int .i64 6]) (by simp [*, results, Try.results39, go_sem]) rfl (RdCode.nil U.out hpp.out)
        · have HT := Lib.hid (show bitsTo tb (j + 1) = bitsTo tb j ++ bitsV (letVal (byteAt tb j)) 6 from rfl)
          have HGN := Lib.hid (show ∀ t, t < j + 1 → 0 ≤ letVal (byteAt tb t) from fun t ht => by
            rcases Nat.lt_or_ge t j with h1 | h1
            · exact HG.out t h1
            · obtain rfl : t = j := by omega
              omega)
          have hl3 : (bitsTo tb j).length ≤ 90 := by omega
          have hval := fun w => l03Letter_any (byteAt tb j) w
          clear hl2
          generalize byteAt tb j = bt at hix v0 v1 hneg HT hval
          generalize letVal bt = V at v0 v1 hneg HT hval
          generalize bitsTo tb j = X at hown2 hl3 HT ⊢
          have HVAL := Lib.hid hval
          clear hval
          have t32 : (V / 32).tmod 2 = V / 32 % 2 := Int.tmod_eq_emod_of_nonneg (by omega)
          have t16 : (V / 16).tmod 2 = V / 16 % 2 := Int.tmod_eq_emod_of_nonneg (by omega)
          have t8 : (V / 8).tmod 2 = V / 8 % 2 := Int.tmod_eq_emod_of_nonneg (by omega)
          have t4 : (V / 4).tmod 2 = V / 4 % 2 := Int.tmod_eq_emod_of_nonneg (by omega)
          have t2 : (V / 2).tmod 2 = V / 2 % 2 := Int.tmod_eq_emod_of_nonneg (by omega)
          have t1 : V.tmod 2 = V % 2 := Int.tmod_eq_emod_of_nonneg (by omega)
          go_wp2_with (go_at_call 73; (with_reducible refine (HVAL.out _).mono ?_); rintro e w9 ⟨rfl, rfl⟩)
          go_loopw [6, 9] (fun u i wr => ∃ e : Nat, e ≤ 6 ∧ i = .int .i64 (kAt e) ∧ NumsIn w1 wr u (X ++ bitsV V e)) (fun _ i _ => (intOf i).toNat)
          case atStart => exact ⟨0, Nat.zero_le _, rfl, by rw [bitsV, List.append_nil]; exact ⟨A2, k2, rfl, hown2, hp2⟩⟩
          case round =>
            obtain ⟨e, he, rfl, A3, k3, rfl, hown3, hp3⟩ := hrel
            clear hown2 hp2
            have hlz : (X ++ bitsV V e).length ≤ 100 := by rw [List.length_append, bitsV_len]; omega
            by_cases hlte : e < 6
            · have HN := Lib.hid (show X ++ bitsV V (e + 1) = (X ++ bitsV V e) ++ [V / kAt e % 2] from by rw [bitsV, List.append_assoc])
              generalize X ++ bitsV V e = Z at hown3 hlz HN ⊢
              rcases (by omega : e = 0 ∨ e = 1 ∨ e = 2 ∨ e = 3 ∨ e = 4 ∨ e = 5) with rfl | rfl | rfl | rfl | rfl | rfl
              all_goals
                first
                | rw [show kAt 0 = 32 from rfl]
                | rw [show kAt 1 = 16 from rfl]
                | rw [show kAt 2 = 8 from rfl]
                | rw [show kAt 3 = 4 from rfl]
                | rw [show kAt 4 = 2 from rfl]
                | rw [show kAt 5 = 1 from rfl]
                go_wp2_with (at_builtin; refine wpList_append_lies _ rfl _ _ 24 rfl w1.heap.size 2 i0 (.int .i64 0) 1 8 Try.underlying24 hi hz0 hz1 hz2 rfl (by decide) _ Z.length (Z.map (Value.int .i64)) rfl (hown3.alloc _) ⟨wr.heap.size, 0, none⟩ 1 1 [.int .i64 _] rfl rfl (cell_one_new _ _ _) (by intro u hu; simp at hu; subst hu; rfl) (by decide) (by unfold maxLen; omega) (by omega) (Nat.le_trans hp3.size (by simp)) _ rfl ?_; intro g5 k5 w5 hown5 hg5 hat hlt5)
                go_roundw
                case rel =>
                  first
                  | exact ⟨1, by omega, by first | rfl | go_num, HN.out ▸ NumsIn.push (hown3.alloc _) (hp3.alloc _) hown5 hg5 (by simp)⟩
                  | exact ⟨2, by omega, by first | rfl | go_num, HN.out ▸ NumsIn.push (hown3.alloc _) (hp3.alloc _) hown5 hg5 (by simp)⟩
                  | exact ⟨3, by omega, by first | rfl | go_num, HN.out ▸ NumsIn.push (hown3.alloc _) (hp3.alloc _) hown5 hg5 (by simp)⟩
                  | exact ⟨4, by omega, by first | rfl | go_num, HN.out ▸ NumsIn.push (hown3.alloc _) (hp3.alloc _) hown5 hg5 (by simp)⟩
                  | exact ⟨5, by omega, by first | rfl | go_num, HN.out ▸ NumsIn.push (hown3.alloc _) (hp3.alloc _) hown5 hg5 (by simp)⟩
                  | exact ⟨6, by omega, by first | rfl | go_num, (show X ++ bitsV V 6 = Z ++ [V % 2] from by rw [HN.out, show kAt 5 = 1 from rfl, Int.ediv_one]) ▸ NumsIn.push (hown3.alloc _) (hp3.alloc _) hown5 hg5 (by simp)⟩
                case measure => simp [intOf]
            · obtain rfl : e = 6 := by omega
              rw [show kAt 6 = 0 from rfl]
              go_wp2
              go_roundw
              case rel => exact ⟨j + 1, by omega, by go_num, by rw [HT.out]; exact ⟨A3, k3, rfl, hown3, hp3⟩, HGN⟩
              case measure => simp [intOf]; omega
      · obtain rfl : j = tb.size := by omega
        have HGT : Hid (goodT tb) := Lib.hid (fun t ht => HG.out t ht)
        have q0 := hp2.keep d0
        have q1 := hp2.keep d1
        have q2 := hp2.keep d2
        have q3 := hp2.keep d3
        have HB01 := Lib.hid (rdB_01 tb)
        have q0 := hp2.keep d0
        have q1 := hp2.keep d1
        have q2 := hp2.keep d2
        have q3 := hp2.keep d3
        have hRr := hR1.past hp2
        have hzr := hRr.lt
        have hp02 := hp01.trans hp2
        have hBn : (bitsTo tb tb.size).length ≤ 90 := by omega
        clear hl2 HG
        rw [show bitsTo tb tb.size = rdB tb from rfl] at hown2 hBn ⊢
        have hB1 := hown2.rd
        obtain ⟨B, hB⟩ : ∃ B, rdB tb = B := ⟨_, rfl⟩
        rw [hB] at hown2 hBn hB1 HB01 ⊢
        have HB := Lib.hid hB
        clear hB
        obtain ⟨wb, rfl⟩ : ∃ wb : World, wb = wr := ⟨_, rfl⟩
        have ql := World.block_lt_of_cell? wb _ q0
        simp only at ql
        go_wp2_with fail
        go_loop [10, 11] (fun z i => ∃ j : Nat, j ≤ B.length ∧ i = .int .i64 (j : Int) ∧ z = .int .i64 ((spl B j).1.length : Int) ∧ Hid (∀ t, t < j → ¬ hitZ B (2 * P + 2) t)) (fun _ i => B.length - (intOf i).toNat)
        case atStart => exact ⟨0, Nat.zero_le _, rfl, rfl, Lib.hid (fun _ h => absurd h (Nat.not_lt_zero _))⟩
        case round =>
          obtain ⟨j, hj, rfl, rfl, HNO⟩ := hrel
          have hlz := spl_lt (B := B) (j := j) (by omega) (by omega) HNO.out
          have hlj := (spl_le B j).1
          by_cases hlt : j < B.length
          · obtain ⟨b1, o1, x, hA, hxj, hcx⟩ := hB1.at_ hlt
            subst hA
            have hjn : (j : Int) < (B.length : Int) := by omega
            obtain ⟨C, R, hCR⟩ : ∃ C R, spl B j = (C, R) := ⟨_, _, rfl⟩
            rw [hCR] at hlz hlj ⊢
            dsimp only at hlz hlj ⊢
            rcases HB01.out x (List.mem_of_getElem? hxj) with rfl | rfl
            · have HN := Lib.hid (show (spl B (j + 1)).1.length = C.length + 1 from by rw [spl_off hxj (by omega) hCR]; simp)
              have HH := Lib.hid (hitZ_of (Z := 2 * P + 2) hxj (by omega) hCR)
              clear hxj
              by_cases hz : C.length + 1 = 2 * P + 2
              · have HJ := Lib.hid (HH.out.2 hz)
                have hz3 : (C.length : Int) + 1 = 2 * (P : Int) + 2 := by omega
                obtain ⟨g', cap, ev, _, _⟩ := World.ownsRow.form hown2 (by omega)
                simp only [Value.slice.injEq, Option.some.injEq, Addr.mk.injEq, true_and, and_true] at ev
                obtain ⟨⟨rfl, rfl⟩, rfl⟩ := ev
                rw [Nat.zero_add] at hcx
                have hxL := rd_take hown2 (j + 1) (by omega)
                have hcap := hown2.cap
                obtain ⟨e1, e2, e3⟩ := lb_take HJ.out
                have hbb := (lb_yes (p := P) (c := c) (h := h) (s := s) e3).2.2
                have i0' : (0 : Int) ≤ (j : Int) + 1 := by omega
                have i1' : (j : Int) + 1 ≤ (k2 : Int) := by omega
                have W1 : IntKind.i64.wrap ((j : Int) + 1) = (j : Int) + 1 := IntWalk.i64_in _ (by omega)
                have W2 : ((j : Int) + 1).toNat = j + 1 := by omega
                have hc := fun w hx => l03Board_any P c h s (some ⟨b1, 0, none⟩) (j + 1) k2 (B.take (j + 1)) w hx (by omega) hP
                rw [hbb] at hc
                obtain ⟨L, hL⟩ : ∃ L, lbL P (B.take (j + 1)) = L := ⟨_, rfl⟩
                obtain ⟨M, hM⟩ : ∃ M, lbM P (B.take (j + 1)) = M := ⟨_, rfl⟩
                rw [hL] at hc e1
                rw [hM] at hc e2
                obtain ⟨ok, hok⟩ : ∃ ok, bOk P c h s L M = ok := ⟨_, rfl⟩
                rw [hok] at hc
                have HC := Lib.hid hc
                have HLM := Lib.hid (And.intro e1.symm e2.symm)
                have HOK := Lib.hid hok
                clear hc e1 e2 e3 hbb hL hM hok hz hown2 hcap HH HN HNO hCR
                go_upto_region 23 with fail
                go_cut [12, 13] (fun s13 o13 wx => ∃ gb A' k' D' l', s13 = .pointer (some ⟨gb, 0, none⟩) ∧ o13 = .bool ok ∧ BoxAt wb wx gb A' k' D' l' L M)
                case first =>
                  go_region_held3 (fun w' => w'.cell? ⟨w.heap.size, 0, none⟩ = some (.int .i64 (P : Int)) ∧ w'.cell? ⟨w.heap.size, 1, none⟩ = some (.int .i64 c) ∧ w'.cell? ⟨w.heap.size, 2, none⟩ = some (.int .i64 h) ∧ w'.cell? ⟨w.heap.size, 3, none⟩ = some (.int .i64 s) ∧ Past (wb) w') ((go_split_ands; refine keep_of (a := wb) (S := fun w' => w'.cell? ⟨w.heap.size, 0, none⟩ = some (.int .i64 (P : Int)) ∧ w'.cell? ⟨w.heap.size, 1, none⟩ = some (.int .i64 c) ∧ w'.cell? ⟨w.heap.size, 2, none⟩ = some (.int .i64 h) ∧ w'.cell? ⟨w.heap.size, 3, none⟩ = some (.int .i64 s) ∧ Past (wb) w') (by repeat (first | exact Past.refl _ | assumption | refine Past.alloc ?_ _ | refine Past.drew ?_ | refine Past.drewN ?_ _ | refine Past.setCell ?_ (by first | (simp; done) | (simp <;> omega)) _ | refine Past.trans ?_ (past_over _ _) | refine Past.trans ?_ (by assumption))) (fun x hP => ⟨hP.keep (by assumption), hP.keep (by assumption), hP.keep (by assumption), hP.keep (by assumption), hP⟩))) (first | (go_at_call 71; (with_reducible refine (HC.out _ (hxL.past (by repeat (first | exact Past.refl _ | assumption | refine Past.alloc ?_ _ | refine Past.drew ?_ | refine Past.drewN ?_ _ | refine Past.setCell ?_ (by first | (simp; done) | (simp <;> omega)) _ | refine Past.trans ?_ (past_over _ _) | refine Past.trans ?_ (by assumption))))).mono ?_); rintro e w6 ⟨A6, k6, D6, l6, rfl, hor, hb6⟩; (try (have nb := NewBox.past (by first | assumption | exact newBox_alloc _ _ | exact (newBox_alloc _ _).drew) hb6; have nb1 := nb; obtain ⟨nc0, nc1, nf0, nf1⟩ := nb1)); have hs := Past.sz hb6; (try simp only [size_drew] at hs); (try simp only [World.size_alloc] at hs)))
                  all_goals
                    go_split_ands
                    go_wp2_with fail
                    go_meet
                    first
                    | exact ⟨_, _, _, _, _, rfl, rfl, box_alloc _ hor (by first | omega | (simp <;> omega)) (by repeat (first | exact Past.refl _ | assumption | refine Past.alloc ?_ _ | refine Past.drew ?_ | refine Past.drewN ?_ _ | refine Past.setCell ?_ (by first | (simp; done) | (simp <;> omega)) _ | refine Past.trans ?_ (past_over _ _) | refine Past.trans ?_ (by assumption)))⟩
                    | exact ⟨_, _, _, _, _, rfl, rfl, box_set nb hor (by first | omega | (simp <;> omega)) (by first | omega | (simp <;> omega)) (by first | omega | (simp <;> omega)) (by repeat (first | exact Past.refl _ | assumption | refine Past.alloc ?_ _ | refine Past.drew ?_ | refine Past.drewN ?_ _ | refine Past.setCell ?_ (by first | (simp; done) | (simp <;> omega)) _ | refine Past.trans ?_ (past_over _ _) | refine Past.trans ?_ (by assumption)))⟩
                case rest =>
                  obtain ⟨gb, A6, k6, D6, l6, rfl, rfl, hBx⟩ := hcut
                  obtain ⟨b0, b1', bg, hval, _, _, hb6⟩ := hBx
                  have bl := World.block_lt_of_cell? wc _ b0
                  simp only at bl
                  have hRk := hRr.past hb6
                  have hp03 := hp02.trans hb6
                  cases ok
                  · have U := Lib.hid (rd_4 (p := (P : Int)) (tb := tb) hv.out h14 HGT.out (fun L' M' ⟨j', hj', f1, f2, hb', _⟩ => by
                      rw [Int.toNat_natCast, HB.out] at hj' f1 f2
                      obtain rfl := hitZ_one_only HJ.out hj'
                      rw [← f1, ← f2, HLM.out.1, HLM.out.2, HOK.out] at hb'
                      cases hb'))
                    have r0 := hRk.cell 0 rfl
                    have r1 := hRk.cell 1 rfl
                    have r2 := hRk.free 0
                    have r3 := hRk.free 1
                    have hpp := Lib.hid (put2 (a := 0) (b := 1) (g := w.heap.size + 1) (u := .slice none 0 0) (v := .slice none 0 0) hp03 (by omega))
                    clear hval
                    go_wp2
                    refine bodyPost_ret (v := .tuple #[.agg #[.slice none 0 0, .slice none 0 0], .int .i64 4]) (by simp [*, results, Try.results39, go_sem]) rfl (RdCode.nil U.out hpp.out)
                  · obtain ⟨l1, l2, l3, y1, y2⟩ := bits_bd HOK.out
                    have l4 : 0 < L.length := by have F := bFacts HOK.out; omega
                    have hlen : (bitsRow (L ++ M)).length ≤ 1000 := by
                      have h1 := bitsRow_len y1
                      have h2 := bitsRow_len y2
                      rw [bitsRow_app, List.length_append]
                      omega
                    obtain ⟨g1, cap1, ev1, _, _⟩ := World.ownsRow.form hval.1 l4
                    obtain ⟨g2, cap2, ev2, _, _⟩ := World.ownsRow.form hval.2.1 l3
                    simp only [Value.slice.injEq, true_and] at ev1 ev2
                    obtain ⟨rfl, rfl⟩ := ev1
                    obtain ⟨rfl, rfl⟩ := ev2
                    have rd1 := hval.1.rd
                    have rd2 := hval.2.1.rd
                    go_wp2_with fail
                    (with_reducible refine (l03Bits_any _ _ _ _ _ _ _ _ _ _ _ rd1 rd2 l1 l2 l3 y1 y2).mono ?_)
                    rintro e w3 ⟨A7, k7, rfl, hown7, hb7⟩
                    have hRn := hRk.past hb7
                    have hv4 := hval.past hb7
                    have hp05 := hp03.trans hb7
                    have u0 := hb7.keep b0
                    have u1 := hb7.keep b1'
                    have rd7 := hown7.rd
                    go_wp2_with fail
                    (with_reducible refine (l03Id_any _ _ _ _ _ rd7 hlen).mono ?_)
                    rintro e w9 ⟨rfl, rfl⟩
                    have r0 := hRn.cell 0 rfl
                    have r1 := hRn.cell 1 rfl
                    have r2 := hRn.free 0
                    have r3 := hRn.free 1
                    by_cases hE : idOf (bitsRow (L ++ M)) = tb
                    · have U := Lib.hid (rd_0 (p := (P : Int)) (tb := tb) (L := L) (M := M) hv.out h14 HGT.out ⟨j, by rw [Int.toNat_natCast, HB.out]; exact HJ.out, by rw [Int.toNat_natCast, HB.out]; exact HLM.out.1, by rw [Int.toNat_natCast, HB.out]; exact HLM.out.2, HOK.out, hE⟩)
                      have hv8 := Lib.hid ((hv4.far (g := w.heap.size + 1) (by omega) (.slice (some ⟨g1, 0, none⟩) L.length k6) (.slice (some ⟨g2, 0, none⟩) M.length l6)).less (V := w) (by omega))
                      have hp8 := Lib.hid (put2 (a := 0) (b := 1) (g := w.heap.size + 1) (u := .slice (some ⟨g1, 0, none⟩) L.length k6) (v := .slice (some ⟨g2, 0, none⟩) M.length l6) hp05 (by omega))
                      rw [hE]
                      clear hval hv4 hE hown7
                      go_wp2
                      refine bodyPost_ret (v := .tuple #[.agg #[.slice (some ⟨g1, 0, none⟩) L.length k6, .slice (some ⟨g2, 0, none⟩) M.length l6], .int .i64 0]) (by simp [*, results, Try.results39, go_sem]) rfl (RdCode.at_ U.out rfl rfl hv8.out hp8.out)
                    · have U := Lib.hid (rd_4 (p := (P : Int)) (tb := tb) hv.out h14 HGT.out (fun L' M' ⟨j', hj', f1, f2, _, f3⟩ => by
                        rw [Int.toNat_natCast, HB.out] at hj' f1 f2
                        obtain rfl := hitZ_one_only HJ.out hj'
                        rw [HLM.out.1] at f1
                        rw [HLM.out.2] at f2
                        subst f1 f2
                        exact hE f3))
                      have hpp := Lib.hid (put2 (a := 0) (b := 1) (g := w.heap.size + 1) (u := .slice none 0 0) (v := .slice none 0 0) hp05 (by omega))
                      have hbb := toList_ne hE
                      clear hval hv4 hE hown7
                      generalize idOf (bitsRow (L ++ M)) = S at hbb ⊢
                      go_wp2
                      refine bodyPost_ret (v := .tuple #[.agg #[.slice none 0 0, .slice none 0 0], .int .i64 4]) (by simp [*, results, Try.results39, go_sem]) rfl (RdCode.nil U.out hpp.out)
              · have hz3 : ¬ (C.length : Int) + 1 = 2 * (P : Int) + 2 := by omega
                have HHN := Lib.hid (fun h => hz (HH.out.1 h))
                clear hz HH hCR
                go_wp2
                go_round
                case rel => exact ⟨j + 1, by omega, by go_num, by rw [HN.out]; go_num, Lib.hid (fun t ht => by
                  rcases Nat.lt_or_ge t j with h1 | h1
                  · exact HNO.out t h1
                  · obtain rfl : t = j := by omega
                    exact HHN.out)⟩
                case measure => simp [intOf]; omega
            · have HN := Lib.hid (show (spl B (j + 1)).1.length = C.length from by rw [spl_one hxj hCR])
              have HHN := Lib.hid (hitZ_one (Z := 2 * P + 2) hxj)
              have hz3 : ¬ (C.length : Int) = 2 * (P : Int) + 2 := by omega
              clear hxj hCR
              go_wp2
              go_round
              case rel => exact ⟨j + 1, by omega, by go_num, by rw [HN.out], Lib.hid (fun t ht => by
                rcases Nat.lt_or_ge t j with h1 | h1
                · exact HNO.out t h1
                · obtain rfl : t = j := by omega
                  exact HHN.out)⟩
              case measure => simp [intOf]; omega
          · have U := Lib.hid (rd_4 (p := (P : Int)) (tb := tb) hv.out h14 HGT.out (fun L' M' ⟨j', hj', _⟩ => by
              rw [Int.toNat_natCast, HB.out] at hj'
              exact HNO.out j' (by have := hj'.1; omega) hj'))
            have r0 := hRr.cell 0 rfl
            have r1 := hRr.cell 1 rfl
            have r2 := hRr.free 0
            have r3 := hRr.free 1
            have hpp := Lib.hid (put2 (a := 0) (b := 1) (g := w.heap.size + 1) (u := .slice none 0 0) (v := .slice none 0 0) hp02 (by omega))
            have hlt2 : ¬ (j : Int) < (B.length : Int) := by omega
            go_wp2
            refine bodyPost_ret (v := .tuple #[.agg #[.slice none 0 0, .slice none 0 0], .int .i64 4]) (by simp [*, results, Try.results39, go_sem]) rfl (RdCode.nil U.out hpp.out)
  · have U := Lib.hid (rd_3 hv.out h14)
    have h14' : ¬ (tb.size : Int) ≤ 14 := by omega
    have r0 := hR1.cell 0 rfl
    have r1 := hR1.cell 1 rfl
    have r2 := hR1.free 0
    have r3 := hR1.free 1
    have hpp := Lib.hid (put2 (a := 0) (b := 1) (g := w.heap.size + 1) (u := .slice none 0 0) (v := .slice none 0 0) (hp01) (by omega))
    go_wp2
    refine bodyPost_ret (v := .tuple #[.agg #[.slice none 0 0, .slice none 0 0], .int .i64 3]) (by simp [*, results, Try.results39, go_sem]) rfl (RdCode.nil U.out hpp.out)
theorem readId_any (p c h s : Int) (tb : ByteArray) (w : World) (hsz : tb.size ≤ 1048576) :
    Calls Try.prog 40 #[.agg #[.int .i64 p, .int .i64 c, .int .i64 h, .int .i64 s], .string tb] w (BoardCode w (rdL p c h s tb) (rdM p c h s tb) (rdC p c h s tb)) := by
  cases hv : vOk p c h s
  · exact readId_v p c h s tb w hv
  · obtain ⟨_, _, _, _⟩ := vOk_yes hv
    obtain ⟨P, rfl⟩ := Int.eq_ofNat_of_zero_le (show 0 ≤ p from by omega)
    exact readId_yes P c h s tb w (Lib.hid hv) (by omega) hsz
theorem sReadId_any (p c h s : Int) (tb : ByteArray) (w : World) (hsz : tb.size ≤ 1048576) :
    Calls Try.prog 39 #[.agg #[.int .i64 p, .int .i64 c, .int .i64 h, .int .i64 s], .string tb] w (BoardCode w (rdL p c h s tb) (rdM p c h s tb) (rdC p c h s tb)) := by
  cases hv : vOk p c h s
  · exact sReadId_v p c h s tb w hv
  · obtain ⟨_, _, _, _⟩ := vOk_yes hv
    obtain ⟨P, rfl⟩ := Int.eq_ofNat_of_zero_le (show 0 ≤ p from by omega)
    exact sReadId_yes P c h s tb w (Lib.hid hv) (by omega) hsz
end Go.Proofs.Ytmpfjnjlocfhdaa
