/-
  Contracts: the variant read of a text, by the reference; the walk of the law.
-/
import Derived.Test.YtdcdjocjlicplaaDoorReadW
import Derived.Test.YtdcdjocjlicplaaDoorValS
namespace Go.Proofs.YtdcdjocjlicplaaDoor
open Go.ChangeShapes Go.WideShapes Go.ChangeAt Go.RowKit Go.Joins

def wn (x : ByteArray) : Int := lv0 x.data.toList
theorem refV_len {s : ByteArray} (h : (cutB 47 s).length ≠ 4) : refV s.data.toList = none := by
  unfold refV
  split
  · rename_i a b c d he
    rw [← cutB_data] at he
    have := congrArg List.length he
    rw [List.length_map] at this
    exact absurd this h
  · rfl
theorem refV_at {s A B C D : ByteArray} (h : cutB 47 s = [A, B, C, D]) : refV s.data.toList = if vText (wn A) (wn B) (wn C) (wn D) = s.data.toList then some (wn A, wn B, wn C, wn D) else none := by
  unfold refV
  rw [← cutB_data, h]
  rfl
theorem vtB_eq {p c h s : Int} {t : ByteArray} : vtB p c h s = t ↔ vText p c h s = t.data.toList := by
  constructor
  · rintro rfl; rfl
  · intro e; apply ByteArray.ext; apply Array.toList_inj.1; rw [← e]; rfl
theorem four_words {L : List ByteArray} (h : L.length = 4) : ∃ A B C D, L = [A, B, C, D] := by
  match L, h with
  | [a, b, c, d], _ => exact ⟨a, b, c, d, rfl⟩
theorem sReadV_len (s : ByteArray) (w : World) (hs : s.size ≤ 1048576) (h : (cutB 47 s).length ≠ 4) :
    Calls Tryd.prog 22 #[.string s] w (ValRet w (v4 none) false) := by
  have hsp := fun w => l01Split_47 s w hs
  have hK2 : ¬ (((cutB 47 s).length : Int) = 4) := by omega
  have hK3 : (((cutB 47 s).length : Int) != 4) = true := by rw [bne_iff_ne]; exact hK2
  generalize cutB 47 s = L at hsp hK2 hK3
  have HS := Lib.hid hsp
  clear hsp h
  go_enter Tryd.func22, Tryd.ntmps22
  go_wp2_with (go_at_call 47; (with_reducible refine (HS.out _).mono ?_); rintro e w1 ⟨g, k, rfl, hrd, hb1⟩; obtain ⟨hc1, hf1, _⟩ := hb1.cells; have hz1_0 : w.heap.size < w1.heap.size := Past.lt hb1 (by first | omega | (simp <;> omega)))
  refine bodyPost_ret (v := .tuple #[.agg #[.int .i64 0, .int .i64 0, .int .i64 0, .int .i64 0], .bool false]) (by simp [*, results, Tryd.results22, go_sem]) rfl ⟨rfl, (by repeat (first | exact Past.refl _ | assumption | refine Past.alloc ?_ _ | refine Past.drew ?_ | refine Past.drewN ?_ _ | refine Past.setCell ?_ (by first | (simp; done) | (simp <;> omega)) _ | refine Past.trans ?_ (past_over _ _) | refine Past.trans ?_ (by assumption)))⟩
def upTo (K : List Int) (j : Nat) : List Int := K.take j
theorem upTo_next {K : List Int} {j : Nat} {x : Int} (h : K[j]? = some x) : upTo K (j + 1) = upTo K j ++ [x] := by rw [upTo, List.take_add_one, h]; rfl
theorem l01Value_wn (x : ByteArray) (w : World) : Calls Tryd.prog 48 #[.string x] w fun e w' => ∃ b, e = .returned (.tuple #[.int .i64 (wn x), .bool b]) ∧ Past w w' :=
  (l01Value_any x w).mono fun _ _ ⟨he, hp⟩ => ⟨_, he, hp⟩
set_option maxHeartbeats 4000000 in
set_option maxRecDepth 100000 in
theorem sReadV_four (st : ByteArray) (w : World) (hs : st.size ≤ 1048576) (WA WB WC WD : ByteArray) (h : cutB 47 st = [WA, WB, WC, WD]) :
    Calls Tryd.prog 22 #[.string st] w (ValRet w (v4 (refV st.data.toList)) (refV st.data.toList).isSome) := by
  obtain ⟨i0, hi, hz0, hz1, hz2⟩ := info_parts infoI
  have href := refV_at h
  generalize refV st.data.toList = R at href ⊢
  have hsp := fun w => l01Split_47 st w hs
  rw [h] at hsp
  obtain ⟨L, hL⟩ : ∃ L, L = [WA, WB, WC, WD] := ⟨_, rfl⟩
  have hL4 : L.length = 4 := by rw [hL]; rfl
  rw [← hL] at hsp
  obtain ⟨K, hK⟩ : ∃ K, K = [wn WA, wn WB, wn WC, wn WD] := ⟨_, rfl⟩
  have hKL : K = L.map wn := by rw [hL, hK]; rfl
  have hK4 : K.length = 4 := by rw [hK]; rfl
  have HL := Lib.hid hL4
  have HKL := Lib.hid hKL
  have HK := Lib.hid hK
  have HR := Lib.hid href
  have HS := Lib.hid hsp
  have hL4z : (L.length : Int) = 4 := by omega
  have hL4b : ((L.length : Int) != 4) = false := by rw [bne_eq_false_iff_eq]; exact hL4z
  clear hsp h hL hKL hK hL4 href hK4
  go_enter Tryd.func22, Tryd.ntmps22
  go_wp2_with (go_at_call 47; (with_reducible refine (HS.out _).mono ?_); rintro e w1 ⟨bb, kk, rfl, hrd, hb1⟩; obtain ⟨hc1, hf1, _⟩ := hb1.cells; have hz1_0 : w.heap.size < w1.heap.size := Past.lt hb1 (by first | omega | (simp <;> omega)))
  have hp1 : Past w w1 := (by repeat (first | exact Past.refl _ | assumption | refine Past.alloc ?_ _ | refine Past.drew ?_ | refine Past.drewN ?_ _ | refine Past.setCell ?_ (by first | (simp; done) | (simp <;> omega)) _ | refine Past.trans ?_ (past_over _ _) | refine Past.trans ?_ (by assumption)))
  have e0 : w1.cell? ⟨w.heap.size, 0, none⟩ = some (.int .i64 0) := hb1.keep (by simp)
  have e1 : w1.cell? ⟨w.heap.size, 1, none⟩ = some (.int .i64 0) := hb1.keep (by simp)
  have e2 : w1.cell? ⟨w.heap.size, 2, none⟩ = some (.int .i64 0) := hb1.keep (by simp)
  have e3 : w1.cell? ⟨w.heap.size, 3, none⟩ = some (.int .i64 0) := hb1.keep (by simp)
  have fr0 : w1.frozen? ⟨w.heap.size, 0, none⟩ = false := hb1.keepz ⟨.int .i64 0, by simp⟩ (by simp)
  have fr1 : w1.frozen? ⟨w.heap.size, 1, none⟩ = false := hb1.keepz ⟨.int .i64 0, by simp⟩ (by simp)
  have fr2 : w1.frozen? ⟨w.heap.size, 2, none⟩ = false := hb1.keepz ⟨.int .i64 0, by simp⟩ (by simp)
  have fr3 : w1.frozen? ⟨w.heap.size, 3, none⟩ = false := hb1.keepz ⟨.int .i64 0, by simp⟩ (by simp)
  have hz1' : w.heap.size < w1.heap.size := Past.lt hb1 (by first | omega | (simp <;> omega))
  go_loopw [5, 6] (fun v i wr => ∃ (j : Nat), j ≤ 4 ∧ i = .int .i64 (j : Int) ∧ ZsIn w1 wr v (upTo K j)) (fun _ i _ => 4 - (intOf i).toNat)
  case atStart => exact ⟨0, Nat.zero_le _, rfl, ZsIn.empty w1 _ rfl⟩
  case round =>
    obtain ⟨j, hj, rfl, A', k', rfl, hown, hp⟩ := hrel
    by_cases hlt : j < 4
    · have hlt2 : (j : Int) < 4 := by omega
      have hltL : j < L.length := by have := HL.out; omega
      have hlt3 : (j : Int) < (L.length : Int) := by omega
      obtain ⟨b2, o2, x, hA, hxj, hcx⟩ := (hrd.past hp).at_ hltL
      simp only [Option.some.injEq, Addr.mk.injEq] at hA
      obtain ⟨rfl, rfl, _⟩ := hA
      rw [Nat.zero_add] at hcx
      have hKj : K[j]? = some (wn x) := by rw [HKL.out, List.getElem?_map, hxj]; rfl
      have HN := Lib.hid (upTo_next hKj)
      have hKl : (upTo K j).length ≤ 4 := by rw [upTo, List.length_take]; omega
      clear hxj hKj
      go_wp2_with (first | (go_at_call 48; (with_reducible refine (l01Value_wn _ _).mono ?_); rintro e w2 ⟨bx, rfl, hb2⟩; obtain ⟨hc2, hf2, _⟩ := hb2.cells) | (at_builtin; refine wpList_append_own _ rfl _ _ 64 rfl w1.heap.size 2 i0 (.int .i64 0) 1 8 Tryd.underlying64 hi hz0 hz1 hz2 rfl (by decide) _ (upTo K j).length ((upTo K j).map (Value.int .i64)) rfl ((hown.past hb2).alloc _) ⟨w2.heap.size, 0, none⟩ 1 1 [.int .i64 (wn x)] rfl rfl (cell_one_new _ _ _) (by intro u hu; simp at hu; subst hu; rfl) (by unfold maxLen; omega) (by omega) (Nat.le_trans (hp.trans hb2).size (by simp)) ?_; intro v2 w5 hown5 hg5 hiff))
      go_roundw
      case rel => exact ⟨j + 1, by omega, by go_num, by rw [HN.out]; exact ZsIn.push ((hown.past hb2).alloc _) ((hp.trans hb2).alloc _) hown5 hg5 (fun h => absurd (hiff.1 h).2 (by decide))⟩
      case measure => simp [intOf]; omega
    · obtain rfl : j = 4 := by omega
      obtain rfl := HK.out
      have hl4 : upTo [wn WA, wn WB, wn WC, wn WD] 4 = [wn WA, wn WB, wn WC, wn WD] := rfl
      have hlen : (upTo [wn WA, wn WB, wn WC, wn WD] 4).length = 4 := rfl
      rw [hlen] at hown ⊢
      rw [hl4] at hown
      clear hlen
      clear HK HKL HS hl4
      obtain ⟨ga, rfl⟩ : ∃ ga, A' = some ⟨ga, 0, none⟩ := by
        rcases hown.2 with ⟨h0, _⟩ | ⟨g, cap, cur, hv, _⟩
        · simp at h0
        · simp only [Value.slice.injEq] at hv
          exact ⟨g, hv.1⟩
      generalize wn WA = p at *
      generalize wn WB = c at *
      generalize wn WC = q at *
      generalize wn WD = s at *
      have c0 : wr.cell? ⟨ga, 0, none⟩ = some (.int .i64 p) := by simpa [gAt] using hown.cell_i 0 (J := 0) rfl (by simp)
      have c1 : wr.cell? ⟨ga, 1, none⟩ = some (.int .i64 c) := by simpa [gAt] using hown.cell_i 1 (J := 1) rfl (by simp)
      have c2 : wr.cell? ⟨ga, 2, none⟩ = some (.int .i64 q) := by simpa [gAt] using hown.cell_i 2 (J := 2) rfl (by simp)
      have c3 : wr.cell? ⟨ga, 3, none⟩ = some (.int .i64 s) := by simpa [gAt] using hown.cell_i 3 (J := 3) rfl (by simp)
      have hlt := World.block_lt_of_cell? wr _ c0
      simp only at hlt
      clear hown
      go_upto_region 10 with fail
      go_cut [9] (fun s9 wx => ∃ g, s9 = .pointer (some ⟨g, 0, none⟩) ∧ wx.cell? ⟨g, 0, none⟩ = some (.int .i64 p) ∧ wx.cell? ⟨g, 1, none⟩ = some (.int .i64 c) ∧ wx.cell? ⟨g, 2, none⟩ = some (.int .i64 q) ∧ wx.cell? ⟨g, 3, none⟩ = some (.int .i64 s) ∧ Past wr wx)
      case first =>
        go_region_held3 (fun w' => w'.cell? ⟨ga, 0, none⟩ = some (.int .i64 p) ∧ w'.cell? ⟨ga, 1, none⟩ = some (.int .i64 c) ∧ w'.cell? ⟨ga, 2, none⟩ = some (.int .i64 q) ∧ w'.cell? ⟨ga, 3, none⟩ = some (.int .i64 s) ∧ Past (wr) w') ((go_split_ands; refine keep_of (a := wr) (S := fun w' => w'.cell? ⟨ga, 0, none⟩ = some (.int .i64 p) ∧ w'.cell? ⟨ga, 1, none⟩ = some (.int .i64 c) ∧ w'.cell? ⟨ga, 2, none⟩ = some (.int .i64 q) ∧ w'.cell? ⟨ga, 3, none⟩ = some (.int .i64 s) ∧ Past (wr) w') (by repeat (first | exact Past.refl _ | assumption | refine Past.alloc ?_ _ | refine Past.drew ?_ | refine Past.drewN ?_ _ | refine Past.setCell ?_ (by first | (simp; done) | (simp <;> omega)) _ | refine Past.trans ?_ (past_over _ _) | refine Past.trans ?_ (by assumption))) (fun x hP => ⟨hP.keep (by assumption), hP.keep (by assumption), hP.keep (by assumption), hP.keep (by assumption), hP⟩))) (fail)
        all_goals (go_split_ands; go_wp2_with fail; go_meet; exact ⟨_, rfl, by simp, by simp, by simp, by simp, (by repeat (first | exact Past.refl _ | assumption | refine Past.alloc ?_ _ | refine Past.drew ?_ | refine Past.drewN ?_ _ | refine Past.setCell ?_ (by first | (simp; done) | (simp <;> omega)) _ | refine Past.trans ?_ (past_over _ _) | refine Past.trans ?_ (by assumption)))⟩)
      case rest =>
        obtain ⟨g, rfl, d0, d1, d2, d3, hp2⟩ := hcut
        have hz2 : w.heap.size < wc.heap.size := Past.lt hp2 (Past.lt hp hz1')
        obtain ⟨hc2, hf2, _⟩ := hp2.cells
        have hgl := World.block_lt_of_cell? wc _ d0
        simp only at hgl
        replace fr0 := hp2.keepz ⟨_, hp.keep e0⟩ (hp.keepz ⟨_, e0⟩ fr0)
        replace fr1 := hp2.keepz ⟨_, hp.keep e1⟩ (hp.keepz ⟨_, e1⟩ fr1)
        replace fr2 := hp2.keepz ⟨_, hp.keep e2⟩ (hp.keepz ⟨_, e2⟩ fr2)
        replace fr3 := hp2.keepz ⟨_, hp.keep e3⟩ (hp.keepz ⟨_, e3⟩ fr3)
        replace e0 := hp2.keep (hp.keep e0)
        replace e1 := hp2.keep (hp.keep e1)
        replace e2 := hp2.keep (hp.keep e2)
        replace e3 := hp2.keep (hp.keep e3)
        clear c0 c1 c2 c3
        obtain ⟨T, hT⟩ : ∃ T, T = vtB p c q s := ⟨_, rfl⟩
        have hvt := fun w => sVariantText_any p c q s w
        rw [← hT] at hvt
        have HV := Lib.hid hvt
        by_cases hc : T = st
        · obtain rfl : R = some (p, c, q, s) := by rw [HR.out, if_pos (vtB_eq.1 (hT.symm.trans hc))]
          have hb2 : (T.toList == st.toList) = true := by rw [hc]; exact beq_self_eq_true _
          clear hT hvt HR hc
          go_wp2_with (go_at_call 11; (with_reducible refine (HV.out _).mono ?_); rintro e w3 ⟨rfl, hb3⟩; obtain ⟨hc3, hf3, _⟩ := hb3.cells; have hz3_0 : w.heap.size < w3.heap.size := Past.lt hb3 (by first | omega | (simp <;> omega)))
          refine bodyPost_ret (v := .tuple #[.agg #[.int .i64 p, .int .i64 c, .int .i64 q, .int .i64 s], .bool true]) (by simp [*, results, Tryd.results22, go_sem]) rfl ⟨rfl, (by repeat (first | exact Past.refl _ | assumption | refine Past.alloc ?_ _ | refine Past.drew ?_ | refine Past.drewN ?_ _ | refine Past.setCell ?_ (by first | (simp; done) | (simp <;> omega)) _ | refine Past.trans ?_ (past_over _ _) | refine Past.trans ?_ (by assumption)))⟩
        · obtain rfl : R = none := by rw [HR.out, if_neg (fun h => hc (hT.trans (vtB_eq.2 h)))]
          have hb2 : (T.toList == st.toList) = false := strNe hc
          clear hT hvt HR hc
          go_wp2_with (go_at_call 11; (with_reducible refine (HV.out _).mono ?_); rintro e w3 ⟨rfl, hb3⟩; obtain ⟨hc3, hf3, _⟩ := hb3.cells; have hz3_0 : w.heap.size < w3.heap.size := Past.lt hb3 (by first | omega | (simp <;> omega)))
          refine bodyPost_ret (v := .tuple #[.agg #[.int .i64 0, .int .i64 0, .int .i64 0, .int .i64 0], .bool false]) (by simp [*, results, Tryd.results22, go_sem]) rfl ⟨rfl, (by repeat (first | exact Past.refl _ | assumption | refine Past.alloc ?_ _ | refine Past.drew ?_ | refine Past.drewN ?_ _ | refine Past.setCell ?_ (by first | (simp; done) | (simp <;> omega)) _ | refine Past.trans ?_ (past_over _ _) | refine Past.trans ?_ (by assumption)))⟩
theorem sReadVariant_any (st : ByteArray) (w : World) (hs : st.size ≤ 1048576) :
    Calls Tryd.prog 22 #[.string st] w (ValRet w (v4 (rdV st.data.toList)) (rdV st.data.toList).isSome) := by
  rw [← refV_eq]
  by_cases h : (cutB 47 st).length = 4
  · obtain ⟨A, B, C, D, e⟩ := four_words h
    exact sReadV_four st w hs A B C D e
  · rw [refV_len h]
    exact sReadV_len st w hs h
set_option maxHeartbeats 2000000 in
set_option maxRecDepth 100000 in
theorem FnExactReadVariant.walk (st : ByteArray) (ht : st.size ≤ maxLen) (w : World) (hg : Glob w) :
    Calls Tryd.prog 6 #[.string st] w fun e w' => e = .returned (.bool true) ∧ Past w w' := by
  unfold maxLen at ht
  by_cases hbig : 1048576 < st.size
  · have hb : (1048576 : Int) < (st.size : Int) := by omega
    clear hbig
    go_enter Tryd.func6, Tryd.ntmps6
    go_wp2
    go_ret
    exact ⟨rfl, (by repeat (first | exact Past.refl _ | assumption | refine Past.alloc ?_ _ | refine Past.drew ?_ | refine Past.drewN ?_ _ | refine Past.setCell ?_ (by first | (simp; done) | (simp <;> omega)) _ | refine Past.trans ?_ (past_over _ _) | refine Past.trans ?_ (by assumption)))⟩
  · have hb : ¬ (1048576 : Int) < (st.size : Int) := by omega
    have ht2 : st.size ≤ 1048576 := by omega
    clear hbig
    have h1 := fun w => sReadVariant_any st w ht2
    have h2 := fun w h => readVariant_any st w h ht2
    unfold ValRet v4 at h1 h2
    generalize ((rdV st.data.toList).getD (0, 0, 0, 0)).1 = p at h1 h2
    generalize ((rdV st.data.toList).getD (0, 0, 0, 0)).2.1 = c at h1 h2
    generalize ((rdV st.data.toList).getD (0, 0, 0, 0)).2.2.1 = q at h1 h2
    generalize ((rdV st.data.toList).getD (0, 0, 0, 0)).2.2.2 = s at h1 h2
    generalize (rdV st.data.toList).isSome = x at h1 h2
    have H1 := Lib.hid h1
    have H2 := Lib.hid h2
    clear h1 h2
    go_enter Tryd.func6, Tryd.ntmps6
    go_wp2_with (first | (go_at_call 22; (with_reducible refine (H1.out _).mono ?_); rintro e w1 ⟨rfl, hb1⟩; obtain ⟨hc1, hf1, _⟩ := hb1.cells) | (go_at_call 23; (with_reducible refine (H2.out _ (hg.past (by repeat (first | exact Past.refl _ | assumption | refine Past.alloc ?_ _ | refine Past.drew ?_ | refine Past.drewN ?_ _ | refine Past.setCell ?_ (by first | (simp; done) | (simp <;> omega)) _ | refine Past.trans ?_ (past_over _ _) | refine Past.trans ?_ (by assumption))))).mono ?_); rintro e w2 ⟨rfl, hb2⟩; obtain ⟨hc2, hf2, _⟩ := hb2.cells; have hz2_0 : w1.heap.size < w2.heap.size := Past.lt hb2 (by first | omega | (simp <;> omega))) | (go_at_call 24; (with_reducible refine (eqVar_same _ _ _ _ _).mono ?_); rintro e w3 ⟨rfl, hb3⟩; obtain ⟨hc3, hf3, _⟩ := hb3.cells))
    go_ret
    exact ⟨rfl, (by repeat (first | exact Past.refl _ | assumption | refine Past.alloc ?_ _ | refine Past.drew ?_ | refine Past.drewN ?_ _ | refine Past.setCell ?_ (by first | (simp; done) | (simp <;> omega)) _ | refine Past.trans ?_ (past_over _ _) | refine Past.trans ?_ (by assumption)))⟩
end Go.Proofs.YtdcdjocjlicplaaDoor
