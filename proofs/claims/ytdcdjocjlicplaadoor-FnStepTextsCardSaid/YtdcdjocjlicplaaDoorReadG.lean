/-
  Contracts: the step read of a text, by the reference.
-/
import Derived.Test.YtdcdjocjlicplaaDoorReadS
import Derived.Test.YtdcdjocjlicplaaDoorReadX
namespace Go.Proofs.YtdcdjocjlicplaaDoor
open Go.ChangeShapes Go.WideShapes Go.ChangeAt Go.RowKit Go.Joins

theorem lvGo_bd : ∀ (l : List UInt8) (n m : Int) (k : Nat), 0 ≤ n → n < 10 ^ k → lvGo n l = some m → 0 ≤ m ∧ m < 10 ^ (k + l.length)
  | [], n, m, k, h0, h1, h => by
    simp only [lvGo, Option.some.injEq] at h
    subst h
    exact ⟨h0, h1⟩
  | c :: r, n, m, k, h0, h1, h => by
    rw [lvGo] at h
    split at h
    · cases h
    · rename_i hc
      obtain ⟨p0, p1⟩ := pow_step (d := (c.toNat : Int) - 48) h0 h1 (by omega) (by omega)
      have := lvGo_bd r _ m (k + 1) p0 p1 h
      rw [List.length_cons, show k + (r.length + 1) = k + 1 + r.length from by omega]
      exact this
theorem wn_bd (x : ByteArray) : 0 ≤ wn x ∧ wn x < 1000000000000000 := by
  unfold wn lv0
  cases h : lv x.data.toList with
  | none => simp
  | some m =>
    unfold lv at h
    split at h
    · cases h
    · rename_i hc
      have h2 := lvGo_bd _ 0 m 0 (by omega) (by decide) h
      rw [Nat.zero_add] at h2
      exact ⟨h2.1, pow_cap h2.2 (by omega)⟩
def offB (B : ByteArray) : Bool := decide (3 ≤ B.size) && decide (B.data.toList.take 3 = [111, 102, 102])
def starB (B : ByteArray) : Bool := decide (0 < B.size) && (byAt B (B.size - 1) == 42)
theorem len_size (B : ByteArray) : B.data.toList.length = B.size := Array.length_toList
theorem star_iff {B : ByteArray} : B.data.toList.getD (B.data.toList.length - 1) 0 = 42 ↔ byAt B (B.size - 1) = 42 := by
  rw [len_size, byAt]
  generalize B.data.toList.getD (B.size - 1) 0 = u
  constructor
  · rintro rfl; rfl
  · intro e; exact UInt8.toNat_inj.1 (by show u.toNat = 42; omega)
theorem toR_T {F : Int} {B : ByteArray} (h : offB B = true) : toR F B.data.toList = ⟨F, -1, if 5 < B.size then wn (B.extract 4 (B.size - 1)) else F + 1, false⟩ := by
  simp only [offB, Bool.and_eq_true, decide_eq_true_eq] at h
  unfold toR wn
  rw [len_size, if_pos h, ext_list]
theorem toR_not {F : Int} {B : ByteArray} (h : offB B = false) : toR F B.data.toList = if 0 < B.data.toList.length ∧ B.data.toList.getD (B.data.toList.length - 1) 0 = 42 then ⟨F, lv0 (B.data.toList.take (B.data.toList.length - 1)) - 1, F - (lv0 (B.data.toList.take (B.data.toList.length - 1)) - 1), true⟩
  else ⟨F, lv0 B.data.toList - 1, F - (lv0 B.data.toList - 1), false⟩ := by
  rw [toR, if_neg]
  rintro ⟨h1, h2⟩
  rw [len_size] at h1
  rw [offB, decide_eq_true h1, decide_eq_true h2] at h
  cases h
theorem toR_S {F : Int} {B : ByteArray} (h : offB B = false) (hs : starB B = true) : toR F B.data.toList = ⟨F, wn (B.extract 0 (B.size - 1)) - 1, F - (wn (B.extract 0 (B.size - 1)) - 1), true⟩ := by
  simp only [starB, Bool.and_eq_true, decide_eq_true_eq, beq_iff_eq] at hs
  rw [toR_not h, if_pos ⟨by rw [len_size]; exact hs.1, star_iff.2 hs.2⟩]
  unfold wn
  rw [ext_list, len_size, List.drop_zero]
theorem toR_N {F : Int} {B : ByteArray} (h : offB B = false) (hs : starB B = false) : toR F B.data.toList = ⟨F, wn B - 1, F - (wn B - 1), false⟩ := by
  rw [toR_not h, if_neg]
  · rfl
  · rintro ⟨h1, h2⟩
    rw [len_size] at h1
    have h3 := star_iff.1 h2
    rw [starB, decide_eq_true h1, h3] at hs
    cases hs
theorem rawR_len {p : Int} {s : ByteArray} (h : (cutB 47 s).length ≠ 2) : rawR p s.data.toList = ⟨0, 0, 0, false⟩ := by
  unfold rawR
  split
  · rename_i a b he
    rw [← cutB_data] at he
    have := congrArg List.length he
    rw [List.length_map] at this
    exact absurd this h
  · rfl
theorem rawR_at {p : Int} {s A B : ByteArray} (h : cutB 47 s = [A, B]) : rawR p s.data.toList = toR (fromR p A.data.toList) B.data.toList := by
  unfold rawR
  rw [← cutB_data, h]
  rfl
theorem two_words {L : List ByteArray} (h : L.length = 2) : ∃ A B, L = [A, B] := by
  match L, h with
  | [a, b], _ => exact ⟨a, b, rfl⟩
theorem StIn.out {w W : World} {g : Nat} {p c h s f t d : Int} {x : Bool} (H : StIn w W g p c h s f t d x) (u0 u1 u2 u3 : Value) :
    Past w ((((W.setCell ⟨w.heap.size + 1, 0, none⟩ u0).setCell ⟨w.heap.size + 1, 1, none⟩ u1).setCell ⟨w.heap.size + 1, 2, none⟩ u2).setCell ⟨w.heap.size + 1, 3, none⟩ u3) :=
  (((H.q.setCell (p := ⟨w.heap.size + 1, 0, none⟩) (Nat.le_succ _) u0).setCell (p := ⟨w.heap.size + 1, 1, none⟩) (Nat.le_succ _) u1).setCell (p := ⟨w.heap.size + 1, 2, none⟩) (Nat.le_succ _) u2).setCell (p := ⟨w.heap.size + 1, 3, none⟩) (Nat.le_succ _) u3
def GuessRet (w : World) (a : Stp) (e : Ending) (w' : World) : Prop := e = .returned (.agg #[.int .i64 a.f, .int .i64 a.t, .int .i64 a.d, .bool a.x]) ∧ Past w w'
set_option maxHeartbeats 2000000 in
set_option maxRecDepth 100000 in
theorem guess_len (p c h s : Int) (st : ByteArray) (w : World) (hz : st.size ≤ 1048576) (hL : (cutB 47 st).length ≠ 2) :
    Calls Tryd.prog 66 #[.agg #[.int .i64 p, .int .i64 c, .int .i64 h, .int .i64 s], .string st] w (GuessRet w ⟨0, 0, 0, false⟩) := by
  have hsp := fun w => l01Split_47 st w hz
  have hK2 : ¬ (((cutB 47 st).length : Int) = 2) := by omega
  have hK3 : (((cutB 47 st).length : Int) != 2) = true := by rw [bne_iff_ne]; exact hK2
  generalize cutB 47 st = L at hsp hK2 hK3
  have HS := Lib.hid hsp
  clear hsp hL
  obtain ⟨w0, hw0⟩ : ∃ w0 : World, w0 = ((w.alloc (.cells #[.int .i64 p, .int .i64 c, .int .i64 h, .int .i64 s] 25)).alloc (.cells #[.int .i64 0, .int .i64 0, .int .i64 0, .bool false] 31)).alloc (.cells #[.int .i64 p, .int .i64 0, .int .i64 0, .bool false] 31) := ⟨_, rfl⟩
  obtain ⟨g, hg1⟩ : ∃ g, g = w.heap.size + 1 + 1 := ⟨_, rfl⟩
  have H0 : StIn w w0 g p c h s p 0 0 false := by
    rw [hw0, hg1]
    exact ⟨((Blk.new w _ _).past ((Past.refl _).alloc _)).past ((Past.refl _).alloc _), (Blk.at_ (by simp)).past ((Past.refl _).alloc _), Blk.at_ (by simp), by omega, (by repeat (first | exact Past.refl _ | assumption | refine Past.alloc ?_ _ | refine Past.drew ?_ | refine Past.drewN ?_ _ | refine Past.setCell ?_ (by first | (simp; done) | (simp <;> omega)) _ | refine Past.trans ?_ (past_over _ _) | refine Past.trans ?_ (by assumption)))⟩
  go_enter Tryd.func66, Tryd.ntmps66
  go_upto_region 2 with fail
  rw [← hw0]
  (try rw [← hg1])
  clear hw0 hg1
  go_wp2_with fail
  (with_reducible refine (HS.out _).mono ?_)
  rintro e w1 ⟨bb, kk, rfl, hrd, hb1⟩
  have H1 := H0.past hb1
  clear H0 hb1 HS
  obtain ⟨⟨v0, v1, v2, v3⟩, ⟨r0, r1, r2, r3⟩, ⟨e0, e1, e2, e3⟩, ⟨a0, a1, a2, a3⟩, b0, b1, b2, b3⟩ := H1.cells
  have HZ := H1
  have hlz := H1.l
  clear H1
  go_wp2_with fail
  exact bodyPost_ret (v := .agg #[.int .i64 0, .int .i64 0, .int .i64 0, .bool false]) (by simp [r0, r1, r2, r3, results, Tryd.results66, go_sem]) rfl ⟨rfl, HZ.out _ _ _ _⟩
set_option maxHeartbeats 4000000 in
set_option maxRecDepth 100000 in
theorem guess_two (p c h s : Int) (st : ByteArray) (w : World) (hp0 : 0 ≤ p) (hp : p ≤ 24) (hz : st.size ≤ 1048576) (A B : ByteArray) (hL : cutB 47 st = [A, B]) :
    Calls Tryd.prog 66 #[.agg #[.int .i64 p, .int .i64 c, .int .i64 h, .int .i64 s], .string st] w (GuessRet w (toR (fromR p A.data.toList) B.data.toList)) := by
  have hsp := fun w => l01Split_47 st w hz
  have hBz : B.size ≤ st.size := cutB_size (b := 47) (by rw [hL]; simp)
  rw [hL] at hsp
  obtain ⟨F, hF⟩ : ∃ F, F = fromR p A.data.toList := ⟨_, rfl⟩
  have hFb : -1 ≤ F ∧ F < 1000000000000000 := by
    rw [hF, fromR]
    have := wn_bd A
    unfold wn at this
    split <;> omega
  obtain ⟨a, ha⟩ : ∃ a, a = toR F B.data.toList := ⟨_, rfl⟩
  rw [← hF, ← ha]
  have HS := Lib.hid hsp
  have HA := Lib.hid ha
  clear hsp hL ha
  obtain ⟨w0, hw0⟩ : ∃ w0 : World, w0 = ((w.alloc (.cells #[.int .i64 p, .int .i64 c, .int .i64 h, .int .i64 s] 25)).alloc (.cells #[.int .i64 0, .int .i64 0, .int .i64 0, .bool false] 31)).alloc (.cells #[.int .i64 p, .int .i64 0, .int .i64 0, .bool false] 31) := ⟨_, rfl⟩
  obtain ⟨g, hg1⟩ : ∃ g, g = w.heap.size + 1 + 1 := ⟨_, rfl⟩
  have H0 : StIn w w0 g p c h s p 0 0 false := by
    rw [hw0, hg1]
    exact ⟨((Blk.new w _ _).past ((Past.refl _).alloc _)).past ((Past.refl _).alloc _), (Blk.at_ (by simp)).past ((Past.refl _).alloc _), Blk.at_ (by simp), by omega, (by repeat (first | exact Past.refl _ | assumption | refine Past.alloc ?_ _ | refine Past.drew ?_ | refine Past.drewN ?_ _ | refine Past.setCell ?_ (by first | (simp; done) | (simp <;> omega)) _ | refine Past.trans ?_ (past_over _ _) | refine Past.trans ?_ (by assumption)))⟩
  go_enter Tryd.func66, Tryd.ntmps66
  go_upto_region 2 with fail
  rw [← hw0]
  (try rw [← hg1])
  clear hw0 hg1
  go_wp2_with fail
  (with_reducible refine (HS.out _).mono ?_)
  rintro e w1 ⟨bb, kk, rfl, hrd, hb1⟩
  have H1 := H0.past hb1
  clear H0 hb1 HS
  have cA : w1.cell? ⟨bb, 0, none⟩ = some (.string A) := by
    obtain ⟨b, o, e, hc⟩ := hrd.2 (by simp)
    simp only [Option.some.injEq, Addr.mk.injEq, and_true] at e
    obtain ⟨rfl, rfl⟩ := e
    simpa using hc 0 A rfl
  have cB : w1.cell? ⟨bb, 1, none⟩ = some (.string B) := by
    obtain ⟨b, o, e, hc⟩ := hrd.2 (by simp)
    simp only [Option.some.injEq, Addr.mk.injEq, and_true] at e
    obtain ⟨rfl, rfl⟩ := e
    simpa using hc 1 B rfl
  clear hrd
  go_upto_if 26 with fail
  go_cut [5] (fun s5 wx => s5 = .pointer (some ⟨g, 0, none⟩) ∧ wx.cell? ⟨bb, 1, none⟩ = some (.string B) ∧ StIn w wx g p c h s F 0 0 false)
  case first =>
    by_cases hbar : A.data.toList = [98, 97, 114]
    · have hb : (A.toList == [98, 97, 114]) = true := by rw [ByteArray.toList_eq, hbar]; rfl
      have HF : F = p := by rw [hF, fromR, if_pos hbar]
      clear hbar hF
      rw [hb]
      go_wp2_with fail
      go_meet
      case rel => exact ⟨rfl, cB, HF ▸ H1⟩
    · have hb : (A.toList == [98, 97, 114]) = false := by rw [ByteArray.toList_eq, beq_eq_false_iff_ne]; exact hbar
      have HF : F = wn A - 1 := by rw [hF, fromR, if_neg hbar]; rfl
      have W1 : IntKind.i64.wrap (wn A - 1) = wn A - 1 := IntWalk.i64_in _ (by omega)
      clear hbar hF
      rw [hb]
      go_wp2_with fail
      (with_reducible refine (l01Value_wn _ _).mono ?_)
      rintro e w2 ⟨bx, rfl, hb2⟩
      have H2 := H1.past hb2
      replace cB := hb2.keep cB
      clear hb2 H1 cA
      obtain ⟨⟨v0, v1, v2, v3⟩, ⟨r0, r1, r2, r3⟩, ⟨e0, e1, e2, e3⟩, ⟨a0, a1, a2, a3⟩, b0, b1, b2, b3⟩ := H2.cells
      go_wp2_with fail
      go_meet
      case rel => exact ⟨rfl, (World.cell?_setCell_other _ ⟨g, 0, none⟩ ⟨bb, 1, none⟩ _ (by simp)).trans cB, HF ▸ H2.set0 (wn A - 1)⟩
  case rest =>
    obtain ⟨rfl, cB2, H2⟩ := hcut
    clear H1 cA cB hF
    go_upto_region 9 with fail
    go_cut [47] (fun s47 wx => s47 = .bool (offB B) ∧ wx = wc)
    case first =>
      by_cases h3 : 3 ≤ B.size
      · have h3z : (3 : Int) ≤ (B.size : Int) := by omega
        have sl := fun w => run_slice_string_h (P := Tryd.prog) (w := w) (t := 9) (by rfl) (s := B) .i64 3 (by omega) (by omega)
        have hx : ((B.extract 0 3).toList == [111, 102, 102]) = offB B := by
          rw [offB, decide_eq_true h3, Bool.true_and, ByteArray.toList_eq, ext_list, List.drop_zero]
          by_cases he : B.data.toList.take 3 = [111, 102, 102]
          · rw [he]; rfl
          · rw [decide_eq_false he, beq_eq_false_iff_ne]; exact he
        go_wp2_with fail
        go_meet
        case rel => exact ⟨rfl, rfl⟩
      · have h3z : ¬ (3 : Int) ≤ (B.size : Int) := by omega
        have hx : offB B = false := by rw [offB, decide_eq_false h3]; rfl
        go_wp2_with fail
        go_meet
        case rel => exact ⟨by rw [hx], rfl⟩
    case rest =>
      obtain ⟨rfl, rfl⟩ := hcut
      have W2 : IntKind.i64.wrap (F + 1) = F + 1 := IntWalk.i64_in _ (by omega)
      have W3 : IntKind.i64.wrap ((B.size : Int) - 1) = (B.size : Int) - 1 := IntWalk.i64_in _ (by omega)
      have e1 : ((B.size : Int) - 1).toNat = B.size - 1 := by omega
      cases hO : offB B
      · go_upto_region 16 with fail
        go_cut [78] (fun s78 wx => s78 = .bool (starB B) ∧ wx = wc)
        case first =>
          by_cases h0 : 0 < B.size
          · have h0z : (0 : Int) < (B.size : Int) := by omega
            have ix : ∀ w, (Instr.index 9 (.string B) (.int .i64 ((B.size : Int) - 1))).run Tryd.prog w = .ok (.int .u8 (byAt B (B.size - 1))) w := fun w => by
              have := by_ix (tb := B) (j := B.size - 1) (by omega) w
              rw [show ((B.size - 1 : Nat) : Int) = (B.size : Int) - 1 from by omega] at this
              exact this
            have hx : (byAt B (B.size - 1) == 42) = starB B := by rw [starB, decide_eq_true h0, Bool.true_and]
            go_wp2_with fail
            go_meet
            case rel => exact ⟨rfl, rfl⟩
          · have h0z : ¬ (0 : Int) < (B.size : Int) := by omega
            have hx : starB B = false := by rw [starB, decide_eq_false h0]; rfl
            go_wp2_with fail
            go_meet
            case rel => exact ⟨by rw [hx], rfl⟩
        case rest =>
          obtain ⟨rfl, rfl⟩ := hcut
          cases hSt : starB B
          · obtain rfl := HA.out.trans (toR_N hO hSt)
            have hn := wn_bd B
            have W4 : IntKind.i64.wrap (wn B - 1) = wn B - 1 := IntWalk.i64_in _ (by omega)
            have W5 : IntKind.i64.wrap (F - (wn B - 1)) = F - (wn B - 1) := IntWalk.i64_in _ (by omega)
            clear HA hO hSt e1 hn
            obtain ⟨⟨v0, v1, v2, v3⟩, ⟨r0, r1, r2, r3⟩, ⟨e0, e1, e2, e3⟩, ⟨a0, a1, a2, a3⟩, b0, b1, b2, b3⟩ := H2.cells
            go_wp2_with fail
            (with_reducible refine (l01Value_wn _ _).mono ?_)
            rintro e w3 ⟨bx, rfl, hb⟩
            clear v0 v1 v2 v3 r0 r1 r2 r3 e0 e1 e2 e3 a0 a1 a2 a3 b0 b1 b2 b3
            have H3 := H2.past hb
            clear H2 hb
            obtain ⟨⟨v0, v1, v2, v3⟩, ⟨r0, r1, r2, r3⟩, ⟨e0, e1, e2, e3⟩, ⟨a0, a1, a2, a3⟩, b0, b1, b2, b3⟩ := H3.cells
            have HZ := (H3.set1 (wn B - 1)).set2 (F - (wn B - 1))
            have hlz := H3.l
            clear H3
            go_wp2_with fail
            exact bodyPost_ret (v := .agg #[.int .i64 F, .int .i64 (wn B - 1), .int .i64 (F - (wn B - 1)), .bool false]) (by simp [r0, r1, r2, r3, results, Tryd.results66, go_sem]) rfl ⟨rfl, HZ.out _ _ _ _⟩
          · obtain ⟨E, hE⟩ : ∃ E, E = B.extract 0 (B.size - 1) := ⟨_, rfl⟩
            have ha2 := HA.out.trans (toR_S hO hSt)
            have hpos : 0 < B.size := by
              simp only [starB, Bool.and_eq_true, decide_eq_true_eq] at hSt
              exact hSt.1
            have sl : ∀ w, (Instr.slice 9 (.string B) none (some (.int .i64 ((B.size : Int) - 1))) none).run Tryd.prog w = .ok (.string E) w := fun w => by
              have := run_slice_string_h (P := Tryd.prog) (w := w) (t := 9) (by rfl) (s := B) .i64 ((B.size : Int) - 1) (by omega) (by omega)
              rw [e1, ← hE] at this
              exact this
            rw [← hE] at ha2
            subst ha2
            have hn := wn_bd E
            have W4 : IntKind.i64.wrap (wn E - 1) = wn E - 1 := IntWalk.i64_in _ (by omega)
            have W5 : IntKind.i64.wrap (F - (wn E - 1)) = F - (wn E - 1) := IntWalk.i64_in _ (by omega)
            clear HA hO hSt e1 hn hE
            have H3 := H2.set3 true
            obtain ⟨⟨v0, v1, v2, v3⟩, ⟨r0, r1, r2, r3⟩, ⟨e0, e1, e2, e3⟩, ⟨a0, a1, a2, a3⟩, b0, b1, b2, b3⟩ := H2.cells
            go_wp2_with fail
            (with_reducible refine (l01Value_wn _ _).mono ?_)
            rintro e w3 ⟨bx, rfl, hb⟩
            clear v0 v1 v2 v3 r0 r1 r2 r3 e0 e1 e2 e3 a0 a1 a2 a3 b0 b1 b2 b3
            have H4 := H3.past hb
            clear H2 H3 hb
            obtain ⟨⟨v0, v1, v2, v3⟩, ⟨r0, r1, r2, r3⟩, ⟨e0, e1, e2, e3⟩, ⟨a0, a1, a2, a3⟩, b0, b1, b2, b3⟩ := H4.cells
            have HZ := (H4.set1 (wn E - 1)).set2 (F - (wn E - 1))
            have hlz := H4.l
            clear H4
            go_wp2_with fail
            exact bodyPost_ret (v := .agg #[.int .i64 F, .int .i64 (wn E - 1), .int .i64 (F - (wn E - 1)), .bool true]) (by simp [r0, r1, r2, r3, results, Tryd.results66, go_sem]) rfl ⟨rfl, HZ.out _ _ _ _⟩
      · have ha2 := HA.out.trans (toR_T hO)
        have H3 := (H2.set1 (-1)).set2 (F + 1)
        by_cases h5 : 5 < B.size
        · have h5z : (5 : Int) < (B.size : Int) := by omega
          rw [if_pos h5] at ha2
          have sl : ∀ w, (Instr.slice 9 (.string B) (some (.int .i64 4)) (some (.int .i64 ((B.size : Int) - 1))) none).run Tryd.prog w = .ok (.string (B.extract 4 (B.size - 1))) w := fun w => by
            have := run_slice_string (P := Tryd.prog) w 9 B .i64 .i64 4 ((B.size : Int) - 1) (by rfl) (by omega) (by omega) (by omega)
            rw [e1] at this
            exact this
          obtain ⟨E, hE⟩ : ∃ E, E = B.extract 4 (B.size - 1) := ⟨_, rfl⟩
          rw [← hE] at ha2 sl
          subst ha2
          clear HA hO e1 hE h5
          obtain ⟨⟨v0, v1, v2, v3⟩, ⟨r0, r1, r2, r3⟩, ⟨e0, e1, e2, e3⟩, ⟨a0, a1, a2, a3⟩, b0, b1, b2, b3⟩ := H2.cells
          go_wp2_with fail
          (with_reducible refine (l01Value_wn _ _).mono ?_)
          rintro e w3 ⟨bx, rfl, hb⟩
          clear v0 v1 v2 v3 r0 r1 r2 r3 e0 e1 e2 e3 a0 a1 a2 a3 b0 b1 b2 b3
          have H4 := H3.past hb
          clear H2 H3 hb
          obtain ⟨⟨v0, v1, v2, v3⟩, ⟨r0, r1, r2, r3⟩, ⟨e0, e1, e2, e3⟩, ⟨a0, a1, a2, a3⟩, b0, b1, b2, b3⟩ := H4.cells
          have HZ := H4.set2 (wn E)
          have hlz := H4.l
          clear H4
          go_wp2_with fail
          exact bodyPost_ret (v := .agg #[.int .i64 F, .int .i64 (-1), .int .i64 (wn E), .bool false]) (by simp [r0, r1, r2, r3, results, Tryd.results66, go_sem]) rfl ⟨rfl, HZ.out _ _ _ _⟩
        · have h5z : ¬ (5 : Int) < (B.size : Int) := by omega
          rw [if_neg h5] at ha2
          subst ha2
          clear HA hO e1 h5 H3
          obtain ⟨⟨v0, v1, v2, v3⟩, ⟨r0, r1, r2, r3⟩, ⟨e0, e1, e2, e3⟩, ⟨a0, a1, a2, a3⟩, b0, b1, b2, b3⟩ := H2.cells
          have HZ := (H2.set1 (-1)).set2 (F + 1)
          have hlz := H2.l
          clear H2
          go_wp2_with fail
          exact bodyPost_ret (v := .agg #[.int .i64 F, .int .i64 (-1), .int .i64 (F + 1), .bool false]) (by simp [r0, r1, r2, r3, results, Tryd.results66, go_sem]) rfl ⟨rfl, HZ.out _ _ _ _⟩
end Go.Proofs.YtdcdjocjlicplaaDoor
