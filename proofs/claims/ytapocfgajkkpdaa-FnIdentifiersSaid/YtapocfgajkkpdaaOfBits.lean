/-
  Contracts: a board out of bits.
-/
import Derived.Test.YtapocfgajkkpdaaBits
import Derived.Test.YtapocfgajkkpdaaPut
import Derived.Test.YtapocfgajkkpdaaStart
import Derived.Deep.RegionHeld3
import Derived.Deep.DeepCutAuto
import Derived.Deep.AppendLies
import Derived.IntWalk
namespace Go.Proofs.Ytapocfgajkkpdaa
open Go.ChangeShapes Go.WideShapes Go.ChangeAt Go.RowKit Go.Joins

/-- The runs of ones that a zero has ended, and the run under way, behind j bits. -/
def spl (B : List Int) : Nat → List Int × Int
  | 0 => ([], 0)
  | j + 1 => if B.getD j 0 = 1 then ((spl B j).1, (spl B j).2 + 1) else ((spl B j).1 ++ [(spl B j).2], 0)
theorem spl_one {B C : List Int} {j : Nat} {r : Int} (h : B[j]? = some 1) (e : spl B j = (C, r)) : spl B (j + 1) = (C, r + 1) := by
  rw [spl, List.getD_eq_getElem?_getD, h, e]; rfl
theorem spl_off {B C : List Int} {j : Nat} {x r : Int} (h : B[j]? = some x) (hx : ¬ x = 1) (e : spl B j = (C, r)) : spl B (j + 1) = (C ++ [r], 0) := by
  rw [spl, List.getD_eq_getElem?_getD, h, e, Option.getD_some, if_neg hx]
theorem spl_le (B : List Int) (j : Nat) : (spl B j).1.length ≤ j ∧ 0 ≤ (spl B j).2 ∧ (spl B j).2 ≤ j := by
  induction j with
  | zero => simp [spl]
  | succ j ih =>
    rw [spl]
    split
    · simp only; omega
    · simp only [List.length_append, List.length_cons, List.length_nil]; omega
theorem spl_mono (B : List Int) {i j : Nat} (h : i ≤ j) : (spl B i).1.length ≤ (spl B j).1.length := by
  induction j with
  | zero => obtain rfl : i = 0 := by omega
            exact Nat.le_refl _
  | succ j ih =>
    rcases Nat.lt_or_ge i (j + 1) with h1 | h1
    · refine Nat.le_trans (ih (by omega)) ?_
      rw [spl]
      split
      · exact Nat.le_refl _
      · simp
    · obtain rfl : i = j + 1 := by omega
      exact Nat.le_refl _
/-- The zero at j is the Z-th. -/
def hitZ (B : List Int) (Z j : Nat) : Prop := j < B.length ∧ ¬ B.getD j 0 = 1 ∧ (spl B j).1.length + 1 = Z
theorem hitZ_of {B C : List Int} {Z j : Nat} {x r : Int} (h : B[j]? = some x) (hx : ¬ x = 1) (e : spl B j = (C, r)) : hitZ B Z j ↔ C.length + 1 = Z := by
  have hl := (List.getElem?_eq_some_iff.1 h).1
  have h1 : B.getD j 0 = x := by rw [List.getD_eq_getElem?_getD, h]; rfl
  unfold hitZ
  rw [e, h1]
  exact ⟨fun h => h.2.2, fun h => ⟨hl, hx, h⟩⟩
theorem hitZ_one {B : List Int} {Z j : Nat} (h : B[j]? = some 1) : ¬ hitZ B Z j := by
  intro h2
  refine h2.2.1 ?_
  rw [List.getD_eq_getElem?_getD, h]; rfl
theorem rd_take {w : World} {base g n k : Nat} {xs : List Int} (h : OwI base w (some ⟨g, 0, none⟩) n k xs) (a : Nat) (ha : a ≤ n) : RdI w (some ⟨g, 0, none⟩) a (xs.take a) := by
  have hl := h.len
  refine ⟨by rw [List.length_take]; omega, fun _ => ⟨g, 0, rfl, fun j x hj => ?_⟩⟩
  have hja : j < a := by have := (List.getElem?_eq_some_iff.1 hj).1; rw [List.length_take] at this; omega
  rw [List.getElem?_take, if_pos hja] at hj
  rw [Nat.zero_add]
  exact h.cellj j (by omega) x hj
theorem rd_drop {w : World} {base g n k : Nat} {xs : List Int} (h : OwI base w (some ⟨g, 0, none⟩) n k xs) (a m : Nat) (ha : n = a + m) : RdI w (some ⟨g, a, none⟩) m (xs.drop a) := by
  have hl := h.len
  refine ⟨by rw [List.length_drop]; omega, fun _ => ⟨g, a, rfl, fun j x hj => ?_⟩⟩
  have hja : j < m := by have := (List.getElem?_eq_some_iff.1 hj).1; rw [List.length_drop] at this; omega
  rw [List.getElem?_drop] at hj
  exact h.cellj (a + j) (by omega) x hj
theorem OwI.cap {w : World} {base g n k : Nat} {xs : List Int} (h : OwI base w (some ⟨g, 0, none⟩) n k xs) : n ≤ k := by
  rcases h.2 with ⟨h0, _⟩ | ⟨g', cap, cur, hv, _, _, hc, _⟩
  · cases h0
  · simp only [Value.slice.injEq] at hv
    omega
theorem cell_set2 {w : World} {q : Addr} {v x y : Value} {g : Nat} (h : w.cell? q = some v) (hne : q.block ≠ g) : ((w.setCell ⟨g, 0, none⟩ x).setCell ⟨g, 1, none⟩ y).cell? q = some v := by
  have hn : ∀ i, (⟨g, i, none⟩ : Addr) ≠ q := fun i e => hne (by rw [← e])
  rw [World.cell?_setCell_other _ _ _ _ (hn 1), World.cell?_setCell_other _ _ _ _ (hn 0), h]
theorem box_allocN {W V w : World} {A D : Option Addr} {n m k l : Nat} {L M : List Int} (t : TypeId) (e1 : L.length = n) (e2 : M.length = m) (h : BoardVal V w A k D l L M) (hV : W.heap.size ≤ V.heap.size) (hp : Past W w) :
    BoxAt W (w.alloc (.cells #[.slice A n k, .slice D m l] t)) w.heap.size A k D l L M := by subst e1 e2; exact box_alloc t h hV hp
theorem box_setN {W V w : World} {g : Nat} {A D : Option Addr} {n m k l : Nat} {L M : List Int} (e1 : L.length = n) (e2 : M.length = m) (nb : NewBox w g) (h : BoardVal V w A k D l L M) (hV : W.heap.size ≤ V.heap.size) (hg : W.heap.size ≤ g) (hgV : g < V.heap.size) (hp : Past W w) :
    BoxAt W ((w.setCell ⟨g, 0, none⟩ (.slice A n k)).setCell ⟨g, 1, none⟩ (.slice D m l)) g A k D l L M := by subst e1 e2; exact box_set nb h hV hg hgV hp
theorem BoardVal.far {W w : World} {A D : Option Addr} {k l g : Nat} {L M : List Int} (h : BoardVal W w A k D l L M) (hg : g < W.heap.size) (x y : Value) : BoardVal W ((w.setCell ⟨g, 0, none⟩ x).setCell ⟨g, 1, none⟩ y) A k D l L M := by
  have ha : ¬ blk A g := fun hb => by have := (h.1.blk_lt hb).1; omega
  have hd : ¬ blk D g := fun hb => by have := (h.2.1.blk_lt hb).1; omega
  exact (h.mod1 x ha hd).mod1 y ha hd
/-- What the program's reader hands back: the board behind the Z-th zero, or none. -/
def BfRet (p c h s : Int) (P : Nat) (B : List Int) (w : World) (e : Ending) (w' : World) : Prop :=
  (∃ j A k D l, hitZ B (2 * P + 2) j ∧ e = .returned (.tuple #[.agg #[.slice A ((spl B (j + 1)).1.take (P + 1)).length k, .slice D ((spl B (j + 1)).1.drop (P + 1)).length l], .int .i64 ((j : Int) + 1), .bool (bOk p c h s ((spl B (j + 1)).1.take (P + 1)) ((spl B (j + 1)).1.drop (P + 1)))]) ∧
      BoardVal w w' A k D l ((spl B (j + 1)).1.take (P + 1)) ((spl B (j + 1)).1.drop (P + 1)) ∧ Past w w') ∨
  ((∀ j, ¬ hitZ B (2 * P + 2) j) ∧ e = .returned (.tuple #[.agg #[.slice none 0 0, .slice none 0 0], .int .i64 0, .bool false]) ∧ Past w w')
theorem BfRet.hit {p c h s : Int} {P n1 n2 k l j : Nat} {B L M : List Int} {A D : Option Addr} {w w' : World} (hz : hitZ B (2 * P + 2) j) (hL : (spl B (j + 1)).1.take (P + 1) = L) (hM : (spl B (j + 1)).1.drop (P + 1) = M) (e1 : L.length = n1) (e2 : M.length = n2) (hv : BoardVal w w' A k D l L M) (hp : Past w w') :
    BfRet p c h s P B w (.returned (.tuple #[.agg #[.slice A n1 k, .slice D n2 l], .int .i64 ((j : Int) + 1), .bool (bOk p c h s L M)])) w' := by
  subst hL hM e1 e2
  exact Or.inl ⟨j, A, k, D, l, hz, rfl, hv, hp⟩
theorem BfRet.none {p c h s : Int} {P : Nat} {B : List Int} {w w' : World} (hz : ∀ t, t < B.length → ¬ hitZ B (2 * P + 2) t) (hp : Past w w') : BfRet p c h s P B w (.returned (.tuple #[.agg #[.slice none 0 0, .slice none 0 0], .int .i64 0, .bool false])) w' :=
  Or.inr ⟨fun t h => hz t h.1 h, rfl, hp⟩
set_option maxHeartbeats 4000000 in
set_option maxRecDepth 100000 in
theorem boardFrom_any (P : Nat) (c h s : Int) (A : Option Addr) (n k : Nat) (B : List Int) (w : World) (hB : RdI w A n B) (hn : n ≤ 1000) (hP : P ≤ 24) :
    Calls Try.prog 86 #[.agg #[.int .i64 (P : Int), .int .i64 c, .int .i64 h, .int .i64 s], .slice A n k] w (BfRet P c h s P B w) := by
  obtain ⟨i0, hi, hz0, hz1, hz2⟩ := info_parts infoI
  obtain ⟨wv, hwv⟩ : ∃ wv : World, wv = w.alloc (.cells #[.int .i64 (P : Int), .int .i64 c, .int .i64 h, .int .i64 s] 25) := ⟨_, rfl⟩
  have hp0 : Past w wv := by rw [hwv]; exact (by repeat (first | exact Past.refl _ | assumption | refine Past.alloc ?_ _ | refine Past.drew ?_ | refine Past.drewN ?_ _ | refine Past.setCell ?_ (by first | (simp; done) | (simp <;> omega)) _ | refine Past.trans ?_ (past_over _ _) | refine Past.trans ?_ (by assumption)))
  have c0 : wv.cell? ⟨w.heap.size, 0, none⟩ = some (.int .i64 (P : Int)) := by rw [hwv]; simp [go_sem]
  have c1 : wv.cell? ⟨w.heap.size, 1, none⟩ = some (.int .i64 c) := by rw [hwv]; simp [go_sem]
  have c2 : wv.cell? ⟨w.heap.size, 2, none⟩ = some (.int .i64 h) := by rw [hwv]; simp [go_sem]
  have c3 : wv.cell? ⟨w.heap.size, 3, none⟩ = some (.int .i64 s) := by rw [hwv]; simp [go_sem]
  have zv : wv.heap.size = w.heap.size + 1 := by rw [hwv]; simp [go_sem]
  obtain ⟨w0, hw0⟩ : ∃ w0 : World, w0 = wv.alloc (.cells #[.slice none 0 0, .slice none 0 0] 43) := ⟨_, rfl⟩
  have hpr : Past wv w0 := by rw [hw0]; exact (by repeat (first | exact Past.refl _ | assumption | refine Past.alloc ?_ _ | refine Past.drew ?_ | refine Past.drewN ?_ _ | refine Past.setCell ?_ (by first | (simp; done) | (simp <;> omega)) _ | refine Past.trans ?_ (past_over _ _) | refine Past.trans ?_ (by assumption)))
  have hR : Blk w0 (w.heap.size + 1) 43 #[.slice none 0 0, .slice none 0 0] := by rw [hw0]; exact Blk.at_ zv.symm
  have z0 : w0.heap.size = w.heap.size + 2 := by rw [hw0]; simp [go_sem, zv]
  have d0 := hpr.keep c0
  have d1 := hpr.keep c1
  have d2 := hpr.keep c2
  have d3 := hpr.keep c3
  have hB0 := hB.past (hp0.trans hpr)
  have hp00 := hp0.trans hpr
  clear hB c0 c1 c2 c3
  go_enter Try.func86, Try.ntmps86
  go_upto_region 1 with fail
  rw [← hwv, ← hw0]
  have zl : w.heap.size + 1 < w0.heap.size := by omega
  clear hwv hw0 z0 zv
  go_wp2_with (at_make; refine wpList_make_own _ rfl _ _ 28 rfl w0.heap.size 2 i0 (.int .i64 0) 1 Try.underlying28 hi hz0 hz1 .i64 .i64 (2 * (P : Int) + 2) (2 * P + 2) rfl rfl (by omega) (by rw [hz2]; omega) (by unfold maxLen; omega) (by simp) ?_; intro w1 hown1 hg1)
  have hb1 : Past w0 w1 := Below.grown (Below.refl _ _) hg1 (Nat.le_refl _) (fun k hk => by cases hk)
  have HS : NumsIn w0 w1 (.slice (some ⟨w0.heap.size, 0, none⟩) 0 (2 * P + 2)) [] := ⟨_, _, rfl, hown1, hb1⟩
  clear hg1 hown1
  go_loopw [7, 8, 19] (fun v r i wr => ∃ (j : Nat) (C : List Int) (R : Int), j ≤ n ∧ i = .int .i64 (j : Int) ∧ r = .int .i64 R ∧ NumsIn w0 wr v C ∧ Hid (spl B j = (C, R)) ∧ Hid (∀ t, t < j → ¬ hitZ B (2 * P + 2) t)) (fun _ _ i _ => n - (intOf i).toNat)
  case atStart => exact ⟨0, [], 0, Nat.zero_le _, rfl, rfl, HS, Lib.hid rfl, Lib.hid (fun _ h => absurd h (Nat.not_lt_zero _))⟩
  case round =>
    obtain ⟨j, C, R, hj, rfl, rfl, ⟨A', k', rfl, hown, hp⟩, HSP, HNO⟩ := hrel
    clear HS
    obtain ⟨l1, l2, l3⟩ := spl_le B j
    rw [HSP.out] at l1 l2 l3
    dsimp only at l1 l2 l3
    by_cases hlt : j < n
    · obtain ⟨b1, o1, x, rfl, hxj, hcx⟩ := (hB0.past hp).at_ hlt
      have q0 := hp.keep d0
      have q1 := hp.keep d1
      have q2 := hp.keep d2
      have q3 := hp.keep d3
      have ql := World.block_lt_of_cell? wr _ q0
      simp only at ql
      have hjn : (j : Int) < (n : Int) := by omega
      by_cases hx1 : x = 1
      · subst hx1
        have HN := Lib.hid (spl_one hxj HSP.out)
        have HN2 := Lib.hid (hitZ_one (Z := 2 * P + 2) hxj)
        clear hxj
        go_wp2
        go_roundw
        case rel => exact ⟨j + 1, C, R + 1, by omega, by go_num, rfl, ⟨A', k', rfl, hown, hp⟩, HN, Lib.hid (fun t ht => by
          rcases Nat.lt_or_ge t j with h1 | h1
          · exact HNO.out t h1
          · obtain rfl : t = j := by omega
            exact HN2.out)⟩
        case measure => simp [intOf]; omega
      · have HN := Lib.hid (spl_off hxj hx1 HSP.out)
        have HH := Lib.hid (hitZ_of (Z := 2 * P + 2) hxj hx1 HSP.out)
        clear hxj
        by_cases hz : C.length + 1 = 2 * P + 2
        · have hz3 : (C.length : Int) + 1 = 2 * (P : Int) + 2 := by omega
          have HZ := Lib.hid hz
          have HJ := Lib.hid (HH.out.2 hz)
          clear hz HNO HH
          go_upto_region 11 with (at_builtin; refine wpList_append_lies _ rfl _ _ 28 rfl w0.heap.size 2 i0 (.int .i64 0) 1 8 Try.underlying28 hi hz0 hz1 hz2 rfl (by decide) _ C.length (C.map (Value.int .i64)) rfl (hown.alloc _) ⟨wr.heap.size, 0, none⟩ 1 1 [.int .i64 R] rfl rfl (cell_one_new _ _ _) (by intro u hu; simp at hu; subst hu; rfl) (by decide) (by unfold maxLen; omega) (by omega) (Nat.le_trans hp.size (by simp)) _ rfl ?_; intro g5 k5 w5 hown5 hg5 hat hlt5; have hb5 := past_grown (hp.alloc (.cells #[.int .i64 R] 2)) (hown.alloc (.cells #[.int .i64 R] 2)) (Nat.le_refl _) hg5; have s0 := hb5.keep d0; have s1 := hb5.keep d1; have s2 := hb5.keep d2; have s3 := hb5.keep d3; have sl := World.block_lt_of_cell? w5 _ s0; simp only at sl)
          rw [show C.map (Value.int .i64) ++ [Value.int .i64 R] = (C ++ [R]).map (Value.int .i64) from by simp] at hown5
          rw [HZ.out] at hown5 ⊢
          have HC := Lib.hid (show (spl B (j + 1)).1 = C ++ [R] from by rw [HN.out])
          clear HN HSP hown hB0
          have hown6 : OwI w0.heap.size w5 (some ⟨g5, 0, none⟩) (2 * P + 2) k5 (C ++ [R]) := hown5
          clear hown5 hg5 hat
          have hcap := hown6.cap
          have hl6 := hown6.len
          have hxL := rd_take hown6 (P + 1) (by omega)
          have hyL := rd_drop hown6 (P + 1) (P + 1) (by omega)
          have e1 := hxL.1
          have e2 := hyL.1
          clear hl6
          rw [← HC.out] at hxL hyL e1 e2
          obtain ⟨L, hL⟩ : ∃ L, (spl B (j + 1)).1.take (P + 1) = L := ⟨_, rfl⟩
          obtain ⟨M, hM⟩ : ∃ M, (spl B (j + 1)).1.drop (P + 1) = M := ⟨_, rfl⟩
          rw [hL] at hxL e1
          rw [hM] at hyL e2
          have HL := Lib.hid hL
          have HM := Lib.hid hM
          have hj1000 : (j : Int) ≤ 1000 := by omega
          clear hL hM hown6 HC hz3 HZ hjn l1 l2 l3 hx1 hcx hlt hj hp
          have ncap : ¬ k5 = P + 1 := by omega
          have i0' : (0 : Int) ≤ (P : Int) + 1 := by omega
          have i1' : (P : Int) + 1 ≤ ((2 * P + 2 : Nat) : Int) := by omega
          have i2' : (P : Int) + 1 ≤ (k5 : Int) := by omega
          have i3' : ((2 * P + 2 : Nat) : Int) ≤ (k5 : Int) := by omega
          have i4' : (P : Int) + 1 ≤ 2 * (P : Int) + 2 := by omega
          have W1 : IntKind.i64.wrap ((P : Int) + 1) = (P : Int) + 1 := IntWalk.i64_in _ (by omega)
          have W2 : ((P : Int) + 1).toNat = P + 1 := by omega
          have W3 : 2 * P + 2 - (P + 1) = P + 1 := by omega
          go_cut [11] (fun s wx => ∃ gb A' k' D' l', s = .pointer (some ⟨gb, 0, none⟩) ∧ BoxAt w5 wx gb A' k' D' l' L M)
          case first =>
            go_region_held3 (fun w' => w'.cell? ⟨w.heap.size, 0, none⟩ = some (.int .i64 (P : Int)) ∧ Past (w5) w') ((go_split_ands; refine keep_of (a := w5) (S := fun w' => w'.cell? ⟨w.heap.size, 0, none⟩ = some (.int .i64 (P : Int)) ∧ Past (w5) w') (by repeat (first | exact Past.refl _ | assumption | refine Past.alloc ?_ _ | refine Past.drew ?_ | refine Past.drewN ?_ _ | refine Past.setCell ?_ (by first | (simp; done) | (simp <;> omega)) _ | refine Past.trans ?_ (past_over _ _) | refine Past.trans ?_ (by assumption))) (fun x hP => ⟨hP.keep (by assumption), hP⟩))) (first | (go_at_call 96; (with_reducible refine (((cloneBoard_any _ _ _ _ _ _ _ _ _ _ _ (hxL.past (by repeat (first | exact Past.refl _ | assumption | refine Past.alloc ?_ _ | refine Past.drew ?_ | refine Past.drewN ?_ _ | refine Past.setCell ?_ (by first | (simp; done) | (simp <;> omega)) _ | refine Past.trans ?_ (past_over _ _) | refine Past.trans ?_ (by assumption)))) (hyL.past (by repeat (first | exact Past.refl _ | assumption | refine Past.alloc ?_ _ | refine Past.drew ?_ | refine Past.drewN ?_ _ | refine Past.setCell ?_ (by first | (simp; done) | (simp <;> omega)) _ | refine Past.trans ?_ (past_over _ _) | refine Past.trans ?_ (by assumption)))) (by omega) (by omega)).mono fun _ _ h => BoardNew.ret h)).mono ?_); rintro e w6 ⟨A6, k6, D6, l6, rfl, hor, hb6⟩; (try (have nb := NewBox.past (by first | assumption | exact newBox_alloc _ _ | exact (newBox_alloc _ _).drew) hb6; have nb1 := nb; obtain ⟨nc0, nc1, nf0, nf1⟩ := nb1)); have hs := Past.sz hb6; (try simp only [size_drew] at hs); (try simp only [World.size_alloc] at hs)))
            all_goals
              go_split_ands
              go_wp2_with fail
              go_meet
              first
              | exact ⟨_, _, _, _, _, rfl, box_allocN _ e1 e2 hor (by first | omega | (simp <;> omega)) (by repeat (first | exact Past.refl _ | assumption | refine Past.alloc ?_ _ | refine Past.drew ?_ | refine Past.drewN ?_ _ | refine Past.setCell ?_ (by first | (simp; done) | (simp <;> omega)) _ | refine Past.trans ?_ (past_over _ _) | refine Past.trans ?_ (by assumption)))⟩
              | exact ⟨_, _, _, _, _, rfl, box_setN e1 e2 nb hor (by first | omega | (simp <;> omega)) (by first | omega | (simp <;> omega)) (by first | omega | (simp <;> omega)) (by repeat (first | exact Past.refl _ | assumption | refine Past.alloc ?_ _ | refine Past.drew ?_ | refine Past.drewN ?_ _ | refine Past.setCell ?_ (by first | (simp; done) | (simp <;> omega)) _ | refine Past.trans ?_ (past_over _ _) | refine Past.trans ?_ (by assumption)))⟩
          case rest =>
            obtain ⟨gb, A6, k6, D6, l6, rfl, hBx⟩ := hcut
            obtain ⟨b0, b1', bg, hval, _, _, hb6⟩ := hBx
            have bl := World.block_lt_of_cell? wc _ b0
            simp only at bl
            have rd1 := hval.1.rd
            have rd2 := hval.2.1.rd
            rw [e1] at b0 rd1
            rw [e2] at b1' rd2
            replace s0 := hb6.keep s0
            replace s1 := hb6.keep s1
            replace s2 := hb6.keep s2
            replace s3 := hb6.keep s3
            have hRc := hR.past (hb5.trans hb6)
            have hw5 : w0.heap.size ≤ w5.heap.size := hb5.sz
            have hgb : ¬ gb = w.heap.size + 1 := by omega
            have W4 : IntKind.i64.wrap ((j : Int) + 1) = (j : Int) + 1 := IntWalk.i64_in _ (by omega)
            go_wp2_with fail
            go_region_held3 (fun w' => w'.cell? ⟨w.heap.size, 0, none⟩ = some (.int .i64 (P : Int)) ∧ w'.cell? ⟨w.heap.size, 1, none⟩ = some (.int .i64 c) ∧ w'.cell? ⟨w.heap.size, 2, none⟩ = some (.int .i64 h) ∧ w'.cell? ⟨w.heap.size, 3, none⟩ = some (.int .i64 s) ∧ w'.cell? ⟨gb, 0, none⟩ = some (.slice A6 (P + 1) k6) ∧ w'.cell? ⟨gb, 1, none⟩ = some (.slice D6 (P + 1) l6)) (first | (go_split_ands; refine ⟨?_, ?_, ?_, ?_, ?_, ?_⟩ <;> first | assumption | (refine Past.keep hb7 ?_; assumption) | (refine cell_set2 ?_ ?_ <;> first | assumption | (simp only; omega)) | (refine cell_set2 (Past.keep hb7 ?_) ?_ <;> first | assumption | (simp only; omega))) | (refine ⟨?_, ?_, ?_, ?_, ?_, ?_⟩ <;> assumption)) (first | (go_at_call 31; (with_reducible refine (isBoard_any _ _ _ _ _ _ _ _ _ _ _ _ _ (rd1.past (by repeat (first | exact Past.refl _ | assumption | refine Past.alloc ?_ _ | refine Past.drew ?_ | refine Past.drewN ?_ _ | refine Past.setCell ?_ (by first | (simp; done) | (simp <;> omega)) _ | refine Past.trans ?_ (past_over _ _) | refine Past.trans ?_ (by assumption)))) (rd2.past (by repeat (first | exact Past.refl _ | assumption | refine Past.alloc ?_ _ | refine Past.drew ?_ | refine Past.drewN ?_ _ | refine Past.setCell ?_ (by first | (simp; done) | (simp <;> omega)) _ | refine Past.trans ?_ (past_over _ _) | refine Past.trans ?_ (by assumption)))) (by omega) (by omega)).mono ?_); rintro e w7 ⟨rfl, hb7⟩; have hRk := hRc.past (show Past wc w7 from (by repeat (first | exact Past.refl _ | assumption | refine Past.alloc ?_ _ | refine Past.drew ?_ | refine Past.drewN ?_ _ | refine Past.setCell ?_ (by first | (simp; done) | (simp <;> omega)) _ | refine Past.trans ?_ (past_over _ _) | refine Past.trans ?_ (by assumption)))); have r0 := hRk.cell 0 rfl; have r1 := hRk.cell 1 rfl; have r2 := hRk.free 0; have r3 := hRk.free 1))
            have hv8 := Lib.hid (((hval.past (show Past wc w7 from (by repeat (first | exact Past.refl _ | assumption | refine Past.alloc ?_ _ | refine Past.drew ?_ | refine Past.drewN ?_ _ | refine Past.setCell ?_ (by first | (simp; done) | (simp <;> omega)) _ | refine Past.trans ?_ (past_over _ _) | refine Past.trans ?_ (by assumption))))).far (g := w.heap.size + 1) (by omega) (.slice A6 (P + 1) k6) (.slice D6 (P + 1) l6)).less (V := w) (by omega))
            have hp8 := Lib.hid (put2 (a := 0) (b := 1) (g := w.heap.size + 1) (u := .slice A6 (P + 1) k6) (v := .slice D6 (P + 1) l6) ((hp00.trans (hb5.trans hb6)).trans (show Past wc w7 from (by repeat (first | exact Past.refl _ | assumption | refine Past.alloc ?_ _ | refine Past.drew ?_ | refine Past.drewN ?_ _ | refine Past.setCell ?_ (by first | (simp; done) | (simp <;> omega)) _ | refine Past.trans ?_ (past_over _ _) | refine Past.trans ?_ (by assumption))))) (by omega))
            clear hval
            go_wp2
            refine bodyPost_ret (v := .tuple #[.agg #[.slice A6 (P + 1) k6, .slice D6 (P + 1) l6], .int .i64 ((j : Int) + 1), .bool (bOk P c h s L M)]) (by simp [*, results, Try.results86, go_sem]) rfl (BfRet.hit HJ.out HL.out HM.out e1 e2 hv8.out hp8.out)
        · have hz2' : ¬ (C.length : Int) + 1 = 2 * (P : Int) + 2 := by omega
          clear hz
          go_wp2_with (at_builtin; refine wpList_append_lies _ rfl _ _ 28 rfl w0.heap.size 2 i0 (.int .i64 0) 1 8 Try.underlying28 hi hz0 hz1 hz2 rfl (by decide) _ C.length (C.map (Value.int .i64)) rfl (hown.alloc _) ⟨wr.heap.size, 0, none⟩ 1 1 [.int .i64 R] rfl rfl (cell_one_new _ _ _) (by intro u hu; simp at hu; subst hu; rfl) (by decide) (by unfold maxLen; omega) (by omega) (Nat.le_trans hp.size (by simp)) _ rfl ?_; intro g5 k5 w5 hown5 hg5 hat hlt5; have hb5 := past_grown (hp.alloc (.cells #[.int .i64 R] 2)) (hown.alloc (.cells #[.int .i64 R] 2)) (Nat.le_refl _) hg5; have s0 := hb5.keep d0; have sl := World.block_lt_of_cell? w5 _ s0; simp only at sl)
          go_roundw
          case rel => exact ⟨j + 1, C ++ [R], 0, by omega, by go_num, rfl, NumsIn.push (hown.alloc _) (hp.alloc _) hown5 hg5 (by simp), HN, Lib.hid (fun t ht => by
            rcases Nat.lt_or_ge t j with h1 | h1
            · exact HNO.out t h1
            · obtain rfl : t = j := by omega
              intro h2
              have := HH.out.1 h2
              omega)⟩
          case measure => simp [intOf]; omega
    · obtain rfl : j = n := by omega
      have hRc := hR.past hp
      have r0 := hRc.cell 0 rfl
      have r1 := hRc.cell 1 rfl
      have r2 := hRc.free 0
      have r3 := hRc.free 1
      have hpp := Lib.hid (put2 (a := 0) (b := 1) (g := w.heap.size + 1) (u := .slice none 0 0) (v := .slice none 0 0) (hp00.trans hp) (by omega))
      have hBl := Lib.hid hB0.1
      go_wp2
      refine bodyPost_ret (v := .tuple #[.agg #[.slice none 0 0, .slice none 0 0], .int .i64 0, .bool false]) (by simp [*, results, Try.results86, go_sem]) rfl (BfRet.none (fun t ht => HNO.out t (by rw [hBl.out] at ht; exact ht)) hpp.out)
def lbOk (P : Nat) (B : List Int) : Bool := decide ((spl B B.length).2 = 0 ∧ (spl B B.length).1.length = 2 * P + 2)
def lbL (P : Nat) (B : List Int) : List Int := if lbOk P B = true then (spl B B.length).1.take (P + 1) else []
def lbM (P : Nat) (B : List Int) : List Int := if lbOk P B = true then (spl B B.length).1.drop (P + 1) else []
def lbB (p c h s : Int) (P : Nat) (B : List Int) : Bool := lbOk P B && bOk p c h s (lbL P B) (lbM P B)
theorem lb_no {p c h s : Int} {P : Nat} {B : List Int} (h0 : lbOk P B = false) : lbL P B = [] ∧ lbM P B = [] ∧ lbB p c h s P B = false := by simp [lbL, lbM, lbB, h0]
theorem lb_yes {p c h s : Int} {P : Nat} {B : List Int} (h0 : lbOk P B = true) : lbL P B = (spl B B.length).1.take (P + 1) ∧ lbM P B = (spl B B.length).1.drop (P + 1) ∧ lbB p c h s P B = bOk p c h s (lbL P B) (lbM P B) := by simp [lbL, lbM, lbB, h0]
theorem two_own {W a b : World} {b1 b2 g1 g2 n m k1 k2 : Nat} {L M : List Int} (h1 : OwI b1 a (some ⟨g1, 0, none⟩) n k1 L) (p : Past a b) (h2 : OwI b2 b (some ⟨g2, 0, none⟩) m k2 M) (h12 : a.heap.size ≤ b2) (hW : W.heap.size ≤ b1) :
    BoardVal W b (some ⟨g1, 0, none⟩) k1 (some ⟨g2, 0, none⟩) k2 L M := by
  have s1 := own_at h1
  have s2 := own_at h2
  have e1 := h1.len
  have e2 := h2.len
  subst e1 e2
  exact ⟨(h1.past p).less hW, h2.less (by omega), fun x hx hy => by have := blk_some.1 hx; have := blk_some.1 hy; omega⟩
theorem box_setX {W w : World} {g : Nat} {A D : Option Addr} {n m k l : Nat} {L M : List Int} (e1 : L.length = n) (e2 : M.length = m) (nb : NewBox w g) (h : BoardVal W w A k D l L M) (hg : W.heap.size ≤ g) (ha : ¬ blk A g) (hd : ¬ blk D g) (hp : Past W w) :
    BoxAt W ((w.setCell ⟨g, 0, none⟩ (.slice A n k)).setCell ⟨g, 1, none⟩ (.slice D m l)) g A k D l L M := by
  subst e1 e2
  obtain ⟨n0, n1, n2, n3⟩ := nb
  have e0 : ((w.setCell ⟨g, 0, none⟩ (.slice A L.length k)).setCell ⟨g, 1, none⟩ (.slice D M.length l)).cell? ⟨g, 0, none⟩ = some (.slice A L.length k) := (World.cell?_setCell_other _ ⟨g, 1, none⟩ ⟨g, 0, none⟩ _ (by simp)).trans (World.cell?_setCell_same _ _ _ n0)
  have e1 : ((w.setCell ⟨g, 0, none⟩ (.slice A L.length k)).setCell ⟨g, 1, none⟩ (.slice D M.length l)).cell? ⟨g, 1, none⟩ = some (.slice D M.length l) := World.cell?_setCell_same _ _ _ ((World.cell?_setCell_other w ⟨g, 0, none⟩ ⟨g, 1, none⟩ _ (by simp)).trans n1)
  exact ⟨e0, e1, hg, (h.mod1 _ ha hd).mod1 _ ha hd, ha, hd, (hp.setCell hg _).setCell hg _⟩
theorem BoardOk.at_ {w w' : World} {n1 n2 k l : Nat} {L M : List Int} {A D : Option Addr} {ok : Bool} (e1 : L.length = n1) (e2 : M.length = n2) (hv : BoardVal w w' A k D l L M) (hp : Past w w') : BoardOk w L M ok (.returned (.tuple #[.agg #[.slice A n1 k, .slice D n2 l], .bool ok])) w' := by
  subst e1 e2
  exact ⟨A, k, D, l, rfl, hv, hp⟩
end Go.Proofs.Ytapocfgajkkpdaa
