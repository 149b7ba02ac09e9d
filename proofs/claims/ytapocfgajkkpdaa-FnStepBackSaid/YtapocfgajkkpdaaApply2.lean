/-
  Contracts: the board behind a step, and a code.
-/
import Derived.Test.YtapocfgajkkpdaaApply
namespace Go.Proofs.Ytapocfgajkkpdaa
open Go.ChangeShapes Go.WideShapes Go.ChangeAt Go.RowKit Go.Joins

def apOk (p c h s : Int) (xs ys : List Int) (a : Stp) : Bool := bOk p c h s xs ys && legB p h s xs ys a
def apL (p c h s : Int) (xs ys : List Int) (a : Stp) : List Int := if apOk p c h s xs ys a = true then apX xs a else []
def apM (p c h s : Int) (xs ys : List Int) (a : Stp) : List Int := if apOk p c h s xs ys a = true then apY p ys a else []
def apC (p c h s : Int) (xs ys : List Int) (a : Stp) : Int := if bOk p c h s xs ys = true then (if legB p h s xs ys a = true then 0 else 5) else 1
theorem apL_le (p c h s : Int) (xs ys : List Int) (a : Stp) : (apL p c h s xs ys a).length ≤ 1000 ∧ (apM p c h s xs ys a).length ≤ 1000 := by
  unfold apL apM
  cases hb : apOk p c h s xs ys a
  · simp
  · simp only [apOk, Bool.and_eq_true] at hb
    have F := bFacts hb.1
    simp only [if_true, apX_len, apY_len]
    omega
/-- What a legal step looks like. -/
theorem legB_shape {P : Nat} {h s : Int} {xs ys : List Int} {kf kt kd : Int} {kx : Bool} (hl : legB P h s xs ys ⟨kf, kt, kd, kx⟩ = true) :
    ∃ F : Nat, kf = F ∧ (F : Int) ≤ P ∧ 1 ≤ kd ∧ kd ≤ s ∧ ((kt = -1 ∧ kx = false) ∨ ∃ T : Nat, kt = T ∧ (T : Int) < P ∧ (T : Int) = F - kd) := by
  simp only [legB, Bool.and_eq_true, Stp.same, stp] at hl
  obtain ⟨h1, h2, _, _, _, h3, _, h4⟩ := hl
  replace h3 : toOf kf kd = kt := of_decide_eq_true h3
  replace h4 : stHit P ys kf kd = kx := eq_of_beq h4
  obtain ⟨d0, d1⟩ := win_yes h1
  obtain ⟨f0, f1⟩ := win_yes h2
  obtain ⟨F, rfl⟩ := Int.eq_ofNat_of_zero_le f0
  refine ⟨F, rfl, f1, d0, d1, ?_⟩
  by_cases ht : 0 ≤ (F : Int) - kd
  · rw [toOf_pos ht] at h3
    obtain ⟨T, hT⟩ := Int.eq_ofNat_of_zero_le ht
    exact .inr ⟨T, by omega, by omega, by omega⟩
  · rw [toOf_neg ht] at h3
    rw [stHit_off ht] at h4
    exact .inl ⟨h3.symm, h4.symm⟩
theorem BoardNew.code {w : World} {n m : Nat} {xs ys : List Int} {b d k l : Nat} {w' : World} {code : Int} (h1 : OwI w.heap.size w' (some ⟨b, 0, none⟩) n k xs) (h2 : OwI w.heap.size w' (some ⟨d, 0, none⟩) m l ys) (hne : b ≠ d) (hp : Past w w') :
    BoardCode w xs ys code (.returned (.tuple #[.agg #[.slice (some ⟨b, 0, none⟩) n k, .slice (some ⟨d, 0, none⟩) m l], .int .i64 code])) w' := by
  have e1 := h1.len
  have e2 := h2.len
  subst e1 e2
  exact ⟨_, k, _, l, rfl, ⟨h1, h2, fun x hx hy => hne ((blk_some.1 hx).symm.trans (blk_some.1 hy))⟩, hp⟩
theorem BoardCode.empty {w w' : World} {code : Int} (hp : Past w w') : BoardCode w [] [] code (.returned (.tuple #[.agg #[.slice none 0 0, .slice none 0 0], .int .i64 code])) w' := ⟨none, 0, none, 0, rfl, BoardVal.nil _ _, hp⟩
set_option maxHeartbeats 4000000 in
theorem applyStep_any (p c h s kf kt kd : Int) (kx : Bool) (b o d q n k m l : Nat) (xs ys : List Int) (w : World) (hx : RdI w (some ⟨b, o, none⟩) n xs) (hy : RdI w (some ⟨d, q, none⟩) m ys) (hn : n ≤ 1048576) (hm : m ≤ 1048576) :
    Calls Try.prog 53 #[.agg #[.int .i64 p, .int .i64 c, .int .i64 h, .int .i64 s], .agg #[.slice (some ⟨b, o, none⟩) n k, .slice (some ⟨d, q, none⟩) m l], .agg #[.int .i64 kf, .int .i64 kt, .int .i64 kd, .bool kx]] w (BoardCode w (apL p c h s xs ys ⟨kf, kt, kd, kx⟩) (apM p c h s xs ys ⟨kf, kt, kd, kx⟩) (apC p c h s xs ys ⟨kf, kt, kd, kx⟩)) := by
  cases hb : bOk p c h s xs ys
  · rw [show apL p c h s xs ys ⟨kf, kt, kd, kx⟩ = [] from by simp [apL, apOk, hb], show apM p c h s xs ys ⟨kf, kt, kd, kx⟩ = [] from by simp [apM, apOk, hb], show apC p c h s xs ys ⟨kf, kt, kd, kx⟩ = 1 from by simp [apC, hb]]
    have HB := Lib.hid hb
    clear hb
    go_enter Try.func53, Try.ntmps53
    go_wp2_with (go_at_call 31; (with_reducible refine (isBoard_b _ _ _ _ _ _ _ _ _ _ _ _ _ _ HB (hx.past (by repeat (first | exact Past.refl _ | assumption | refine Past.alloc ?_ _ | refine Past.drew ?_ | refine Past.drewN ?_ _ | refine Past.setCell ?_ (by first | (simp; done) | (simp <;> omega)) _ | refine Past.trans ?_ (past_over _ _) | refine Past.trans ?_ (by assumption)))) (hy.past (by repeat (first | exact Past.refl _ | assumption | refine Past.alloc ?_ _ | refine Past.drew ?_ | refine Past.drewN ?_ _ | refine Past.setCell ?_ (by first | (simp; done) | (simp <;> omega)) _ | refine Past.trans ?_ (past_over _ _) | refine Past.trans ?_ (by assumption)))) hn hm).mono ?_); rintro e w1 ⟨rfl, hb1⟩; obtain ⟨hc1, hf1, _⟩ := hb1.cells; have hz1_0 : w.heap.size < w1.heap.size := Past.lt hb1 (by first | omega | (simp <;> omega)); have hz1_1 : w.heap.size + 1 < w1.heap.size := Past.lt hb1 (by first | omega | (simp <;> omega)); have hz1_2 : w.heap.size + 1 + 1 < w1.heap.size := Past.lt hb1 (by first | omega | (simp <;> omega)); have hz1_3 : w.heap.size + 1 + 1 + 1 < w1.heap.size := Past.lt hb1 (by first | omega | (simp <;> omega)))
    refine bodyPost_ret (v := .tuple #[.agg #[.slice none 0 0, .slice none 0 0], .int .i64 1]) (by simp [*, results, Try.results53, go_sem]) rfl (BoardCode.empty (by repeat (first | exact Past.refl _ | assumption | refine Past.alloc ?_ _ | refine Past.drew ?_ | refine Past.drewN ?_ _ | refine Past.setCell ?_ (by first | (simp; done) | (simp <;> omega)) _ | refine Past.trans ?_ (past_over _ _) | refine Past.trans ?_ (by assumption))))
  · have HB := Lib.hid hb
    have F := Lib.hid (bFacts hb)
    have h0x := Lib.hid F.out.2.2.2.2.1.2.1
    have h0y := Lib.hid F.out.2.2.2.2.2.2.1
    have ux : xs.sum ≤ 1000000 := by have := F.out; omega
    have uy : ys.sum ≤ 1000000 := by have := F.out; omega
    have s1 : s ≤ 6 := by have := F.out; omega
    obtain ⟨P, rfl⟩ := Int.eq_ofNat_of_zero_le (show 0 ≤ p from by have := F.out; omega)
    have hP : P ≤ 24 := by have := F.out; omega
    have ln := Lib.hid (show n = P + 1 from by have := F.out; have := hx.1; omega)
    have lm := Lib.hid (show m = P + 1 from by have := F.out; have := hy.1; omega)
    have bdx := Lib.hid (Bd.of (c := 15) h0x.out (by have := F.out; omega))
    have bdy := Lib.hid (Bd.of (c := 15) h0y.out (by have := F.out; omega))
    cases hl : legB P h s xs ys ⟨kf, kt, kd, kx⟩
    · rw [show apL P c h s xs ys ⟨kf, kt, kd, kx⟩ = [] from by simp [apL, apOk, hl], show apM P c h s xs ys ⟨kf, kt, kd, kx⟩ = [] from by simp [apM, apOk, hl], show apC P c h s xs ys ⟨kf, kt, kd, kx⟩ = 5 from by simp [apC, hb, hl]]
      have hql := fun w hx hy => legalStep_any P c h s kf kt kd kx (some ⟨b, o, none⟩) (some ⟨d, q, none⟩) n k m l xs ys w hx hy ln.out lm.out hP s1 h0x h0y ux uy
      rw [hl] at hql
      have HQ := Lib.hid hql
      clear hb hl hql
      go_enter Try.func53, Try.ntmps53
      go_wp2_with (first | (go_at_call 31; (with_reducible refine (isBoard_b _ _ _ _ _ _ _ _ _ _ _ _ _ _ HB (hx.past (by repeat (first | exact Past.refl _ | assumption | refine Past.alloc ?_ _ | refine Past.drew ?_ | refine Past.drewN ?_ _ | refine Past.setCell ?_ (by first | (simp; done) | (simp <;> omega)) _ | refine Past.trans ?_ (past_over _ _) | refine Past.trans ?_ (by assumption)))) (hy.past (by repeat (first | exact Past.refl _ | assumption | refine Past.alloc ?_ _ | refine Past.drew ?_ | refine Past.drewN ?_ _ | refine Past.setCell ?_ (by first | (simp; done) | (simp <;> omega)) _ | refine Past.trans ?_ (past_over _ _) | refine Past.trans ?_ (by assumption)))) hn hm).mono ?_); rintro e w1 ⟨rfl, hb1⟩; obtain ⟨hc1, hf1, _⟩ := hb1.cells; have hz1_0 : w.heap.size < w1.heap.size := Past.lt hb1 (by first | omega | (simp <;> omega)); have hz1_1 : w.heap.size + 1 < w1.heap.size := Past.lt hb1 (by first | omega | (simp <;> omega)); have hz1_2 : w.heap.size + 1 + 1 < w1.heap.size := Past.lt hb1 (by first | omega | (simp <;> omega)); have hz1_3 : w.heap.size + 1 + 1 + 1 < w1.heap.size := Past.lt hb1 (by first | omega | (simp <;> omega))) | (go_at_call 91; (with_reducible refine (HQ.out _ (hx.past (by repeat (first | exact Past.refl _ | assumption | refine Past.alloc ?_ _ | refine Past.drew ?_ | refine Past.drewN ?_ _ | refine Past.setCell ?_ (by first | (simp; done) | (simp <;> omega)) _ | refine Past.trans ?_ (past_over _ _) | refine Past.trans ?_ (by assumption)))) (hy.past (by repeat (first | exact Past.refl _ | assumption | refine Past.alloc ?_ _ | refine Past.drew ?_ | refine Past.drewN ?_ _ | refine Past.setCell ?_ (by first | (simp; done) | (simp <;> omega)) _ | refine Past.trans ?_ (past_over _ _) | refine Past.trans ?_ (by assumption))))).mono ?_); rintro e w2 ⟨rfl, hb2⟩; obtain ⟨hc2, hf2, _⟩ := hb2.cells; have hz2_0 : w.heap.size + 1 + 1 + 1 < w2.heap.size := Past.lt hb2 (by first | omega | (simp <;> omega))))
      refine bodyPost_ret (v := .tuple #[.agg #[.slice none 0 0, .slice none 0 0], .int .i64 5]) (by simp [*, results, Try.results53, go_sem]) rfl (BoardCode.empty (by repeat (first | exact Past.refl _ | assumption | refine Past.alloc ?_ _ | refine Past.drew ?_ | refine Past.drewN ?_ _ | refine Past.setCell ?_ (by first | (simp; done) | (simp <;> omega)) _ | refine Past.trans ?_ (past_over _ _) | refine Past.trans ?_ (by assumption))))
    · rw [show apL P c h s xs ys ⟨kf, kt, kd, kx⟩ = apX xs ⟨kf, kt, kd, kx⟩ from by simp [apL, apOk, hb, hl], show apM P c h s xs ys ⟨kf, kt, kd, kx⟩ = apY P ys ⟨kf, kt, kd, kx⟩ from by simp [apM, apOk, hb, hl], show apC P c h s xs ys ⟨kf, kt, kd, kx⟩ = 0 from by simp [apC, hb, hl]]
      have hql := fun w hx hy => legalStep_any P c h s kf kt kd kx (some ⟨b, o, none⟩) (some ⟨d, q, none⟩) n k m l xs ys w hx hy ln.out lm.out hP s1 h0x h0y ux uy
      rw [hl] at hql
      have HQ := Lib.hid hql
      have hafter : ∀ wx, RdI wx (some ⟨b, o, none⟩) n xs → RdI wx (some ⟨d, q, none⟩) m ys → Calls Try.prog 93 #[.agg #[.int .i64 (P : Int), .int .i64 c, .int .i64 h, .int .i64 s], .agg #[.slice (some ⟨b, o, none⟩) n k, .slice (some ⟨d, q, none⟩) m l], .agg #[.int .i64 kf, .int .i64 kt, .int .i64 kd, .bool kx]] wx (BoardNew wx n m (apX xs ⟨kf, kt, kd, kx⟩) (apY P ys ⟨kf, kt, kd, kx⟩)) := by
        intro wx hx hy
        obtain ⟨F, rfl, f1, _, _, hs⟩ := legB_shape hl
        rcases hs with ⟨rfl, rfl⟩ | ⟨T, rfl, t1, _⟩
        · exact after_off P F c h s kd b o d q n k m l xs ys wx hx hy ln.out lm.out hP f1 bdx bdy
        · cases kx
          · exact after_in P F T t1 c h s kd b o d q n k m l xs ys wx hx hy ln.out lm.out hP f1 bdx bdy
          · exact after_hit P F T t1 c h s kd b o d q n k m l xs ys wx hx hy ln.out lm.out hP f1 bdx bdy
      have HA := Lib.hid hafter
      clear hb hl hql hafter
      go_enter Try.func53, Try.ntmps53
      go_wp2_with (first | (go_at_call 31; (with_reducible refine (isBoard_b _ _ _ _ _ _ _ _ _ _ _ _ _ _ HB (hx.past (by repeat (first | exact Past.refl _ | assumption | refine Past.alloc ?_ _ | refine Past.drew ?_ | refine Past.drewN ?_ _ | refine Past.setCell ?_ (by first | (simp; done) | (simp <;> omega)) _ | refine Past.trans ?_ (past_over _ _) | refine Past.trans ?_ (by assumption)))) (hy.past (by repeat (first | exact Past.refl _ | assumption | refine Past.alloc ?_ _ | refine Past.drew ?_ | refine Past.drewN ?_ _ | refine Past.setCell ?_ (by first | (simp; done) | (simp <;> omega)) _ | refine Past.trans ?_ (past_over _ _) | refine Past.trans ?_ (by assumption)))) hn hm).mono ?_); rintro e w1 ⟨rfl, hb1⟩; obtain ⟨hc1, hf1, _⟩ := hb1.cells; have hz1_0 : w.heap.size < w1.heap.size := Past.lt hb1 (by first | omega | (simp <;> omega)); have hz1_1 : w.heap.size + 1 < w1.heap.size := Past.lt hb1 (by first | omega | (simp <;> omega)); have hz1_2 : w.heap.size + 1 + 1 < w1.heap.size := Past.lt hb1 (by first | omega | (simp <;> omega)); have hz1_3 : w.heap.size + 1 + 1 + 1 < w1.heap.size := Past.lt hb1 (by first | omega | (simp <;> omega))) | (go_at_call 91; (with_reducible refine (HQ.out _ (hx.past (by repeat (first | exact Past.refl _ | assumption | refine Past.alloc ?_ _ | refine Past.drew ?_ | refine Past.drewN ?_ _ | refine Past.setCell ?_ (by first | (simp; done) | (simp <;> omega)) _ | refine Past.trans ?_ (past_over _ _) | refine Past.trans ?_ (by assumption)))) (hy.past (by repeat (first | exact Past.refl _ | assumption | refine Past.alloc ?_ _ | refine Past.drew ?_ | refine Past.drewN ?_ _ | refine Past.setCell ?_ (by first | (simp; done) | (simp <;> omega)) _ | refine Past.trans ?_ (past_over _ _) | refine Past.trans ?_ (by assumption))))).mono ?_); rintro e w2 ⟨rfl, hb2⟩; obtain ⟨hc2, hf2, _⟩ := hb2.cells; have hz2_0 : w.heap.size < w2.heap.size := Past.lt hb2 (by first | omega | (simp <;> omega)); have hz2_1 : w.heap.size + 1 < w2.heap.size := Past.lt hb2 (by first | omega | (simp <;> omega)); have hz2_2 : w.heap.size + 1 + 1 < w2.heap.size := Past.lt hb2 (by first | omega | (simp <;> omega)); have hz2_3 : w.heap.size + 1 + 1 + 1 < w2.heap.size := Past.lt hb2 (by first | omega | (simp <;> omega))) | (go_at_call 93; (with_reducible refine (HA.out _ (hx.past (by repeat (first | exact Past.refl _ | assumption | refine Past.alloc ?_ _ | refine Past.drew ?_ | refine Past.drewN ?_ _ | refine Past.setCell ?_ (by first | (simp; done) | (simp <;> omega)) _ | refine Past.trans ?_ (past_over _ _) | refine Past.trans ?_ (by assumption)))) (hy.past (by repeat (first | exact Past.refl _ | assumption | refine Past.alloc ?_ _ | refine Past.drew ?_ | refine Past.drewN ?_ _ | refine Past.setCell ?_ (by first | (simp; done) | (simp <;> omega)) _ | refine Past.trans ?_ (past_over _ _) | refine Past.trans ?_ (by assumption))))).mono ?_); rintro e w3 ⟨g1, g2, k1, k2, rfl, ho1, ho2, hne, hb3⟩; obtain ⟨hc3, hf3, _⟩ := hb3.cells; have hz3_0 : w.heap.size + 1 + 1 + 1 < w3.heap.size := Past.lt hb3 (by first | omega | (simp <;> omega))))
      have z1 := hb1.size
      simp only [World.size_alloc] at z1
      have z2 := hb2.size
      have e1 := own_at ho1
      have e2 := own_at ho2
      replace ho1 := ho1.less (base' := w.heap.size) (by omega)
      replace ho2 := ho2.less (base' := w.heap.size) (by omega)
      refine bodyPost_ret (v := .tuple #[.agg #[.slice (some ⟨g1, 0, none⟩) n k1, .slice (some ⟨g2, 0, none⟩) m k2], .int .i64 0]) (by simp [*, results, Try.results53, go_sem]) rfl (BoardNew.code (by repeat (first | assumption | refine OwI.far ?_ (by first | omega | (simp <;> omega)) _ | refine OwI.past ?_ (by assumption) | refine OwI.alloc ?_ _ | refine OwI.drew ?_)) (by repeat (first | assumption | refine OwI.far ?_ (by first | omega | (simp <;> omega)) _ | refine OwI.past ?_ (by assumption) | refine OwI.alloc ?_ _ | refine OwI.drew ?_)) hne (by repeat (first | exact Past.refl _ | assumption | refine Past.alloc ?_ _ | refine Past.drew ?_ | refine Past.drewN ?_ _ | refine Past.setCell ?_ (by first | (simp; done) | (simp <;> omega)) _ | refine Past.trans ?_ (past_over _ _) | refine Past.trans ?_ (by assumption))))
set_option maxHeartbeats 4000000 in
theorem sApplyStep_any (p c h s kf kt kd : Int) (kx : Bool) (b o d q n k m l : Nat) (xs ys : List Int) (w : World) (hx : RdI w (some ⟨b, o, none⟩) n xs) (hy : RdI w (some ⟨d, q, none⟩) m ys) (hn : n ≤ 1048576) (hm : m ≤ 1048576) :
    Calls Try.prog 54 #[.agg #[.int .i64 p, .int .i64 c, .int .i64 h, .int .i64 s], .agg #[.slice (some ⟨b, o, none⟩) n k, .slice (some ⟨d, q, none⟩) m l], .agg #[.int .i64 kf, .int .i64 kt, .int .i64 kd, .bool kx]] w (BoardCode w (apL p c h s xs ys ⟨kf, kt, kd, kx⟩) (apM p c h s xs ys ⟨kf, kt, kd, kx⟩) (apC p c h s xs ys ⟨kf, kt, kd, kx⟩)) := by
  cases hb : bOk p c h s xs ys
  · rw [show apL p c h s xs ys ⟨kf, kt, kd, kx⟩ = [] from by simp [apL, apOk, hb], show apM p c h s xs ys ⟨kf, kt, kd, kx⟩ = [] from by simp [apM, apOk, hb], show apC p c h s xs ys ⟨kf, kt, kd, kx⟩ = 1 from by simp [apC, hb]]
    have HB := Lib.hid hb
    clear hb
    go_enter Try.func54, Try.ntmps54
    go_wp2_with (go_at_call 26; (with_reducible refine (sIsBoard_b _ _ _ _ _ _ _ _ _ _ _ _ _ _ HB (hx.past (by repeat (first | exact Past.refl _ | assumption | refine Past.alloc ?_ _ | refine Past.drew ?_ | refine Past.drewN ?_ _ | refine Past.setCell ?_ (by first | (simp; done) | (simp <;> omega)) _ | refine Past.trans ?_ (past_over _ _) | refine Past.trans ?_ (by assumption)))) (hy.past (by repeat (first | exact Past.refl _ | assumption | refine Past.alloc ?_ _ | refine Past.drew ?_ | refine Past.drewN ?_ _ | refine Past.setCell ?_ (by first | (simp; done) | (simp <;> omega)) _ | refine Past.trans ?_ (past_over _ _) | refine Past.trans ?_ (by assumption)))) hn hm).mono ?_); rintro e w1 ⟨rfl, hb1⟩; obtain ⟨hc1, hf1, _⟩ := hb1.cells; have hz1_0 : w.heap.size < w1.heap.size := Past.lt hb1 (by first | omega | (simp <;> omega)); have hz1_1 : w.heap.size + 1 < w1.heap.size := Past.lt hb1 (by first | omega | (simp <;> omega)); have hz1_2 : w.heap.size + 1 + 1 < w1.heap.size := Past.lt hb1 (by first | omega | (simp <;> omega)); have hz1_3 : w.heap.size + 1 + 1 + 1 < w1.heap.size := Past.lt hb1 (by first | omega | (simp <;> omega)))
    refine bodyPost_ret (v := .tuple #[.agg #[.slice none 0 0, .slice none 0 0], .int .i64 1]) (by simp [*, results, Try.results54, go_sem]) rfl (BoardCode.empty (by repeat (first | exact Past.refl _ | assumption | refine Past.alloc ?_ _ | refine Past.drew ?_ | refine Past.drewN ?_ _ | refine Past.setCell ?_ (by first | (simp; done) | (simp <;> omega)) _ | refine Past.trans ?_ (past_over _ _) | refine Past.trans ?_ (by assumption))))
  · have HB := Lib.hid hb
    have F := Lib.hid (bFacts hb)
    have h0x := Lib.hid F.out.2.2.2.2.1.2.1
    have h0y := Lib.hid F.out.2.2.2.2.2.2.1
    have ux : xs.sum ≤ 1000000 := by have := F.out; omega
    have uy : ys.sum ≤ 1000000 := by have := F.out; omega
    have s1 : s ≤ 6 := by have := F.out; omega
    obtain ⟨P, rfl⟩ := Int.eq_ofNat_of_zero_le (show 0 ≤ p from by have := F.out; omega)
    have hP : P ≤ 24 := by have := F.out; omega
    have ln := Lib.hid (show n = P + 1 from by have := F.out; have := hx.1; omega)
    have lm := Lib.hid (show m = P + 1 from by have := F.out; have := hy.1; omega)
    have bdx := Lib.hid (Bd.of (c := 15) h0x.out (by have := F.out; omega))
    have bdy := Lib.hid (Bd.of (c := 15) h0y.out (by have := F.out; omega))
    cases hl : legB P h s xs ys ⟨kf, kt, kd, kx⟩
    · rw [show apL P c h s xs ys ⟨kf, kt, kd, kx⟩ = [] from by simp [apL, apOk, hl], show apM P c h s xs ys ⟨kf, kt, kd, kx⟩ = [] from by simp [apM, apOk, hl], show apC P c h s xs ys ⟨kf, kt, kd, kx⟩ = 5 from by simp [apC, hb, hl]]
      have hql := fun w hx hy => sLegalStep_any P c h s kf kt kd kx (some ⟨b, o, none⟩) (some ⟨d, q, none⟩) n k m l xs ys w hx hy ln.out lm.out hP s1 h0x h0y ux uy
      rw [hl] at hql
      have HQ := Lib.hid hql
      clear hb hl hql
      go_enter Try.func54, Try.ntmps54
      go_wp2_with (first | (go_at_call 26; (with_reducible refine (sIsBoard_b _ _ _ _ _ _ _ _ _ _ _ _ _ _ HB (hx.past (by repeat (first | exact Past.refl _ | assumption | refine Past.alloc ?_ _ | refine Past.drew ?_ | refine Past.drewN ?_ _ | refine Past.setCell ?_ (by first | (simp; done) | (simp <;> omega)) _ | refine Past.trans ?_ (past_over _ _) | refine Past.trans ?_ (by assumption)))) (hy.past (by repeat (first | exact Past.refl _ | assumption | refine Past.alloc ?_ _ | refine Past.drew ?_ | refine Past.drewN ?_ _ | refine Past.setCell ?_ (by first | (simp; done) | (simp <;> omega)) _ | refine Past.trans ?_ (past_over _ _) | refine Past.trans ?_ (by assumption)))) hn hm).mono ?_); rintro e w1 ⟨rfl, hb1⟩; obtain ⟨hc1, hf1, _⟩ := hb1.cells; have hz1_0 : w.heap.size < w1.heap.size := Past.lt hb1 (by first | omega | (simp <;> omega)); have hz1_1 : w.heap.size + 1 < w1.heap.size := Past.lt hb1 (by first | omega | (simp <;> omega)); have hz1_2 : w.heap.size + 1 + 1 < w1.heap.size := Past.lt hb1 (by first | omega | (simp <;> omega)); have hz1_3 : w.heap.size + 1 + 1 + 1 < w1.heap.size := Past.lt hb1 (by first | omega | (simp <;> omega))) | (go_at_call 94; (with_reducible refine (HQ.out _ (hx.past (by repeat (first | exact Past.refl _ | assumption | refine Past.alloc ?_ _ | refine Past.drew ?_ | refine Past.drewN ?_ _ | refine Past.setCell ?_ (by first | (simp; done) | (simp <;> omega)) _ | refine Past.trans ?_ (past_over _ _) | refine Past.trans ?_ (by assumption)))) (hy.past (by repeat (first | exact Past.refl _ | assumption | refine Past.alloc ?_ _ | refine Past.drew ?_ | refine Past.drewN ?_ _ | refine Past.setCell ?_ (by first | (simp; done) | (simp <;> omega)) _ | refine Past.trans ?_ (past_over _ _) | refine Past.trans ?_ (by assumption))))).mono ?_); rintro e w2 ⟨rfl, hb2⟩; obtain ⟨hc2, hf2, _⟩ := hb2.cells; have hz2_0 : w.heap.size + 1 + 1 + 1 < w2.heap.size := Past.lt hb2 (by first | omega | (simp <;> omega))))
      refine bodyPost_ret (v := .tuple #[.agg #[.slice none 0 0, .slice none 0 0], .int .i64 5]) (by simp [*, results, Try.results54, go_sem]) rfl (BoardCode.empty (by repeat (first | exact Past.refl _ | assumption | refine Past.alloc ?_ _ | refine Past.drew ?_ | refine Past.drewN ?_ _ | refine Past.setCell ?_ (by first | (simp; done) | (simp <;> omega)) _ | refine Past.trans ?_ (past_over _ _) | refine Past.trans ?_ (by assumption))))
    · rw [show apL P c h s xs ys ⟨kf, kt, kd, kx⟩ = apX xs ⟨kf, kt, kd, kx⟩ from by simp [apL, apOk, hb, hl], show apM P c h s xs ys ⟨kf, kt, kd, kx⟩ = apY P ys ⟨kf, kt, kd, kx⟩ from by simp [apM, apOk, hb, hl], show apC P c h s xs ys ⟨kf, kt, kd, kx⟩ = 0 from by simp [apC, hb, hl]]
      have hql := fun w hx hy => sLegalStep_any P c h s kf kt kd kx (some ⟨b, o, none⟩) (some ⟨d, q, none⟩) n k m l xs ys w hx hy ln.out lm.out hP s1 h0x h0y ux uy
      rw [hl] at hql
      have HQ := Lib.hid hql
      have hafter : ∀ wx, RdI wx (some ⟨b, o, none⟩) n xs → RdI wx (some ⟨d, q, none⟩) m ys → Calls Try.prog 95 #[.agg #[.int .i64 (P : Int), .int .i64 c, .int .i64 h, .int .i64 s], .agg #[.slice (some ⟨b, o, none⟩) n k, .slice (some ⟨d, q, none⟩) m l], .agg #[.int .i64 kf, .int .i64 kt, .int .i64 kd, .bool kx]] wx (BoardNew wx n m (apX xs ⟨kf, kt, kd, kx⟩) (apY P ys ⟨kf, kt, kd, kx⟩)) := by
        intro wx hx hy
        obtain ⟨F, rfl, f1, _, _, hs⟩ := legB_shape hl
        rcases hs with ⟨rfl, rfl⟩ | ⟨T, rfl, t1, _⟩
        · exact sAfter_off P F c h s kd b o d q n k m l xs ys wx hx hy ln.out lm.out hP f1 bdx bdy
        · cases kx
          · exact sAfter_in P F T t1 c h s kd b o d q n k m l xs ys wx hx hy ln.out lm.out hP f1 bdx bdy
          · exact sAfter_hit P F T t1 c h s kd b o d q n k m l xs ys wx hx hy ln.out lm.out hP f1 bdx bdy
      have HA := Lib.hid hafter
      clear hb hl hql hafter
      go_enter Try.func54, Try.ntmps54
      go_wp2_with (first | (go_at_call 26; (with_reducible refine (sIsBoard_b _ _ _ _ _ _ _ _ _ _ _ _ _ _ HB (hx.past (by repeat (first | exact Past.refl _ | assumption | refine Past.alloc ?_ _ | refine Past.drew ?_ | refine Past.drewN ?_ _ | refine Past.setCell ?_ (by first | (simp; done) | (simp <;> omega)) _ | refine Past.trans ?_ (past_over _ _) | refine Past.trans ?_ (by assumption)))) (hy.past (by repeat (first | exact Past.refl _ | assumption | refine Past.alloc ?_ _ | refine Past.drew ?_ | refine Past.drewN ?_ _ | refine Past.setCell ?_ (by first | (simp; done) | (simp <;> omega)) _ | refine Past.trans ?_ (past_over _ _) | refine Past.trans ?_ (by assumption)))) hn hm).mono ?_); rintro e w1 ⟨rfl, hb1⟩; obtain ⟨hc1, hf1, _⟩ := hb1.cells; have hz1_0 : w.heap.size < w1.heap.size := Past.lt hb1 (by first | omega | (simp <;> omega)); have hz1_1 : w.heap.size + 1 < w1.heap.size := Past.lt hb1 (by first | omega | (simp <;> omega)); have hz1_2 : w.heap.size + 1 + 1 < w1.heap.size := Past.lt hb1 (by first | omega | (simp <;> omega)); have hz1_3 : w.heap.size + 1 + 1 + 1 < w1.heap.size := Past.lt hb1 (by first | omega | (simp <;> omega))) | (go_at_call 94; (with_reducible refine (HQ.out _ (hx.past (by repeat (first | exact Past.refl _ | assumption | refine Past.alloc ?_ _ | refine Past.drew ?_ | refine Past.drewN ?_ _ | refine Past.setCell ?_ (by first | (simp; done) | (simp <;> omega)) _ | refine Past.trans ?_ (past_over _ _) | refine Past.trans ?_ (by assumption)))) (hy.past (by repeat (first | exact Past.refl _ | assumption | refine Past.alloc ?_ _ | refine Past.drew ?_ | refine Past.drewN ?_ _ | refine Past.setCell ?_ (by first | (simp; done) | (simp <;> omega)) _ | refine Past.trans ?_ (past_over _ _) | refine Past.trans ?_ (by assumption))))).mono ?_); rintro e w2 ⟨rfl, hb2⟩; obtain ⟨hc2, hf2, _⟩ := hb2.cells; have hz2_0 : w.heap.size < w2.heap.size := Past.lt hb2 (by first | omega | (simp <;> omega)); have hz2_1 : w.heap.size + 1 < w2.heap.size := Past.lt hb2 (by first | omega | (simp <;> omega)); have hz2_2 : w.heap.size + 1 + 1 < w2.heap.size := Past.lt hb2 (by first | omega | (simp <;> omega)); have hz2_3 : w.heap.size + 1 + 1 + 1 < w2.heap.size := Past.lt hb2 (by first | omega | (simp <;> omega))) | (go_at_call 95; (with_reducible refine (HA.out _ (hx.past (by repeat (first | exact Past.refl _ | assumption | refine Past.alloc ?_ _ | refine Past.drew ?_ | refine Past.drewN ?_ _ | refine Past.setCell ?_ (by first | (simp; done) | (simp <;> omega)) _ | refine Past.trans ?_ (past_over _ _) | refine Past.trans ?_ (by assumption)))) (hy.past (by repeat (first | exact Past.refl _ | assumption | refine Past.alloc ?_ _ | refine Past.drew ?_ | refine Past.drewN ?_ _ | refine Past.setCell ?_ (by first | (simp; done) | (simp <;> omega)) _ | refine Past.trans ?_ (past_over _ _) | refine Past.trans ?_ (by assumption))))).mono ?_); rintro e w3 ⟨g1, g2, k1, k2, rfl, ho1, ho2, hne, hb3⟩; obtain ⟨hc3, hf3, _⟩ := hb3.cells; have hz3_0 : w.heap.size + 1 + 1 + 1 < w3.heap.size := Past.lt hb3 (by first | omega | (simp <;> omega))))
      have z1 := hb1.size
      simp only [World.size_alloc] at z1
      have z2 := hb2.size
      have e1 := own_at ho1
      have e2 := own_at ho2
      replace ho1 := ho1.less (base' := w.heap.size) (by omega)
      replace ho2 := ho2.less (base' := w.heap.size) (by omega)
      refine bodyPost_ret (v := .tuple #[.agg #[.slice (some ⟨g1, 0, none⟩) n k1, .slice (some ⟨g2, 0, none⟩) m k2], .int .i64 0]) (by simp [*, results, Try.results54, go_sem]) rfl (BoardNew.code (by repeat (first | assumption | refine OwI.far ?_ (by first | omega | (simp <;> omega)) _ | refine OwI.past ?_ (by assumption) | refine OwI.alloc ?_ _ | refine OwI.drew ?_)) (by repeat (first | assumption | refine OwI.far ?_ (by first | omega | (simp <;> omega)) _ | refine OwI.past ?_ (by assumption) | refine OwI.alloc ?_ _ | refine OwI.drew ?_)) hne (by repeat (first | exact Past.refl _ | assumption | refine Past.alloc ?_ _ | refine Past.drew ?_ | refine Past.drewN ?_ _ | refine Past.setCell ?_ (by first | (simp; done) | (simp <;> omega)) _ | refine Past.trans ?_ (past_over _ _) | refine Past.trans ?_ (by assumption))))
end Go.Proofs.Ytapocfgajkkpdaa
