/-
  Contracts: the board of a list of bits.
-/
import Derived.Test.YtapocfgajkkpdaaOfBits
namespace Go.Proofs.Ytapocfgajkkpdaa
open Go.ChangeShapes Go.WideShapes Go.ChangeAt Go.RowKit Go.Joins

theorem spl_succ (B : List Int) (j : Nat) : (B.getD j 0 = 1 ∧ (spl B (j + 1)).1 = (spl B j).1 ∧ (spl B (j + 1)).2 = (spl B j).2 + 1) ∨ (¬ B.getD j 0 = 1 ∧ (spl B (j + 1)).1 = (spl B j).1 ++ [(spl B j).2] ∧ (spl B (j + 1)).2 = 0) := by
  rw [spl]
  by_cases h : B.getD j 0 = 1
  · rw [if_pos h]; exact Or.inl ⟨h, rfl, rfl⟩
  · rw [if_neg h]; exact Or.inr ⟨h, rfl, rfl⟩
theorem spl_run {B : List Int} {i n : Nat} (h : i ≤ n) (e : (spl B n).1.length = (spl B i).1.length) : (spl B n).2 = (spl B i).2 + ((n : Int) - (i : Int)) := by
  induction n with
  | zero => obtain rfl : i = 0 := by omega
            simp
  | succ n ih =>
    rcases Nat.lt_or_ge i (n + 1) with h1 | h1
    · have hm := spl_mono B (show i ≤ n by omega)
      rcases spl_succ B n with ⟨_, e1, e2⟩ | ⟨_, e1, e2⟩
      · rw [e1] at e
        rw [e2, ih (by omega) e]
        omega
      · rw [e1, List.length_append] at e
        simp only [List.length_cons, List.length_nil] at e
        omega
    · obtain rfl : i = n + 1 := by omega
      omega
theorem hit_of {B : List Int} {Z n : Nat} (hn : n ≤ B.length) (hZ : 0 < Z) (h : Z ≤ (spl B n).1.length) : ∃ j, hitZ B Z j := by
  induction n with
  | zero => simp [spl] at h; omega
  | succ n ih =>
    by_cases h1 : Z ≤ (spl B n).1.length
    · exact ih (by omega) h1
    · rcases spl_succ B n with ⟨_, e1, _⟩ | ⟨hx, e1, _⟩
      · rw [e1] at h; omega
      · rw [e1, List.length_append] at h
        simp only [List.length_cons, List.length_nil] at h
        exact ⟨n, by omega, hx, by omega⟩
theorem lbOk_hit {P j : Nat} {B : List Int} (h : hitZ B (2 * P + 2) j) : lbOk P B = decide (j + 1 = B.length) := by
  obtain ⟨hj, hx, hl⟩ := h
  have h2 : (spl B (j + 1)).1.length = 2 * P + 2 ∧ (spl B (j + 1)).2 = 0 := by
    rcases spl_succ B j with ⟨hx1, _⟩ | ⟨_, e1, e2⟩
    · exact absurd hx1 hx
    · rw [e1, List.length_append]; exact ⟨by simpa using hl, e2⟩
  by_cases e : j + 1 = B.length
  · rw [lbOk, ← e, decide_eq_true (show _ ∧ _ from ⟨h2.2, h2.1⟩), decide_eq_true rfl]
  · rw [lbOk, decide_eq_false e, decide_eq_false]
    intro h3
    have := spl_run (B := B) (show j + 1 ≤ B.length by omega) (by rw [h3.2, h2.1])
    rw [h3.1, h2.2] at this
    omega
theorem lbOk_none {P : Nat} {B : List Int} (h : ∀ j, ¬ hitZ B (2 * P + 2) j) : lbOk P B = false := by
  rw [lbOk, decide_eq_false]
  intro h3
  obtain ⟨j, hj⟩ := hit_of (B := B) (Z := 2 * P + 2) (Nat.le_refl _) (by omega) (by omega)
  exact h j hj
theorem lbB_hit {p c h s : Int} {P t : Nat} {B L M : List Int} (HT : hitZ B (2 * P + 2) t) (hL : (spl B (t + 1)).1.take (P + 1) = L) (hM : (spl B (t + 1)).1.drop (P + 1) = M) :
    lbB p c h s P B = (decide (t + 1 = B.length) && bOk p c h s L M) ∧ (t + 1 = B.length → lbL P B = L ∧ lbM P B = M) := by
  have h0 := lbOk_hit HT
  by_cases e : t + 1 = B.length
  · rw [decide_eq_true e] at h0
    obtain ⟨e1, e2, e3⟩ := lb_yes (p := p) (c := c) (h := h) (s := s) h0
    rw [← e, hL] at e1
    rw [← e, hM] at e2
    exact ⟨by rw [e3, e1, e2, decide_eq_true e, Bool.true_and], fun _ => ⟨e1, e2⟩⟩
  · rw [decide_eq_false e] at h0
    obtain ⟨_, _, e3⟩ := lb_no (p := p) (c := c) (h := h) (s := s) h0
    exact ⟨by rw [e3, decide_eq_false e, Bool.false_and], fun e' => absurd e' e⟩
def goodB (B : List Int) : Bool := decide (B.length ≤ 80) && decide (∀ x ∈ B, x = 0 ∨ x = 1)
def obC (p c h s : Int) (B : List Int) : Int := if vOk p c h s = true then (if goodB B = true then (if lbB p c h s p.toNat B = true then 0 else 4) else 2) else 1
def obL (p c h s : Int) (B : List Int) : List Int := if obC p c h s B = 0 then lbL p.toNat B else []
def obM (p c h s : Int) (B : List Int) : List Int := if obC p c h s B = 0 then lbM p.toNat B else []
theorem lb_len (P : Nat) (B : List Int) : (lbL P B).length ≤ P + 1 ∧ (lbM P B).length ≤ P + 1 := by
  cases h0 : lbOk P B
  · obtain ⟨e1, e2, _⟩ := lb_no (p := 0) (c := 0) (h := 0) (s := 0) h0
    rw [e1, e2]; simp
  · obtain ⟨e1, e2, _⟩ := lb_yes (p := 0) (c := 0) (h := 0) (s := 0) h0
    simp only [lbOk, decide_eq_true_eq] at h0
    rw [e1, e2, List.length_take, List.length_drop]
    omega
theorem obL_le (p c h s : Int) (B : List Int) : (obL p c h s B).length ≤ 1000 ∧ (obM p c h s B).length ≤ 1000 := by
  unfold obL obM
  split
  · rename_i h0
    have hv : vOk p c h s = true := by
      cases hv : vOk p c h s
      · simp [obC, hv] at h0
      · rfl
    obtain ⟨_, _, _, _⟩ := vOk_yes hv
    have := lb_len p.toNat B
    omega
  · simp
/-- What each way out of the readers says of the three. -/
theorem ob_v {p c h s : Int} {B : List Int} (hv : vOk p c h s = false) : obC p c h s B = 1 ∧ obL p c h s B = [] ∧ obM p c h s B = [] := by
  have e : obC p c h s B = 1 := by simp [obC, hv]
  refine ⟨e, ?_, ?_⟩ <;> simp [obL, obM, e]
theorem ob_2 {p c h s : Int} {B : List Int} (hv : vOk p c h s = true) (hg : goodB B = false) : obC p c h s B = 2 ∧ obL p c h s B = [] ∧ obM p c h s B = [] := by
  have e : obC p c h s B = 2 := by simp [obC, hv, hg]
  refine ⟨e, ?_, ?_⟩ <;> simp [obL, obM, e]
theorem ob_4 {p c h s : Int} {B : List Int} (hv : vOk p c h s = true) (hg : goodB B = true) (hb : lbB p c h s p.toNat B = false) : obC p c h s B = 4 ∧ obL p c h s B = [] ∧ obM p c h s B = [] := by
  have e : obC p c h s B = 4 := by simp [obC, hv, hg, hb]
  refine ⟨e, ?_, ?_⟩ <;> simp [obL, obM, e]
theorem ob_0 {p c h s : Int} {B : List Int} (hv : vOk p c h s = true) (hg : goodB B = true) (hb : lbB p c h s p.toNat B = true) : obC p c h s B = 0 ∧ obL p c h s B = lbL p.toNat B ∧ obM p c h s B = lbM p.toNat B := by
  have e : obC p c h s B = 0 := by simp [obC, hv, hg, hb]
  refine ⟨e, ?_, ?_⟩ <;> simp [obL, obM, e]
theorem goodB_long {B : List Int} (h : 80 < B.length) : goodB B = false := by simp [goodB]; omega
theorem goodB_bad {B : List Int} {j : Nat} {x : Int} (hj : B[j]? = some x) (h0 : ¬ x = 0) (h1 : ¬ x = 1) : goodB B = false := by
  have hm := List.mem_of_getElem? hj
  rw [goodB, Bool.and_eq_false_iff]
  right
  rw [decide_eq_false_iff_not]
  intro h
  rcases h x hm with h | h
  · exact h0 h
  · exact h1 h
theorem goodB_all {B : List Int} (hl : B.length ≤ 80) (h : ∀ t, t < B.length → ∀ x, B[t]? = some x → x = 0 ∨ x = 1) : goodB B = true := by
  rw [goodB, Bool.and_eq_true, decide_eq_true_eq, decide_eq_true_eq]
  refine ⟨hl, fun x hx => ?_⟩
  obtain ⟨t, ht, e⟩ := List.mem_iff_getElem.1 hx
  exact h t ht x (by rw [List.getElem?_eq_getElem ht, e])
theorem BoardCode.nil {p c h s : Int} {B : List Int} {w w' : World} {code : Int} (hu : obC p c h s B = code ∧ obL p c h s B = [] ∧ obM p c h s B = []) (hp : Past w w') :
    BoardCode w (obL p c h s B) (obM p c h s B) (obC p c h s B) (.returned (.tuple #[.agg #[.slice none 0 0, .slice none 0 0], .int .i64 code])) w' := by
  rw [hu.1, hu.2.1, hu.2.2]
  exact ⟨none, 0, none, 0, rfl, BoardVal.nil _ _, hp⟩
theorem BoardCode.at_ {p c h s : Int} {B L M : List Int} {n1 n2 k l : Nat} {A D : Option Addr} {w w' : World} (hu : obC p c h s B = 0 ∧ obL p c h s B = L ∧ obM p c h s B = M) (e1 : L.length = n1) (e2 : M.length = n2) (hv : BoardVal w w' A k D l L M) (hp : Past w w') :
    BoardCode w (obL p c h s B) (obM p c h s B) (obC p c h s B) (.returned (.tuple #[.agg #[.slice A n1 k, .slice D n2 l], .int .i64 0])) w' := by
  subst e1 e2
  rw [hu.1, hu.2.1, hu.2.2]
  exact ⟨A, k, D, l, rfl, hv, hp⟩
theorem boardOfBits_v (p c h s : Int) (A : Option Addr) (n k : Nat) (B : List Int) (w : World) (hv : vOk p c h s = false) :
    Calls Try.prog 42 #[.agg #[.int .i64 p, .int .i64 c, .int .i64 h, .int .i64 s], .slice A n k] w (BoardCode w (obL p c h s B) (obM p c h s B) (obC p c h s B)) := by
  have U := Lib.hid (ob_v (B := B) hv)
  go_enter Try.func42, Try.ntmps42
  go_wp2_with (go_at_call 66; (with_reducible refine (isVar_any _ _ _ _ _).mono ?_); rintro e w1 ⟨rfl, hb1⟩; obtain ⟨hc1, hf1, _⟩ := hb1.cells; have hz1_0 : w.heap.size < w1.heap.size := Past.lt hb1 (by first | omega | (simp <;> omega)); have hz1_1 : w.heap.size + 1 < w1.heap.size := Past.lt hb1 (by first | omega | (simp <;> omega)))
  refine bodyPost_ret (v := .tuple #[.agg #[.slice none 0 0, .slice none 0 0], .int .i64 1]) (by simp [*, results, Try.results42, go_sem]) rfl (BoardCode.nil U.out (by repeat (first | exact Past.refl _ | assumption | refine Past.alloc ?_ _ | refine Past.drew ?_ | refine Past.drewN ?_ _ | refine Past.setCell ?_ (by first | (simp; done) | (simp <;> omega)) _ | refine Past.trans ?_ (past_over _ _) | refine Past.trans ?_ (by assumption))))
set_option maxHeartbeats 4000000 in
set_option maxRecDepth 100000 in
theorem boardOfBits_yes (P : Nat) (c h s : Int) (A : Option Addr) (n k : Nat) (B : List Int) (w : World) (hB : RdI w A n B) (hn : n ≤ 1048576) (hv : Hid (vOk P c h s = true)) (hP : P ≤ 24) :
    Calls Try.prog 42 #[.agg #[.int .i64 (P : Int), .int .i64 c, .int .i64 h, .int .i64 s], .slice A n k] w (BoardCode w (obL P c h s B) (obM P c h s B) (obC P c h s B)) := by
  obtain ⟨wv, hwv⟩ : ∃ wv : World, wv = w.alloc (.cells #[.int .i64 (P : Int), .int .i64 c, .int .i64 h, .int .i64 s] 25) := ⟨_, rfl⟩
  have hp0 : Past w wv := by rw [hwv]; exact (by repeat (first | exact Past.refl _ | assumption | refine Past.alloc ?_ _ | refine Past.drew ?_ | refine Past.drewN ?_ _ | refine Past.setCell ?_ (by first | (simp; done) | (simp <;> omega)) _ | refine Past.trans ?_ (past_over _ _) | refine Past.trans ?_ (by assumption)))
  have c0 : wv.cell? ⟨w.heap.size, 0, none⟩ = some (.int .i64 (P : Int)) := by rw [hwv]; simp [go_sem]
  have c1 : wv.cell? ⟨w.heap.size, 1, none⟩ = some (.int .i64 c) := by rw [hwv]; simp [go_sem]
  have c2 : wv.cell? ⟨w.heap.size, 2, none⟩ = some (.int .i64 h) := by rw [hwv]; simp [go_sem]
  have c3 : wv.cell? ⟨w.heap.size, 3, none⟩ = some (.int .i64 s) := by rw [hwv]; simp [go_sem]
  have zv : wv.heap.size = w.heap.size + 1 := by rw [hwv]; simp [go_sem]
  obtain ⟨w0, hw0⟩ : ∃ w0 : World, w0 = wv.alloc (.cells #[.slice none 0 0, .slice none 0 0] 43) := ⟨_, rfl⟩
  have hpr : Past wv w0 := by rw [hw0]; exact (by repeat (first | exact Past.refl _ | assumption | refine Past.alloc ?_ _ | refine Past.drew ?_ | refine Past.drewN ?_ _ | refine Past.setCell ?_ (by first | (simp; done) | (simp <;> omega)) _ | refine Past.trans ?_ (past_over _ _) | refine Past.trans ?_ (by assumption)))
  have hR : Blk w0 (w.heap.size + 1) 43 #[.slice none 0 0, .slice none 0 0] := by rw [hw0]; exact Blk.at_ zv.symm
  have d0 := hpr.keep c0
  have d1 := hpr.keep c1
  have d2 := hpr.keep c2
  have d3 := hpr.keep c3
  have hB0 := hB.past (hp0.trans hpr)
  have hp00 := hp0.trans hpr
  have zl : w.heap.size + 1 < w0.heap.size := hR.lt
  clear hB c0 c1 c2 c3 hp0 hpr zv
  have hv' := hv.out
  go_enter Try.func42, Try.ntmps42
  go_upto_region 1 with fail
  rw [← hwv, ← hw0]
  clear hwv hw0
  go_wp2_with fail
  (with_reducible refine (isVar_any _ _ _ _ _).mono ?_)
  rintro e w1 ⟨rfl, hb1⟩
  rw [hv']
  clear hv'
  replace d0 := hb1.keep d0
  replace d1 := hb1.keep d1
  replace d2 := hb1.keep d2
  replace d3 := hb1.keep d3
  replace hB0 := hB0.past hb1
  have hR1 := hR.past hb1
  have hp01 := hp00.trans hb1
  have zl1 := hR1.lt
  have dl := World.block_lt_of_cell? w1 _ d0
  simp only at dl
  clear hR hp00 zl hb1
  by_cases h80 : 80 < n
  · have U := Lib.hid (ob_2 hv.out (goodB_long (B := B) (by have := hB0.1; omega)))
    have h80' : (80 : Int) < (n : Int) := by omega
    have r0 := hR1.cell 0 rfl
    have r1 := hR1.cell 1 rfl
    have r2 := hR1.free 0
    have r3 := hR1.free 1
    have hpp := Lib.hid (put2 (a := 0) (b := 1) (g := w.heap.size + 1) (u := .slice none 0 0) (v := .slice none 0 0) (hp01) (by omega))
    go_wp2
    refine bodyPost_ret (v := .tuple #[.agg #[.slice none 0 0, .slice none 0 0], .int .i64 2]) (by simp [*, results, Try.results42, go_sem]) rfl (BoardCode.nil U.out hpp.out)
  · have h80' : (n : Int) ≤ 80 := by omega
    go_wp2_with fail
    go_loop [21] (fun i => ∃ j : Nat, j ≤ n ∧ i = .int .i64 (j : Int) ∧ Hid (∀ t, t < j → ∀ x, B[t]? = some x → x = 0 ∨ x = 1)) (fun i => n - (intOf i).toNat)
    case atStart => exact ⟨0, Nat.zero_le _, rfl, Lib.hid (fun _ h => absurd h (Nat.not_lt_zero _))⟩
    case round =>
      obtain ⟨j, hj, rfl, HG⟩ := hrel
      by_cases hlt : j < n
      · obtain ⟨b1, o1, x, rfl, hxj, hcx⟩ := hB0.at_ hlt
        have hjn : (j : Int) < (n : Int) := by omega
        by_cases hx : x = 0 ∨ x = 1
        · have HN := Lib.hid (show ∀ t, t < j + 1 → ∀ x, B[t]? = some x → x = 0 ∨ x = 1 from fun t ht y hy => by
            rcases Nat.lt_or_ge t j with h1 | h1
            · exact HG.out t h1 y hy
            · obtain rfl : t = j := by omega
              rw [hxj] at hy
              obtain rfl := Option.some.inj hy
              exact hx)
          clear hxj
          rcases hx with rfl | rfl
          all_goals
            go_wp2
            go_round
            case rel => exact ⟨j + 1, by omega, by go_num, HN⟩
            case measure => simp [intOf]; omega
        · have hx0 : ¬ x = 0 := fun e => hx (Or.inl e)
          have hx1 : ¬ x = 1 := fun e => hx (Or.inr e)
          have U := Lib.hid (ob_2 hv.out (goodB_bad hxj hx0 hx1))
          have hb0 : (x != 0) = true := by simp [hx0]
          have hb1 : (x != 1) = true := by simp [hx1]
          clear hxj hx
          have r0 := hR1.cell 0 rfl
          have r1 := hR1.cell 1 rfl
          have r2 := hR1.free 0
          have r3 := hR1.free 1
          have hpp := Lib.hid (put2 (a := 0) (b := 1) (g := w.heap.size + 1) (u := .slice none 0 0) (v := .slice none 0 0) (hp01) (by omega))
          go_wp2
          refine bodyPost_ret (v := .tuple #[.agg #[.slice none 0 0, .slice none 0 0], .int .i64 2]) (by simp [*, results, Try.results42, go_sem]) rfl (BoardCode.nil U.out hpp.out)
      · obtain rfl : j = n := by omega
        have hBl := hB0.1
        have HGB := Lib.hid (goodB_all (B := B) (by omega) (fun t ht => HG.out t (by omega)))
        have HBL := Lib.hid hBl
        clear hBl
        go_wp2_with fail
        (with_reducible refine (boardFrom_any P c h s A j k B _ hB0 (by omega) hP).mono ?_)
        intro e w2 hbf
        rcases hbf with ⟨t, A6, k6, D6, l6, HT, rfl, hval, hb2⟩ | ⟨HT, rfl, hb2⟩
        · obtain ⟨L, hL⟩ : ∃ L, (spl B (t + 1)).1.take (P + 1) = L := ⟨_, rfl⟩
          obtain ⟨M, hM⟩ : ∃ M, (spl B (t + 1)).1.drop (P + 1) = M := ⟨_, rfl⟩
          have HLB := lbB_hit (p := P) (c := c) (h := h) (s := s) HT hL hM
          rw [hL, hM] at hval ⊢
          obtain ⟨ok, hok⟩ : ∃ ok, bOk P c h s L M = ok := ⟨_, rfl⟩
          rw [hok] at HLB ⊢
          have ht1000 : (t : Int) + 1 ≤ 1000 := by have := HT.1; have := HBL.out; omega
          have HLB2 := Lib.hid HLB
          have hRk := hR1.past hb2
          have zl2 := hRk.lt
          have dl2 : w.heap.size < w2.heap.size := by omega
          have r0 := hRk.cell 0 rfl
          have r1 := hRk.cell 1 rfl
          have r2 := hRk.free 0
          have r3 := hRk.free 1
          have hpb := hp01.trans hb2
          have hpp := Lib.hid ((put2 (a := 0) (b := 1) (g := w.heap.size + 1) (u := .slice none 0 0) (v := .slice none 0 0) hpb (by omega)).alloc (.cells #[.slice A6 L.length k6, .slice D6 M.length l6] 43))
          clear hL hM HLB HT hok hpb
          cases ok
          · have U := Lib.hid (ob_4 (p := (P : Int)) (B := B) hv.out HGB.out (by rw [Int.toNat_natCast, HLB2.out.1, Bool.and_false]))
            go_wp2
            refine bodyPost_ret (v := .tuple #[.agg #[.slice none 0 0, .slice none 0 0], .int .i64 4]) (by simp [*, results, Try.results42, go_sem]) rfl (BoardCode.nil U.out hpp.out)
          · by_cases hl : t + 1 = j
            · subst hl
              have U := Lib.hid (ob_0 (p := (P : Int)) (B := B) hv.out HGB.out (by rw [Int.toNat_natCast, HLB2.out.1, Bool.and_true, HBL.out, decide_eq_true rfl]))
              have HLM := Lib.hid (HLB2.out.2 HBL.out.symm)
              have hv8 := Lib.hid ((((hval.far (g := w.heap.size + 1) (by omega) (.slice A6 L.length k6) (.slice D6 M.length l6))).past ((Past.refl _).alloc (.cells #[.slice A6 L.length k6, .slice D6 M.length l6] 43))).less (V := w) (by omega))
              have hp8 := Lib.hid ((put2 (a := 0) (b := 1) (g := w.heap.size + 1) (u := .slice A6 L.length k6) (v := .slice D6 M.length l6) (hp01.trans hb2) (by omega)).alloc (.cells #[.slice A6 L.length k6, .slice D6 M.length l6] 43))
              clear hval
              go_wp2
              refine bodyPost_ret (v := .tuple #[.agg #[.slice A6 L.length k6, .slice D6 M.length l6], .int .i64 0]) (by simp [*, results, Try.results42, go_sem]) rfl (BoardCode.at_ (by have h := U.out; rw [Int.toNat_natCast, HLM.out.1, HLM.out.2] at h; exact h) rfl rfl hv8.out hp8.out)
            · have U := Lib.hid (ob_4 (p := (P : Int)) (B := B) hv.out HGB.out (by rw [Int.toNat_natCast, HLB2.out.1, HBL.out, decide_eq_false hl, Bool.false_and]))
              have hne : ¬ (t : Int) + 1 = (j : Int) := by omega
              clear hl
              go_wp2
              refine bodyPost_ret (v := .tuple #[.agg #[.slice none 0 0, .slice none 0 0], .int .i64 4]) (by simp [*, results, Try.results42, go_sem]) rfl (BoardCode.nil U.out hpp.out)
        · have U := Lib.hid (ob_4 (p := (P : Int)) (B := B) hv.out HGB.out (by rw [Int.toNat_natCast]; exact (lb_no (lbOk_none HT)).2.2))
          have hRk := hR1.past hb2
          have zl2 := hRk.lt
          have dl2 : w.heap.size < w2.heap.size := by omega
          have r0 := hRk.cell 0 rfl
          have r1 := hRk.cell 1 rfl
          have r2 := hRk.free 0
          have r3 := hRk.free 1
          have hpb := hp01.trans hb2
          have hpp := Lib.hid ((put2 (a := 0) (b := 1) (g := w.heap.size + 1) (u := .slice none 0 0) (v := .slice none 0 0) hpb (by omega)).alloc (.cells #[.slice none 0 0, .slice none 0 0] 43))
          clear hpb HT
          go_wp2
          refine bodyPost_ret (v := .tuple #[.agg #[.slice none 0 0, .slice none 0 0], .int .i64 4]) (by simp [*, results, Try.results42, go_sem]) rfl (BoardCode.nil U.out hpp.out)
theorem boardOfBits_any (p c h s : Int) (A : Option Addr) (n k : Nat) (B : List Int) (w : World) (hB : RdI w A n B) (hn : n ≤ 1048576) :
    Calls Try.prog 42 #[.agg #[.int .i64 p, .int .i64 c, .int .i64 h, .int .i64 s], .slice A n k] w (BoardCode w (obL p c h s B) (obM p c h s B) (obC p c h s B)) := by
  cases hv : vOk p c h s
  · exact boardOfBits_v p c h s A n k B w hv
  · obtain ⟨_, _, _, _⟩ := vOk_yes hv
    obtain ⟨P, rfl⟩ := Int.eq_ofNat_of_zero_le (show 0 ≤ p from by omega)
    exact boardOfBits_yes P c h s A n k B w hB hn (Lib.hid hv) (by omega)
end Go.Proofs.Ytapocfgajkkpdaa
