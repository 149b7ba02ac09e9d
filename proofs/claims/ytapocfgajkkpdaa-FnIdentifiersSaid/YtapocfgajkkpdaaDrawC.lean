/-
  Contracts: the boards that the reference draws.
-/
import Derived.Test.YtapocfgajkkpdaaDrawB
namespace Go.Proofs.Ytapocfgajkkpdaa
open Go.ChangeShapes Go.WideShapes Go.ChangeAt Go.RowKit Go.Joins

theorem OwI.addr {base : Nat} {w : World} {A : Option Addr} {n k : Nat} {xs : List Int} (h : OwI base w A n k xs) (hn : 0 < n) : ∃ g, A = some ⟨g, 0, none⟩ := by
  rcases h.2 with ⟨_, h0⟩ | ⟨g, cap, cur, hv, _⟩
  · omega
  · simp only [Value.slice.injEq] at hv
    exact ⟨g, hv.1⟩
theorem Few.sum {m : Int} {L : List Int} (h : Few m L) : 0 ≤ L.sum ∧ L.sum ≤ m * L.length := by
  induction L with
  | nil => simp
  | cons x xs ih =>
    have h1 := ih (fun y hy => h y (List.mem_cons_of_mem _ hy))
    have h2 := h x List.mem_cons_self
    rw [List.sum_cons, List.length_cons, show ((xs.length + 1 : Nat) : Int) = (xs.length : Int) + 1 from by omega, Int.mul_add]
    omega
/-- A board that a draw hands back. -/
def BoardDrawn (w : World) (g : Nat) (A : Option Addr) (n k P : Nat) (e : Ending) (w' : World) : Prop :=
  ∃ b l L d m M, e = .returned (.agg #[.slice (some ⟨b, 0, none⟩) (P + 1) l, .slice (some ⟨d, 0, none⟩) (P + 1) m]) ∧ OwI w.heap.size w' (some ⟨b, 0, none⟩) (P + 1) l L ∧ OwI w.heap.size w' (some ⟨d, 0, none⟩) (P + 1) m M ∧ b ≠ d ∧ Few 15 L ∧ Few 15 M ∧ Drew w g A n k w'
theorem stL_few (P C : Nat) (h s : Int) (hC : C ≤ 15) : Few 15 (stL (P : Int) (C : Int) h s) := by
  unfold stL
  split
  · split
    · unfold stF
      exact ((((Few.zeros (by omega) _).set (by omega) (by omega) _).set (by omega) (by omega) _).set (by omega) (by omega) _).set (by omega) (by omega) _
    · unfold stD
      exact ((Few.zeros (by omega) _).set (by omega) (by omega) _).set (by omega) (by omega) _
  · intro x hx
    cases hx
theorem stL_len {P C : Nat} {h s : Int} (hb : beginOk (P : Int) (C : Int) h s = true) : (stL (P : Int) (C : Int) h s).length = P + 1 := by
  rw [stL_yes hb]
  split
  · rename_i h1
    obtain ⟨h2, _⟩ := h1
    have : P = 24 := by omega
    subst this
    rfl
  · rw [Int.toNat_natCast, stD_len]
/-- Two slices laid in a result's cells. -/
theorem board_ret {w w6 : World} {g b : Nat} {A : Option Addr} {n k : Nat} {t : TypeId} {u v y0 y1 : Value} (hR : Blk w6 b t #[y0, y1]) (h : Drew w g A n k w6) (hb : w.heap.size ≤ b) (hg : g < b) :
    ∃ wE, wE = (w6.setCell ⟨b, 0, none⟩ u).setCell ⟨b, 1, none⟩ v ∧ Blk wE b t #[u, v] ∧ Drew w g A n k wE :=
  ⟨_, rfl, (hR.set 0 _).set 1 _, (h.set (p := ⟨b, 0, none⟩) hb hg _).set (p := ⟨b, 1, none⟩) hb hg _⟩
theorem OwI.off2 {base : Nat} {w : World} {b n k d : Nat} {xs : List Int} {u v : Value} (h : OwI base w (some ⟨b, 0, none⟩) n k xs) (hb : d ≠ b) : OwI base ((w.setCell ⟨d, 0, none⟩ u).setCell ⟨d, 1, none⟩ v) (some ⟨b, 0, none⟩) n k xs :=
  (h.far (p := ⟨d, 0, none⟩) hb u).far (p := ⟨d, 1, none⟩) hb v
set_option maxHeartbeats 2000000 in
theorem draw_any (w : World) (g : Nat) (A : Option Addr) (n k : Nat) (hs : Src w g A n k) (P C : Nat) (h s : Int) (hv : Hid (vOk (P : Int) (C : Int) h s = true)) :
    Calls Try.prog 103 #[.pointer (some ⟨g, 0, none⟩), .agg #[.int .i64 (P : Int), .int .i64 (C : Int), .int .i64 h, .int .i64 s]] w (BoardDrawn w g A n k P) := by
  have hg := hs.lt
  obtain ⟨hv1, hv2, hv3, hv4⟩ := vOk_yes hv.out
  have hP0 : 2 ≤ P := by omega
  have hP : P ≤ 24 := by omega
  have hC : C ≤ 15 := by omega
  obtain ⟨wv, hwv⟩ : ∃ w0, w0 = w.alloc (.cells #[.int .i64 (P : Int), .int .i64 (C : Int), .int .i64 h, .int .i64 s] 25) := ⟨_, rfl⟩
  have hVv : Blk wv w.heap.size 25 #[.int .i64 (P : Int), .int .i64 (C : Int), .int .i64 h, .int .i64 s] := by rw [hwv]; exact Blk.new _ _ _
  have hpv : Past w wv := by rw [hwv]; exact (by repeat (first | exact Past.refl _ | assumption | refine Past.alloc ?_ _ | refine Past.drew ?_ | refine Past.drewN ?_ _ | refine Past.setCell ?_ (by first | (simp; done) | (simp <;> omega)) _ | refine Past.trans ?_ (past_over _ _) | refine Past.trans ?_ (by assumption)))
  have zv : wv.heap.size = w.heap.size + 1 := by rw [hwv]; simp
  obtain ⟨w0, hw0⟩ : ∃ w0, w0 = wv.alloc (.cells #[.slice none 0 0, .slice none 0 0] 43) := ⟨_, rfl⟩
  have hR : Blk w0 (w.heap.size + 1) 43 #[.slice none 0 0, .slice none 0 0] := by rw [hw0]; exact Blk.at_ zv.symm
  have hpr : Past wv w0 := by rw [hw0]; exact (by repeat (first | exact Past.refl _ | assumption | refine Past.alloc ?_ _ | refine Past.drew ?_ | refine Past.drewN ?_ _ | refine Past.setCell ?_ (by first | (simp; done) | (simp <;> omega)) _ | refine Past.trans ?_ (past_over _ _) | refine Past.trans ?_ (by assumption)))
  have hV := hVv.past hpr
  have hp0 := hpv.trans hpr
  have hz0 := hR.lt
  have hD0 : Drew w0 g A n k w0 := Drew.refl (hs.past hp0)
  have hDw : Drew w g A n k w0 := Drew.after hp0 hD0
  go_enter Try.func103, Try.ntmps103
  go_upto_region 1 with fail
  rw [← hwv, ← hw0]
  clear hwv hw0 hVv hpr hpv zv
  go_wp2_with fail
  (with_reducible refine (next_any _ _ _ _ _ _ hD0.src (by omega)).mono ?_)
  rintro e w1 ⟨x, rfl, x0, x1, h1⟩
  have hV1 := h1.blk hV (by omega)
  have hR1 := h1.blk hR (by omega)
  have hD1 := hDw.trans h1
  have hz1 := h1.sz
  clear hV hR hD0 hDw h1 x1
  have c0 : w1.cell? ⟨w.heap.size, 0, none⟩ = some (.int .i64 (P : Int)) := hV1.cell 0 rfl
  have c1 : w1.cell? ⟨w.heap.size, 1, none⟩ = some (.int .i64 (C : Int)) := hV1.cell 1 rfl
  have c2 : w1.cell? ⟨w.heap.size, 2, none⟩ = some (.int .i64 h) := hV1.cell 2 rfl
  have c3 : w1.cell? ⟨w.heap.size, 3, none⟩ = some (.int .i64 s) := hV1.cell 3 rfl
  by_cases hst : x = 0 ∧ 4 ≤ P
  · obtain ⟨rfl, h4⟩ := hst
    have h4' : (4 : Int) ≤ (P : Int) := by omega
    have hbg : beginOk (P : Int) (C : Int) h s = true := by simp [beginOk, hv.out, h4']
    have hL := Lib.hid (stL_len hbg)
    have hF := stL_few P C h s hC
    have hsb := fun w => sStartBoard_yes (P : Int) (C : Int) h s w hv h4'
    generalize stL (P : Int) (C : Int) h s = L at hL hF hsb
    go_wp2_with fail
    (with_reducible refine (hsb _).mono ?_)
    rintro e w2 ⟨A1, l1, A2, l2, rfl, hval, hp2⟩
    rw [hL.out]
    obtain ⟨ho1, ho2, hne0⟩ := hval
    rw [hL.out] at ho1 ho2
    obtain ⟨b1, rfl⟩ := ho1.addr (by omega)
    obtain ⟨b2, rfl⟩ := ho2.addr (by omega)
    have hne : b1 ≠ b2 := fun hb => hne0 b1 ⟨_, rfl, rfl⟩ ⟨_, rfl, hb.symm⟩
    have hR2 := hR1.past hp2
    have hD2 := hD1.past hp2
    have z1 := own_at ho1
    have z2 := own_at ho2
    clear hV1 hR1 hD1 c0 c1 c2 c3 hsb hne0
    go_upto_region 3 with fail
    obtain ⟨w3, hw3⟩ : ∃ w3, w3 = w2.alloc (.cells #[.slice (some ⟨b1, 0, none⟩) (P + 1) l1, .slice (some ⟨b2, 0, none⟩) (P + 1) l2] 43) := ⟨_, rfl⟩
    rw [← hw3]
    have hp3 : Past w2 w3 := by rw [hw3]; exact (Past.refl w2).alloc _
    have hB3 : Blk w3 w2.heap.size 43 #[.slice (some ⟨b1, 0, none⟩) (P + 1) l1, .slice (some ⟨b2, 0, none⟩) (P + 1) l2] := by rw [hw3]; exact Blk.new _ _ _
    have hR3 := hR2.past hp3
    have hD3 := hD2.past hp3
    have ho13 := (ho1.past hp3).less (base' := w.heap.size) (by omega)
    have ho23 := (ho2.past hp3).less (base' := w.heap.size) (by omega)
    clear hw3
    have d0 : w3.cell? ⟨w2.heap.size, 0, none⟩ = some (.slice (some ⟨b1, 0, none⟩) (P + 1) l1) := hB3.cell 0 rfl
    have d1 : w3.cell? ⟨w2.heap.size, 1, none⟩ = some (.slice (some ⟨b2, 0, none⟩) (P + 1) l2) := hB3.cell 1 rfl
    obtain ⟨wE, hwE, hRE, hDE⟩ := board_ret (u := .slice (some ⟨b1, 0, none⟩) (P + 1) l1) (v := .slice (some ⟨b2, 0, none⟩) (P + 1) l2) hR3 hD3 (by omega) (by omega)
    have hoE1 := ho13.off2 (u := .slice (some ⟨b1, 0, none⟩) (P + 1) l1) (v := .slice (some ⟨b2, 0, none⟩) (P + 1) l2) (show w.heap.size + 1 ≠ b1 by omega)
    have hoE2 := ho23.off2 (u := .slice (some ⟨b1, 0, none⟩) (P + 1) l1) (v := .slice (some ⟨b2, 0, none⟩) (P + 1) l2) (show w.heap.size + 1 ≠ b2 by omega)
    rw [← hwE] at hoE1 hoE2
    have r0 : w3.cell? ⟨w.heap.size + 1, 0, none⟩ = some (.slice none 0 0) := hR3.cell 0 rfl
    have r1 : w3.cell? ⟨w.heap.size + 1, 1, none⟩ = some (.slice none 0 0) := hR3.cell 1 rfl
    have f0 := hR3.free 0
    have f1 := hR3.free 1
    go_wp2_with fail
    rw [← hwE]
    clear hwE r0 r1 f0 f1
    have r0 : wE.cell? ⟨w.heap.size + 1, 0, none⟩ = some (.slice (some ⟨b1, 0, none⟩) (P + 1) l1) := hRE.cell 0 rfl
    have r1 : wE.cell? ⟨w.heap.size + 1, 1, none⟩ = some (.slice (some ⟨b2, 0, none⟩) (P + 1) l2) := hRE.cell 1 rfl
    exact bodyPost_ret (v := .agg #[.slice (some ⟨b1, 0, none⟩) (P + 1) l1, .slice (some ⟨b2, 0, none⟩) (P + 1) l2]) (by simp [r0, r1, results, Try.results103, go_sem]) rfl ⟨b1, l1, L, b2, l2, L, rfl, hoE1, hoE2, hne, hF, hF, hDE⟩

  · rcases (by omega : (x = 0 ∧ ¬ 4 ≤ (P : Int)) ∨ ¬ x = 0) with ⟨rfl, h4⟩ | hx0
    · go_wp2_with fail
      go_region_held3 (fun w' => w'.cell? ⟨w.heap.size, 0, none⟩ = some (.int .i64 (P : Int)) ∧ w'.cell? ⟨w.heap.size, 1, none⟩ = some (.int .i64 (C : Int)) ∧ w'.cell? ⟨w.heap.size, 2, none⟩ = some (.int .i64 h) ∧ w'.cell? ⟨w.heap.size, 3, none⟩ = some (.int .i64 s) ∧ Drew w1 g A n k w') (first | (go_split_ands; refine ⟨(by first | with_reducible assumption | (with_reducible refine Drew.cell hd ?_ (by simp only; omega); assumption) | (with_reducible refine Past.keep hb8 ?_; assumption) | assumption), (by first | with_reducible assumption | (with_reducible refine Drew.cell hd ?_ (by simp only; omega); assumption) | (with_reducible refine Past.keep hb8 ?_; assumption) | assumption), (by first | with_reducible assumption | (with_reducible refine Drew.cell hd ?_ (by simp only; omega); assumption) | (with_reducible refine Past.keep hb8 ?_; assumption) | assumption), (by first | with_reducible assumption | (with_reducible refine Drew.cell hd ?_ (by simp only; omega); assumption) | (with_reducible refine Past.keep hb8 ?_; assumption) | assumption), ?_⟩; first | exact (Drew.refl hD1.src).drew | with_reducible assumption | (with_reducible refine Drew.trans ?_ hd; first | with_reducible assumption | (refine Drew.drew ?_; with_reducible assumption)) | (with_reducible refine Drew.past ?_ hb8; first | with_reducible assumption | (refine Drew.drew ?_; with_reducible assumption)) | (with_reducible refine Drew.drew ?_; with_reducible assumption))) (first | (go_at_call 104; (try go_split_ands); (with_reducible refine (sEmpty _ _ _ _ _ hP).mono ?_); rintro e w8 ⟨tb, rfl, hownT, hb8⟩; have hT := own_at hownT; (try simp only [size_drew] at hT)) | (go_at_call 114; (try go_split_ands); (with_reducible refine (drawSide_any _ _ _ _ _ (Drew.src (by with_reducible assumption)) _ _ _ _ hP0 hP hC _ _ _ _ (OwI.rd (by first | assumption | exact OwI.drew (by assumption))) (by omega)).mono ?_); rintro e w9 ⟨b1, l1, L1, rfl, ho1, hF1, hd⟩))
      have hD9 : Drew w1 g A n k w9 := Drew.trans (by assumption) hd
      have hV9 := hD9.blk hV1 (by omega)
      have hR9 := hD9.blk hR1 (by omega)
      have hDw9 := hD1.trans hD9
      have z1 := own_at ho1
      have hz9 := hd.sz
      have hz8 : w1.heap.size ≤ w8.heap.size := hb8.sz
      clear hd hD9 hownT hb8 hV1 hR1 hD1 c0 c1 c2 c3
      have c0 : w9.cell? ⟨w.heap.size, 0, none⟩ = some (.int .i64 (P : Int)) := hV9.cell 0 rfl
      have c1 : w9.cell? ⟨w.heap.size, 1, none⟩ = some (.int .i64 (C : Int)) := hV9.cell 1 rfl
      have c2 : w9.cell? ⟨w.heap.size, 2, none⟩ = some (.int .i64 h) := hV9.cell 2 rfl
      have c3 : w9.cell? ⟨w.heap.size, 3, none⟩ = some (.int .i64 s) := hV9.cell 3 rfl
      go_wp2_with fail
      (with_reducible refine (drawSide_any _ _ _ _ _ hDw9.src _ _ _ _ hP0 hP hC _ _ _ _ ho1.rd (by omega)).mono ?_)
      rintro e w10 ⟨b2, l2, L2, rfl, ho2, hF2, hd2⟩
      have hR10 := hd2.blk hR9 (by omega)
      have hDw10 := hDw9.trans hd2
      have ho1' := (hd2.ow ho1 (by omega)).less (base' := w.heap.size) (by omega)
      have z2 := own_at ho2
      have ho2' := ho2.less (base' := w.heap.size) (by omega)
      have hne : b1 ≠ b2 := by omega
      have hl1 := ho1'.len
      have hl2 := ho2'.len
      have hs1 := hF1.sum
      have hs2 := hF2.sum
      rw [hl1] at hs1
      rw [hl2] at hs2
      have hu1 := fun w hx => sSum_any (some ⟨b1, 0, none⟩) (P + 1) l1 L1 w hx (fun x hx => (hF1 x hx).1) (by omega) (by omega)
      have hu2 := fun w hx => sSum_any (some ⟨b2, 0, none⟩) (P + 1) l2 L2 w hx (fun x hx => (hF2 x hx).1) (by omega) (by omega)
      obtain ⟨s1, hs1e⟩ : ∃ s, s = L1.sum := ⟨_, rfl⟩
      obtain ⟨s2, hs2e⟩ : ∃ s, s = L2.sum := ⟨_, rfl⟩
      rw [← hs1e] at hu1 hs1
      rw [← hs2e] at hu2 hs2
      clear hs1e hs2e ho1 ho2 hV9 hR9 hDw9 hd2 c0 c1 c2 c3
      have HU1 := Lib.hid hu1
      have HU2 := Lib.hid hu2
      clear hu1 hu2
      go_wp2_with fail
      (with_reducible refine (HU1.out _ ho1'.rd).mono ?_)
      rintro e w11 ⟨rfl, rfl⟩
      go_wp2_with fail
      (with_reducible refine (HU2.out _ ho2'.rd).mono ?_)
      rintro e w12 ⟨rfl, rfl⟩
      by_cases h00 : s1 + s2 = 0
      · obtain ⟨a, ha⟩ : ∃ a, L1[0]? = some a := ⟨_, List.getElem?_eq_getElem (show 0 < L1.length by omega)⟩
        have p1 := ho1'.cellj 0 (by omega) a ha
        have p2 := ho1'.freej 0
        have hF1' := hF1.set (v := 1) (by omega) (by omega) 0
        go_upto_region 8 with fail
        obtain ⟨w13, hw13⟩ : ∃ w13, w13 = w10.setCell ⟨b1, 0, none⟩ (.int .i64 1) := ⟨_, rfl⟩
        rw [← hw13]
        have hoA : OwI w.heap.size w13 (some ⟨b1, 0, none⟩) (P + 1) l1 (L1.set 0 1) := by rw [hw13]; exact ho1'.set1 0 1
        have hoB : OwI w.heap.size w13 (some ⟨b2, 0, none⟩) (P + 1) l2 L2 := by rw [hw13]; exact ho2'.far (by simp only; omega) _
        have hR13 : Blk w13 (w.heap.size + 1) 43 #[.slice none 0 0, .slice none 0 0] := by rw [hw13]; exact hR10.off _ (by simp only; omega)
        have hD13 : Drew w g A n k w13 := by rw [hw13]; exact hDw10.set (by simp only; omega) (by simp only; omega) _
        clear hw13 p1 p2 ha ho1' ho2' hR10 hDw10
        obtain ⟨wE, hwE, hRE, hDE⟩ := board_ret (u := .slice (some ⟨b1, 0, none⟩) (P + 1) l1) (v := .slice (some ⟨b2, 0, none⟩) (P + 1) l2) hR13 hD13 (by omega) (by omega)
        have hoE1 := hoA.off2 (u := .slice (some ⟨b1, 0, none⟩) (P + 1) l1) (v := .slice (some ⟨b2, 0, none⟩) (P + 1) l2) (show w.heap.size + 1 ≠ b1 by omega)
        have hoE2 := hoB.off2 (u := .slice (some ⟨b1, 0, none⟩) (P + 1) l1) (v := .slice (some ⟨b2, 0, none⟩) (P + 1) l2) (show w.heap.size + 1 ≠ b2 by omega)
        rw [← hwE] at hoE1 hoE2
        have r0 : w13.cell? ⟨w.heap.size + 1, 0, none⟩ = some (.slice none 0 0) := hR13.cell 0 rfl
        have r1 : w13.cell? ⟨w.heap.size + 1, 1, none⟩ = some (.slice none 0 0) := hR13.cell 1 rfl
        have f0 := hR13.free 0
        have f1 := hR13.free 1
        go_wp2_with fail
        rw [← hwE]
        clear hwE r0 r1 f0 f1
        have r0 : wE.cell? ⟨w.heap.size + 1, 0, none⟩ = some (.slice (some ⟨b1, 0, none⟩) (P + 1) l1) := hRE.cell 0 rfl
        have r1 : wE.cell? ⟨w.heap.size + 1, 1, none⟩ = some (.slice (some ⟨b2, 0, none⟩) (P + 1) l2) := hRE.cell 1 rfl
        exact bodyPost_ret (v := .agg #[.slice (some ⟨b1, 0, none⟩) (P + 1) l1, .slice (some ⟨b2, 0, none⟩) (P + 1) l2]) (by simp [r0, r1, results, Try.results103, go_sem]) rfl ⟨b1, l1, (L1.set 0 1), b2, l2, L2, rfl, hoE1, hoE2, hne, hF1', hF2, hDE⟩

      · go_upto_region 8 with fail
        obtain ⟨wE, hwE, hRE, hDE⟩ := board_ret (u := .slice (some ⟨b1, 0, none⟩) (P + 1) l1) (v := .slice (some ⟨b2, 0, none⟩) (P + 1) l2) hR10 hDw10 (by omega) (by omega)
        have hoE1 := ho1'.off2 (u := .slice (some ⟨b1, 0, none⟩) (P + 1) l1) (v := .slice (some ⟨b2, 0, none⟩) (P + 1) l2) (show w.heap.size + 1 ≠ b1 by omega)
        have hoE2 := ho2'.off2 (u := .slice (some ⟨b1, 0, none⟩) (P + 1) l1) (v := .slice (some ⟨b2, 0, none⟩) (P + 1) l2) (show w.heap.size + 1 ≠ b2 by omega)
        rw [← hwE] at hoE1 hoE2
        have r0 : w10.cell? ⟨w.heap.size + 1, 0, none⟩ = some (.slice none 0 0) := hR10.cell 0 rfl
        have r1 : w10.cell? ⟨w.heap.size + 1, 1, none⟩ = some (.slice none 0 0) := hR10.cell 1 rfl
        have f0 := hR10.free 0
        have f1 := hR10.free 1
        go_wp2_with fail
        rw [← hwE]
        clear hwE r0 r1 f0 f1
        have r0 : wE.cell? ⟨w.heap.size + 1, 0, none⟩ = some (.slice (some ⟨b1, 0, none⟩) (P + 1) l1) := hRE.cell 0 rfl
        have r1 : wE.cell? ⟨w.heap.size + 1, 1, none⟩ = some (.slice (some ⟨b2, 0, none⟩) (P + 1) l2) := hRE.cell 1 rfl
        exact bodyPost_ret (v := .agg #[.slice (some ⟨b1, 0, none⟩) (P + 1) l1, .slice (some ⟨b2, 0, none⟩) (P + 1) l2]) (by simp [r0, r1, results, Try.results103, go_sem]) rfl ⟨b1, l1, L1, b2, l2, L2, rfl, hoE1, hoE2, hne, hF1, hF2, hDE⟩

    · go_wp2_with fail
      go_region_held3 (fun w' => w'.cell? ⟨w.heap.size, 0, none⟩ = some (.int .i64 (P : Int)) ∧ w'.cell? ⟨w.heap.size, 1, none⟩ = some (.int .i64 (C : Int)) ∧ w'.cell? ⟨w.heap.size, 2, none⟩ = some (.int .i64 h) ∧ w'.cell? ⟨w.heap.size, 3, none⟩ = some (.int .i64 s) ∧ Drew w1 g A n k w') (first | (go_split_ands; refine ⟨(by first | with_reducible assumption | (with_reducible refine Drew.cell hd ?_ (by simp only; omega); assumption) | (with_reducible refine Past.keep hb8 ?_; assumption) | assumption), (by first | with_reducible assumption | (with_reducible refine Drew.cell hd ?_ (by simp only; omega); assumption) | (with_reducible refine Past.keep hb8 ?_; assumption) | assumption), (by first | with_reducible assumption | (with_reducible refine Drew.cell hd ?_ (by simp only; omega); assumption) | (with_reducible refine Past.keep hb8 ?_; assumption) | assumption), (by first | with_reducible assumption | (with_reducible refine Drew.cell hd ?_ (by simp only; omega); assumption) | (with_reducible refine Past.keep hb8 ?_; assumption) | assumption), ?_⟩; first | exact (Drew.refl hD1.src).drew | with_reducible assumption | (with_reducible refine Drew.trans ?_ hd; first | with_reducible assumption | (refine Drew.drew ?_; with_reducible assumption)) | (with_reducible refine Drew.past ?_ hb8; first | with_reducible assumption | (refine Drew.drew ?_; with_reducible assumption)) | (with_reducible refine Drew.drew ?_; with_reducible assumption))) (first | (go_at_call 104; (try go_split_ands); (with_reducible refine (sEmpty _ _ _ _ _ hP).mono ?_); rintro e w8 ⟨tb, rfl, hownT, hb8⟩; have hT := own_at hownT; (try simp only [size_drew] at hT)) | (go_at_call 114; (try go_split_ands); (with_reducible refine (drawSide_any _ _ _ _ _ (Drew.src (by with_reducible assumption)) _ _ _ _ hP0 hP hC _ _ _ _ (OwI.rd (by first | assumption | exact OwI.drew (by assumption))) (by omega)).mono ?_); rintro e w9 ⟨b1, l1, L1, rfl, ho1, hF1, hd⟩))
      have hD9 : Drew w1 g A n k w9 := Drew.trans (by assumption) hd
      have hV9 := hD9.blk hV1 (by omega)
      have hR9 := hD9.blk hR1 (by omega)
      have hDw9 := hD1.trans hD9
      have z1 := own_at ho1
      have hz9 := hd.sz
      have hz8 : w1.heap.size ≤ w8.heap.size := hb8.sz
      clear hd hD9 hownT hb8 hV1 hR1 hD1 c0 c1 c2 c3
      have c0 : w9.cell? ⟨w.heap.size, 0, none⟩ = some (.int .i64 (P : Int)) := hV9.cell 0 rfl
      have c1 : w9.cell? ⟨w.heap.size, 1, none⟩ = some (.int .i64 (C : Int)) := hV9.cell 1 rfl
      have c2 : w9.cell? ⟨w.heap.size, 2, none⟩ = some (.int .i64 h) := hV9.cell 2 rfl
      have c3 : w9.cell? ⟨w.heap.size, 3, none⟩ = some (.int .i64 s) := hV9.cell 3 rfl
      go_wp2_with fail
      (with_reducible refine (drawSide_any _ _ _ _ _ hDw9.src _ _ _ _ hP0 hP hC _ _ _ _ ho1.rd (by omega)).mono ?_)
      rintro e w10 ⟨b2, l2, L2, rfl, ho2, hF2, hd2⟩
      have hR10 := hd2.blk hR9 (by omega)
      have hDw10 := hDw9.trans hd2
      have ho1' := (hd2.ow ho1 (by omega)).less (base' := w.heap.size) (by omega)
      have z2 := own_at ho2
      have ho2' := ho2.less (base' := w.heap.size) (by omega)
      have hne : b1 ≠ b2 := by omega
      have hl1 := ho1'.len
      have hl2 := ho2'.len
      have hs1 := hF1.sum
      have hs2 := hF2.sum
      rw [hl1] at hs1
      rw [hl2] at hs2
      have hu1 := fun w hx => sSum_any (some ⟨b1, 0, none⟩) (P + 1) l1 L1 w hx (fun x hx => (hF1 x hx).1) (by omega) (by omega)
      have hu2 := fun w hx => sSum_any (some ⟨b2, 0, none⟩) (P + 1) l2 L2 w hx (fun x hx => (hF2 x hx).1) (by omega) (by omega)
      obtain ⟨s1, hs1e⟩ : ∃ s, s = L1.sum := ⟨_, rfl⟩
      obtain ⟨s2, hs2e⟩ : ∃ s, s = L2.sum := ⟨_, rfl⟩
      rw [← hs1e] at hu1 hs1
      rw [← hs2e] at hu2 hs2
      clear hs1e hs2e ho1 ho2 hV9 hR9 hDw9 hd2 c0 c1 c2 c3
      have HU1 := Lib.hid hu1
      have HU2 := Lib.hid hu2
      clear hu1 hu2
      go_wp2_with fail
      (with_reducible refine (HU1.out _ ho1'.rd).mono ?_)
      rintro e w11 ⟨rfl, rfl⟩
      go_wp2_with fail
      (with_reducible refine (HU2.out _ ho2'.rd).mono ?_)
      rintro e w12 ⟨rfl, rfl⟩
      by_cases h00 : s1 + s2 = 0
      · obtain ⟨a, ha⟩ : ∃ a, L1[0]? = some a := ⟨_, List.getElem?_eq_getElem (show 0 < L1.length by omega)⟩
        have p1 := ho1'.cellj 0 (by omega) a ha
        have p2 := ho1'.freej 0
        have hF1' := hF1.set (v := 1) (by omega) (by omega) 0
        go_upto_region 8 with fail
        obtain ⟨w13, hw13⟩ : ∃ w13, w13 = w10.setCell ⟨b1, 0, none⟩ (.int .i64 1) := ⟨_, rfl⟩
        rw [← hw13]
        have hoA : OwI w.heap.size w13 (some ⟨b1, 0, none⟩) (P + 1) l1 (L1.set 0 1) := by rw [hw13]; exact ho1'.set1 0 1
        have hoB : OwI w.heap.size w13 (some ⟨b2, 0, none⟩) (P + 1) l2 L2 := by rw [hw13]; exact ho2'.far (by simp only; omega) _
        have hR13 : Blk w13 (w.heap.size + 1) 43 #[.slice none 0 0, .slice none 0 0] := by rw [hw13]; exact hR10.off _ (by simp only; omega)
        have hD13 : Drew w g A n k w13 := by rw [hw13]; exact hDw10.set (by simp only; omega) (by simp only; omega) _
        clear hw13 p1 p2 ha ho1' ho2' hR10 hDw10
        obtain ⟨wE, hwE, hRE, hDE⟩ := board_ret (u := .slice (some ⟨b1, 0, none⟩) (P + 1) l1) (v := .slice (some ⟨b2, 0, none⟩) (P + 1) l2) hR13 hD13 (by omega) (by omega)
        have hoE1 := hoA.off2 (u := .slice (some ⟨b1, 0, none⟩) (P + 1) l1) (v := .slice (some ⟨b2, 0, none⟩) (P + 1) l2) (show w.heap.size + 1 ≠ b1 by omega)
        have hoE2 := hoB.off2 (u := .slice (some ⟨b1, 0, none⟩) (P + 1) l1) (v := .slice (some ⟨b2, 0, none⟩) (P + 1) l2) (show w.heap.size + 1 ≠ b2 by omega)
        rw [← hwE] at hoE1 hoE2
        have r0 : w13.cell? ⟨w.heap.size + 1, 0, none⟩ = some (.slice none 0 0) := hR13.cell 0 rfl
        have r1 : w13.cell? ⟨w.heap.size + 1, 1, none⟩ = some (.slice none 0 0) := hR13.cell 1 rfl
        have f0 := hR13.free 0
        have f1 := hR13.free 1
        go_wp2_with fail
        rw [← hwE]
        clear hwE r0 r1 f0 f1
        have r0 : wE.cell? ⟨w.heap.size + 1, 0, none⟩ = some (.slice (some ⟨b1, 0, none⟩) (P + 1) l1) := hRE.cell 0 rfl
        have r1 : wE.cell? ⟨w.heap.size + 1, 1, none⟩ = some (.slice (some ⟨b2, 0, none⟩) (P + 1) l2) := hRE.cell 1 rfl
        exact bodyPost_ret (v := .agg #[.slice (some ⟨b1, 0, none⟩) (P + 1) l1, .slice (some ⟨b2, 0, none⟩) (P + 1) l2]) (by simp [r0, r1, results, Try.results103, go_sem]) rfl ⟨b1, l1, (L1.set 0 1), b2, l2, L2, rfl, hoE1, hoE2, hne, hF1', hF2, hDE⟩

      · go_upto_region 8 with fail
        obtain ⟨wE, hwE, hRE, hDE⟩ := board_ret (u := .slice (some ⟨b1, 0, none⟩) (P + 1) l1) (v := .slice (some ⟨b2, 0, none⟩) (P + 1) l2) hR10 hDw10 (by omega) (by omega)
        have hoE1 := ho1'.off2 (u := .slice (some ⟨b1, 0, none⟩) (P + 1) l1) (v := .slice (some ⟨b2, 0, none⟩) (P + 1) l2) (show w.heap.size + 1 ≠ b1 by omega)
        have hoE2 := ho2'.off2 (u := .slice (some ⟨b1, 0, none⟩) (P + 1) l1) (v := .slice (some ⟨b2, 0, none⟩) (P + 1) l2) (show w.heap.size + 1 ≠ b2 by omega)
        rw [← hwE] at hoE1 hoE2
        have r0 : w10.cell? ⟨w.heap.size + 1, 0, none⟩ = some (.slice none 0 0) := hR10.cell 0 rfl
        have r1 : w10.cell? ⟨w.heap.size + 1, 1, none⟩ = some (.slice none 0 0) := hR10.cell 1 rfl
        have f0 := hR10.free 0
        have f1 := hR10.free 1
        go_wp2_with fail
        rw [← hwE]
        clear hwE r0 r1 f0 f1
        have r0 : wE.cell? ⟨w.heap.size + 1, 0, none⟩ = some (.slice (some ⟨b1, 0, none⟩) (P + 1) l1) := hRE.cell 0 rfl
        have r1 : wE.cell? ⟨w.heap.size + 1, 1, none⟩ = some (.slice (some ⟨b2, 0, none⟩) (P + 1) l2) := hRE.cell 1 rfl
        exact bodyPost_ret (v := .agg #[.slice (some ⟨b1, 0, none⟩) (P + 1) l1, .slice (some ⟨b2, 0, none⟩) (P + 1) l2]) (by simp [r0, r1, results, Try.results103, go_sem]) rfl ⟨b1, l1, L1, b2, l2, L2, rfl, hoE1, hoE2, hne, hF1, hF2, hDE⟩

end Go.Proofs.Ytapocfgajkkpdaa
