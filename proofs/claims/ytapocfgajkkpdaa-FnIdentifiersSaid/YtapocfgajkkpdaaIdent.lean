/-
  Plain facts: a board is recovered from its bits and from its letters.
-/
import Derived.Test.YtapocfgajkkpdaaReadId2
namespace Go.Proofs.Ytapocfgajkkpdaa

theorem letVal_all : ((List.range 64).all fun v => letVal (letN (v : Int)) == (v : Int)) = true := by decide +kernel
theorem letVal_is {v : Int} (h0 : 0 ≤ v) (h1 : v ≤ 63) : letVal (letN v) = v := by
  obtain ⟨V, rfl⟩ := Int.eq_ofNat_of_zero_le h0
  exact eq_of_beq (List.all_eq_true.1 letVal_all V (List.mem_range.2 (by omega)))
theorem idB_get (L : List Int) {t m : Nat} (h : t < m) : (idB L m)[t]? = some (letU (grp L t 6)) := by
  induction m with
  | zero => omega
  | succ m ih =>
    rw [idB]
    by_cases e : t = m
    · subst e
      rw [List.getElem?_append_right (by rw [idB_len]; omega), idB_len, Nat.sub_self]
      rfl
    · rw [List.getElem?_append_left (by rw [idB_len]; omega)]
      exact ih (by omega)
theorem byteAt_id (L : List Int) {t m : Nat} (h : t < m) : byteAt (idS L m) t = letN (grp L t 6) := by
  rw [byteAt, letN, idS, List.getD_eq_getElem?_getD, idB_get L h]
  rfl
theorem letter_id (L : List Int) {t m : Nat} (h : t < m) : letVal (byteAt (idS L m) t) = grp L t 6 := by
  rw [byteAt_id L h]
  have := grp_64 L t 6 (by omega)
  exact letVal_is this.1 this.2
theorem bitsV_grp (L : List Int) (t : Nat) : bitsV (grp L t 6) 6 = [bitI L (6 * t), bitI L (6 * t + 1), bitI L (6 * t + 2), bitI L (6 * t + 3), bitI L (6 * t + 4), bitI L (6 * t + 5)] := by
  have b0 := bitI_bd L (6 * t)
  have b1 := bitI_bd L (6 * t + 1)
  have b2 := bitI_bd L (6 * t + 2)
  have b3 := bitI_bd L (6 * t + 3)
  have b4 := bitI_bd L (6 * t + 4)
  have b5 := bitI_bd L (6 * t + 5)
  have hg : grp L t 6 = 32 * bitI L (6 * t) + 16 * bitI L (6 * t + 1) + 8 * bitI L (6 * t + 2) + 4 * bitI L (6 * t + 3) + 2 * bitI L (6 * t + 4) + bitI L (6 * t + 5) := by
    simp only [grp, Nat.add_zero]
    omega
  rw [hg]
  generalize bitI L (6 * t) = a0 at *
  generalize bitI L (6 * t + 1) = a1 at *
  generalize bitI L (6 * t + 2) = a2 at *
  generalize bitI L (6 * t + 3) = a3 at *
  generalize bitI L (6 * t + 4) = a4 at *
  generalize bitI L (6 * t + 5) = a5 at *
  simp only [bitsV, List.nil_append, List.cons_append, show kAt 0 = 32 from rfl, show kAt 1 = 16 from rfl, show kAt 2 = 8 from rfl, show kAt 3 = 4 from rfl, show kAt 4 = 2 from rfl, show kAt 5 = 1 from rfl, List.cons.injEq, and_true]
  refine ⟨?_, ?_, ?_, ?_, ?_, ?_⟩ <;> omega
theorem bits_id (L : List Int) {j m : Nat} (h : j ≤ m) : bitsTo (idS L m) j = (List.range (6 * j)).map (bitI L) := by
  induction j with
  | zero => rfl
  | succ j ih =>
    rw [bitsTo, ih (by omega), letter_id L (by omega), bitsV_grp, show 6 * (j + 1) = 6 * j + 1 + 1 + 1 + 1 + 1 + 1 from by omega]
    simp only [List.range_succ, List.map_append, List.map_cons, List.map_nil, List.append_assoc, List.cons_append, List.nil_append]
theorem spl_congr {B C : List Int} {i : Nat} (h : ∀ t, t < i → B.getD t 0 = C.getD t 0) : spl B i = spl C i := by
  induction i with
  | zero => rfl
  | succ i ih => rw [spl, spl, ih (fun t ht => h t (by omega)), h i (by omega)]
theorem bitsRow_size {zs : List Int} (h0 : ∀ x ∈ zs, 0 ≤ x) : ((bitsRow zs).length : Int) = zs.sum + zs.length := by
  induction zs with
  | nil => rfl
  | cons x l ih =>
    have h1 := ih (fun y hy => h0 y (List.mem_cons_of_mem _ hy))
    have h2 := h0 x List.mem_cons_self
    rw [show x :: l = [x] ++ l from rfl, bitsRow_app, bitsRow_one]
    simp only [List.length_append, List.length_replicate, List.length_cons, List.length_nil, List.sum_append, List.sum_cons, List.sum_nil]
    omega
theorem bitsRow_b01 (zs : List Int) : ∀ x ∈ bitsRow zs, x = 0 ∨ x = 1 := by
  intro x hx
  simp only [bitsRow, List.mem_flatMap, List.mem_append, List.mem_replicate, List.mem_cons, List.not_mem_nil, or_false] at hx
  obtain ⟨_, _, ⟨_, h⟩ | h⟩ := hx
  · exact .inr h
  · exact .inl h
/-- Reading the bits of a row gives the row. -/
theorem spl_row {zs : List Int} (h0 : ∀ x ∈ zs, 0 ≤ x) : spl (bitsRow zs) (bitsRow zs).length = (zs, 0) := by
  have key : ∀ j, j ≤ zs.length → spl (bitsRow zs) (bitsRow (zs.take j)).length = (zs.take j, 0) := by
    intro j
    induction j with
    | zero => intro _; rfl
    | succ j ih =>
      intro hj
      obtain ⟨x, hx⟩ : ∃ x, zs[j]? = some x := ⟨_, List.getElem?_eq_getElem (show j < zs.length by omega)⟩
      have hx0 := h0 x (List.mem_of_getElem? hx)
      have e1 := bitsRow_take hx
      have e2 : bitsRow zs = (bitsRow (zs.take j) ++ List.replicate x.toNat 1) ++ ([0] ++ bitsRow (zs.drop (j + 1))) := by
        conv => lhs; rw [← List.take_append_drop (j + 1) zs]
        rw [bitsRow_app, e1, List.append_assoc]
      have h1 : ∀ k, k ≤ x.toNat → spl (bitsRow zs) ((bitsRow (zs.take j)).length + k) = (zs.take j, (k : Int)) := by
        intro k
        induction k with
        | zero => intro _; exact ih (by omega)
        | succ k ihk =>
          intro hk
          have h2 : (bitsRow zs)[(bitsRow (zs.take j)).length + k]? = some 1 := by
            rw [e2, List.getElem?_append_left (by rw [List.length_append, List.length_replicate]; omega), List.getElem?_append_right (by omega), List.getElem?_replicate, if_pos (by omega)]
          have h3 := spl_one h2 (ihk (by omega))
          rw [show (bitsRow (zs.take j)).length + (k + 1) = (bitsRow (zs.take j)).length + k + 1 from by omega, h3]
          congr 1
      have h4 : (bitsRow zs)[(bitsRow (zs.take j)).length + x.toNat]? = some 0 := by
        rw [e2, List.getElem?_append_right (by rw [List.length_append, List.length_replicate]; omega), List.length_append, List.length_replicate, Nat.sub_self]
        rfl
      have h5 := spl_off h4 (by omega) (h1 x.toNat (Nat.le_refl _))
      rw [e1, List.length_append, List.length_append, List.length_replicate, List.length_singleton, h5, List.take_add_one, hx, Option.toList_some, show ((x.toNat : Nat) : Int) = x from by omega]
  have h1 := key zs.length (Nat.le_refl _)
  rwa [List.take_of_length_le (Nat.le_refl _)] at h1
section
variable {P : Nat} {c h s : Int} {xs ys : List Int}
theorem row_facts (hb : bOk P c h s xs ys = true) : (∀ x ∈ xs ++ ys, 0 ≤ x) ∧ xs.length = P + 1 ∧ ys.length = P + 1 ∧ (bitsRow (xs ++ ys)).length ≤ 80 ∧ 0 < (bitsRow (xs ++ ys)).length := by
  obtain ⟨hv, hx, hy, _, _⟩ := bOk_yes hb
  obtain ⟨hv1, hv2, _, _⟩ := vOk_yes hv
  obtain ⟨lx, x0, xs1⟩ := sOk_yes hx
  obtain ⟨ly, y0, ys1⟩ := sOk_yes hy
  have h0 : ∀ x ∈ xs ++ ys, 0 ≤ x := fun x hx => (List.mem_append.1 hx).elim (x0 x) (y0 x)
  have h1 := bitsRow_size h0
  have sx := sum_nonneg x0
  have sy := sum_nonneg y0
  rw [List.sum_append, List.length_append] at h1
  exact ⟨h0, by omega, by omega, by omega, by omega⟩
theorem row_hit (hb : bOk P c h s xs ys = true) {R : List Int} (hR : (bitsRow (xs ++ ys)).length ≤ R.length) (he : ∀ t, t < (bitsRow (xs ++ ys)).length → R.getD t 0 = (bitsRow (xs ++ ys)).getD t 0) :
    hitZ R (2 * P + 2) ((bitsRow (xs ++ ys)).length - 1) ∧ (spl R ((bitsRow (xs ++ ys)).length - 1 + 1)).1 = xs ++ ys := by
  obtain ⟨h0, lx, ly, _, hn⟩ := row_facts hb
  have e1 : spl R (bitsRow (xs ++ ys)).length = (xs ++ ys, 0) := by rw [spl_congr he]; exact spl_row h0
  have e2 : (bitsRow (xs ++ ys)).length - 1 + 1 = (bitsRow (xs ++ ys)).length := by omega
  have e3 : ¬ R.getD ((bitsRow (xs ++ ys)).length - 1) 0 = 1 := by
    intro h1
    rcases spl_succ R ((bitsRow (xs ++ ys)).length - 1) with ⟨_, _, h2⟩ | ⟨h2, _⟩
    · rw [e2, e1] at h2
      have := (spl_le R ((bitsRow (xs ++ ys)).length - 1)).2.1
      simp only at h2
      omega
    · exact h2 h1
  refine ⟨⟨by omega, e3, ?_⟩, by rw [e2, e1]⟩
  rcases spl_succ R ((bitsRow (xs ++ ys)).length - 1) with ⟨h2, _⟩ | ⟨_, h2, _⟩
  · exact absurd h2 e3
  · rw [e2, e1] at h2
    have h3 := congrArg List.length h2
    simp only [List.length_append, List.length_cons, List.length_nil] at h3
    omega
theorem bits_back (hb : bOk P c h s xs ys = true) : obC P c h s (bitsRow (xs ++ ys)) = 0 ∧ obL P c h s (bitsRow (xs ++ ys)) = xs ∧ obM P c h s (bitsRow (xs ++ ys)) = ys := by
  obtain ⟨h0, lx, ly, hl, hn⟩ := row_facts hb
  obtain ⟨h1, h2⟩ := row_hit hb (R := bitsRow (xs ++ ys)) (Nat.le_refl _) (fun _ _ => rfl)
  have e1 : (spl (bitsRow (xs ++ ys)) ((bitsRow (xs ++ ys)).length - 1 + 1)).1.take (P + 1) = xs := by rw [h2, List.take_append_of_le_length (by omega), List.take_of_length_le (by omega)]
  have e2 : (spl (bitsRow (xs ++ ys)) ((bitsRow (xs ++ ys)).length - 1 + 1)).1.drop (P + 1) = ys := by rw [h2, List.drop_append_of_le_length (by omega), List.drop_of_length_le (by omega)]; rfl
  obtain ⟨e3, e4⟩ := lbB_hit (p := P) (c := c) (h := h) (s := s) h1 e1 e2
  have hg : goodB (bitsRow (xs ++ ys)) = true := by
    simp only [goodB, Bool.and_eq_true, decide_eq_true_eq]
    exact ⟨by omega, fun x hx => by have := bitsRow_b01 _ x hx; omega⟩
  have e5 : lbB P c h s (P : Int).toNat (bitsRow (xs ++ ys)) = true := by
    rw [Int.toNat_natCast, e3, hb, decide_eq_true (by omega)]
    rfl
  obtain ⟨f1, f2, f3⟩ := ob_0 (bOk_yes hb).1 hg e5
  obtain ⟨g1, g2⟩ := e4 (by omega)
  rw [Int.toNat_natCast] at f2 f3
  exact ⟨f1, f2.trans g1, f3.trans g2⟩
theorem id_back (hb : bOk P c h s xs ys = true) : rdC P c h s (idOf (bitsRow (xs ++ ys))) = 0 ∧ rdL P c h s (idOf (bitsRow (xs ++ ys))) = xs ∧ rdM P c h s (idOf (bitsRow (xs ++ ys))) = ys := by
  obtain ⟨h0, lx, ly, hl, hn⟩ := row_facts hb
  have hsz : (idOf (bitsRow (xs ++ ys))).size = ((bitsRow (xs ++ ys)).length + 5) / 6 := idS_size _ _
  have hR : rdB (idOf (bitsRow (xs ++ ys))) = (List.range (6 * (((bitsRow (xs ++ ys)).length + 5) / 6))).map (bitI (bitsRow (xs ++ ys))) := by
    rw [rdB, hsz]
    exact bits_id _ (Nat.le_refl _)
  have hRl : (rdB (idOf (bitsRow (xs ++ ys)))).length = 6 * (((bitsRow (xs ++ ys)).length + 5) / 6) := by rw [hR]; simp
  have he : ∀ t, t < (bitsRow (xs ++ ys)).length → (rdB (idOf (bitsRow (xs ++ ys)))).getD t 0 = (bitsRow (xs ++ ys)).getD t 0 := by
    intro t ht
    rw [hR, List.getD_eq_getElem?_getD, List.getElem?_map, List.getElem?_range (by omega), Option.map_some, Option.getD_some, bitI]
    have h1 : (bitsRow (xs ++ ys)).getD t 0 ∈ bitsRow (xs ++ ys) := by
      rw [List.getD_eq_getElem?_getD, List.getElem?_eq_getElem ht]
      exact List.getElem_mem _
    rcases bitsRow_b01 _ _ h1 with h2 | h2
    · rw [h2]; rfl
    · rw [h2]; rfl
  obtain ⟨h1, h2⟩ := row_hit hb (R := rdB (idOf (bitsRow (xs ++ ys)))) (by omega) he
  refine rd_0 (bOk_yes hb).1 (by omega) (fun i hi => ?_) ⟨_, h1, ?_, ?_, hb, rfl⟩
  · rw [idOf, letter_id _ (by omega)]
    exact (grp_64 _ _ 6 (by omega)).1
  · rw [h2, Int.toNat_natCast, List.take_append_of_le_length (by omega), List.take_of_length_le (by omega)]
  · rw [h2, Int.toNat_natCast, List.drop_append_of_le_length (by omega), List.drop_of_length_le (by omega)]
    rfl
end
theorem read_is {p c h s : Int} {tb : ByteArray} (hc : rdC p c h s tb = 0) : bOk p c h s (rdL p c h s tb) (rdM p c h s tb) = true ∧ idOf (bitsRow (rdL p c h s tb ++ rdM p c h s tb)) = tb := by
  have hE : vOk p c h s = true ∧ tb.size ≤ 14 ∧ goodT tb ∧ ∃ L M, isRd p c h s tb L M := by
    unfold rdC at hc
    split at hc
    · split at hc
      · split at hc
        · split at hc
          · exact ⟨by assumption, by assumption, by assumption, by assumption⟩
          · omega
        · omega
      · omega
    · omega
  obtain ⟨hv, h1, hg, L, M, hr⟩ := hE
  obtain ⟨_, e1, e2⟩ := rd_0 hv h1 hg hr
  obtain ⟨_, _, _, _, hb, hi⟩ := hr
  rw [e1, e2]
  exact ⟨hb, hi⟩
end Go.Proofs.Ytapocfgajkkpdaa
