/-
  Contracts: the text of steps, by both sides; the walk of the law.
-/
import Derived.Test.YtdcdjocjlicplaaDoorStepX
import Derived.Test.YtdcdjocjlicplaaDoorStepV
namespace Go.Proofs.YtdcdjocjlicplaaDoor
open Go.ChangeShapes Go.WideShapes Go.ChangeAt Go.RowKit Go.Joins

/-! ### Plain facts -/
def txA (p : Int) (a : Stp) : List UInt8 := stTxt p a.f a.t a.d a.x
def txB (p : Int) (a : Stp) : ByteArray := stB p a.f a.t a.d a.x
def okA (p s : Int) (a : Stp) : Bool := plS p s a.f a.t a.d a.x
def jn (p : Int) (L : List Stp) (j : Nat) : ByteArray := ⟨(Lib.join ((L.take j).map (txA p)) [32]).toArray⟩
/-- The text that both functions answer. -/
def stepsTx (p c h s : Int) (L : List Stp) : ByteArray :=
  if vOk p c h s = true ∧ L.length ≤ 4 then (if L.length = 0 then ⟨#[45]⟩ else if L.all (okA p s) = true then jn p L L.length else ⟨#[]⟩) else ⟨#[]⟩
theorem dec_le2 {p : Int} (h : 0 ≤ p) (h2 : p < 100) : (dec p).length ≤ 2 := by
  rw [dec_eq h h2, decT]
  split <;> simp
theorem txA_len {p s : Int} {a : Stp} (hp : p ≤ 24) (hs : s ≤ 6) (h : okA p s a = true) : (txA p a).length ≤ 11 := by
  obtain ⟨b1, b2, b3⟩ := plS_yes h
  have df : (fromT p a.f).length ≤ 3 := by
    unfold fromT
    split
    · have := dec_le2 (p := a.f + 1) (by omega) (by omega); omega
    · simp
  have dt : (toT a.f a.t a.d a.x).length ≤ 7 := by
    unfold toT
    split
    · have := dec_le2 (p := a.t + 1) (by omega) (by omega)
      split
      · rw [List.length_append]; simp; omega
      · omega
    · split
      · simp
      · have := dec_le2 (p := a.d) (by omega) (by omega)
        simp only [List.length_append, List.length_cons, List.length_nil]
        omega
  rw [txA, stTxt, List.length_append, List.length_cons]
  omega
theorem txB_size {p s : Int} {a : Stp} (hp : p ≤ 24) (hs : s ≤ 6) (h : okA p s a = true) : (txB p a).size ≤ 11 := by
  have e : (txB p a).size = (txA p a).length := List.size_toArray ..
  rw [e]
  exact txA_len hp hs h
theorem join_snoc {xs : List (List UInt8)} (hx : xs ≠ []) (y sep : List UInt8) : Lib.join (xs ++ [y]) sep = Lib.join xs sep ++ sep ++ y := by
  cases xs with
  | nil => exact absurd rfl hx
  | cons x r =>
    rw [List.cons_append, Lib.join_cons, Lib.join_cons]
    simp [Lib.joinTail, List.append_assoc]
theorem jn_len {p s : Int} (hp : p ≤ 24) (hs : s ≤ 6) : ∀ (M : List Stp), M.all (okA p s) = true → (Lib.join (M.map (txA p)) [32]).length ≤ 12 * M.length
  | [], _ => by simp [Lib.join_nil]
  | a :: r, h => by
    rw [List.map_cons, Lib.join_length]
    have hl : ∀ M : List Stp, M.all (okA p s) = true → Lib.lens (M.map (txA p)) ≤ 11 * M.length := by
      intro M
      induction M with
      | nil => intro _; simp [Lib.lens]
      | cons b m ih =>
        intro hb
        rw [List.all_cons, Bool.and_eq_true] at hb
        have h1 := txA_len hp hs hb.1
        have h2 := ih hb.2
        simp only [Lib.lens, List.map_cons, List.sum_cons, List.length_cons] at h2 ⊢
        omega
    have := hl (a :: r) h
    simp only [List.map_cons, List.length_cons, List.length_map, List.length_nil] at this ⊢
    omega
theorem jn_size {p s : Int} {L : List Stp} {j : Nat} (hp : p ≤ 24) (hs : s ≤ 6) (hj : j ≤ 4) (h : (L.take j).all (okA p s) = true) : (jn p L j).size ≤ 48 := by
  have e : (jn p L j).size = (Lib.join ((L.take j).map (txA p)) [32]).length := List.size_toArray ..
  have h1 := jn_len hp hs _ h
  have h2 : (L.take j).length ≤ 4 := by rw [List.length_take]; omega
  rw [e]
  omega
theorem jn_zero (p : Int) (L : List Stp) : jn p L 0 = ⟨#[]⟩ := by simp [jn, Lib.join_nil]
theorem jn_one {p : Int} {L : List Stp} {a : Stp} (h : L[0]? = some a) : jn p L 1 = ⟨#[]⟩ ++ txB p a := by
  have e : L.take 1 = [a] := by rw [List.take_add_one, h]; rfl
  rw [jn, e, List.map_singleton, Lib.join_one]
  exact (ByteArray.mk_append_mk [] (txA p a)).symm
theorem jn_next {p : Int} {L : List Stp} {j : Nat} {a : Stp} (h : L[j]? = some a) (hj : 0 < j) : jn p L (j + 1) = jn p L j ++ ⟨#[32]⟩ ++ txB p a := by
  have hl := (List.getElem?_eq_some_iff.1 h).1
  have hne : (L.take j).map (txA p) ≠ [] := by
    intro e
    have := congrArg List.length e
    rw [List.length_map, List.length_take, List.length_nil] at this
    omega
  rw [jn, List.take_add_one, h, Option.toList_some, List.map_append, List.map_singleton, join_snoc hne]
  rw [jn, txB, stB]
  show _ = (⟨_⟩ ++ ⟨[32].toArray⟩) ++ (⟨_⟩ : ByteArray)
  rw [ByteArray.mk_append_mk, ByteArray.mk_append_mk]
  rfl
theorem all_next {p s : Int} {L : List Stp} {j : Nat} {a : Stp} (h : L[j]? = some a) (h1 : (L.take j).all (okA p s) = true) (h2 : okA p s a = true) : (L.take (j + 1)).all (okA p s) = true := by
  rw [List.take_add_one, h, Option.toList_some, List.all_append, h1, List.all_cons, h2]
  rfl
theorem all_bad {p s : Int} {L : List Stp} {j : Nat} {a : Stp} (h : L[j]? = some a) (h2 : okA p s a = false) : L.all (okA p s) = false := by
  rw [List.all_eq_false]
  exact ⟨a, List.mem_of_getElem? h, by rw [h2]; decide⟩
theorem Blk.xset {w : World} {g : Nat} {t : TypeId} {cs cs' : Array Value} (h : Blk w g t cs) (i : Nat) (v : Value) (e : cs.setIfInBounds i v = cs') : Blk (w.setCell ⟨g, i, none⟩ v) g t cs' := e ▸ heap_setCell_same w g i cs t v h
theorem Blk.xoff {w : World} {g : Nat} {t : TypeId} {cs : Array Value} (h : Blk w g t cs) {p : Addr} (v : Value) (hp : g ≠ p.block) : Blk (w.setCell p v) g t cs := (heap_setCell_other w p g v hp).trans h
set_option maxHeartbeats 4000000 in
set_option maxRecDepth 100000 in
theorem stepsText_main (p c h s : Int) (A : Option Addr) (n k : Nat) (L : List Stp) (w : World) (hx : RdS w A n L) (hv : vOk p c h s = true) (h4 : n ≤ 4) (h0 : 0 < n) (T : ByteArray) (HT : Hid (T = if L.all (okA p s) = true then jn p L L.length else ⟨#[]⟩)) :
    Calls Tryd.prog 20 #[.agg #[.int .i64 p, .int .i64 c, .int .i64 h, .int .i64 s], .slice A n k] w fun e w' => e = .returned (.string T) ∧ Past w w' := by
  have hb := vOk_yes hv
  have hp24 : p ≤ 24 := by omega
  have hs6 : s ≤ 6 := by omega
  have z0 : ((n : Int) == 0) = false := by rw [beq_eq_false_iff_ne]; omega
  have z4 : ¬ (4 : Int) < (n : Int) := by omega
  have HL := Lib.hid hx.1
  clear hb
  obtain ⟨w0, hw0⟩ : ∃ w0 : World, w0 = w.alloc (.cells #[.int .i64 p, .int .i64 c, .int .i64 h, .int .i64 s] 25) := ⟨_, rfl⟩
  have hp0 : Past w w0 := by rw [hw0]; exact (by repeat (first | exact Past.refl _ | assumption | refine Past.alloc ?_ _ | refine Past.drew ?_ | refine Past.drewN ?_ _ | refine Past.setCell ?_ (by first | (simp; done) | (simp <;> omega)) _ | refine Past.trans ?_ (past_over _ _) | refine Past.trans ?_ (by assumption)))
  have hV0 : Blk w0 w.heap.size 25 #[.int .i64 p, .int .i64 c, .int .i64 h, .int .i64 s] := by rw [hw0]; exact Blk.new w _ _
  have e0 : w0.cell? ⟨w.heap.size, 0, none⟩ = some (.int .i64 p) := hV0.cell 0 rfl
  have e1 : w0.cell? ⟨w.heap.size, 1, none⟩ = some (.int .i64 c) := hV0.cell 1 rfl
  have e2 : w0.cell? ⟨w.heap.size, 2, none⟩ = some (.int .i64 h) := hV0.cell 2 rfl
  have e3 : w0.cell? ⟨w.heap.size, 3, none⟩ = some (.int .i64 s) := hV0.cell 3 rfl
  have hmk := run_make_row' (P := Tryd.prog) 66 9 (.string ByteArray.empty) 16 Tryd.underlying66 infoStr rfl .i64 .i64 n (by omega) (by omega)
  obtain ⟨D, hD⟩ : ∃ D, D = L.map (txB p) := ⟨_, rfl⟩
  have hDl : D.length = n := by rw [hD, List.length_map, hx.1]
  have HD := Lib.hid hD
  have HDl := Lib.hid hDl
  clear hD hDl
  go_enter Tryd.func20, Tryd.ntmps20
  go_upto_region 1 with fail
  rw [← hw0]
  clear hw0
  go_wp2_with fail
  (with_reducible refine (isVar_any _ _ _ _ _).mono ?_)
  rintro e wi ⟨rfl, hbi⟩
  rw [hv]
  have hpi := hp0.trans hbi
  have hVi := hV0.past hbi
  clear e0 e1 e2 e3 hV0 hp0 hbi
  go_upto_region 6 with fail
  obtain ⟨wm, hwm⟩ : ∃ y, y = wi.alloc (.cells (madeCells #[.string ByteArray.empty] n) 9) := ⟨_, rfl⟩
  (try rw [← hwm])
  have hW0 : Blk wm wi.heap.size 9 (Lib.cellsOf (D.take 0) n) := by rw [hwm, List.take_zero, Lib.cellsOf_nil]; exact Blk.new _ _ _
  have hpm0 : Past wi wm := by rw [hwm]; exact (Past.refl wi).alloc _
  have hpm := hpi.trans hpm0
  have hVm := hVi.past hpm0
  have hgw : w.heap.size < wi.heap.size := hVi.lt
  obtain ⟨gW, hgW⟩ : ∃ y, y = wi.heap.size := ⟨_, rfl⟩
  rw [← hgW] at hW0 hgw ⊢
  clear hwm hmk hgW hVi hpm0 hpi
  go_wp2_with fail
  go_loopw [24] (fun i wr => ∃ j : Nat, j ≤ n ∧ i = .int .i64 (j : Int) ∧ Blk wr gW 9 (Lib.cellsOf (D.take j) n) ∧ Blk wr w.heap.size 25 #[.int .i64 p, .int .i64 c, .int .i64 h, .int .i64 s] ∧ Past w wr ∧ Hid ((L.take j).all (okA p s) = true)) (fun i _ => n - (intOf i).toNat)
  case atStart => exact ⟨0, Nat.zero_le _, rfl, hW0, hVm, hpm, Lib.hid rfl⟩
  case round =>
    clear hW0 hVm hpm
    obtain ⟨j, hj, rfl, hW, hV, hp, HA⟩ := hrel
    have bW := hW.lt
    by_cases hlt : j < n
    · have k0 : (0 : Int) ≤ (j : Int) := by omega
      have k1 : (j : Int) < (n : Int) := by omega
      obtain ⟨b, o, a, rfl, haj, c0, c1, c2, c3⟩ := (hx.past hp).at_ hlt
      have e0 : wr.cell? ⟨w.heap.size, 0, none⟩ = some (.int .i64 p) := hV.cell 0 rfl
      have e1 : wr.cell? ⟨w.heap.size, 1, none⟩ = some (.int .i64 c) := hV.cell 1 rfl
      have e2 : wr.cell? ⟨w.heap.size, 2, none⟩ = some (.int .i64 h) := hV.cell 2 rfl
      have e3 : wr.cell? ⟨w.heap.size, 3, none⟩ = some (.int .i64 s) := hV.cell 3 rfl
      have bV := hV.lt
      have hlj : (D.take j).length = j := by rw [List.length_take]; have := HDl.out; omega
      have hnext : (Lib.cellsOf (D.take j) n)[j]? = some (.string ByteArray.empty) := by
        have := Lib.cellsOf_next (done := D.take j) (N := n) (by omega)
        rw [hlj] at this
        exact this
      have hset : (Lib.cellsOf (D.take j) n).setIfInBounds j (.string (txB p a)) = Lib.cellsOf (D.take (j + 1)) n := by
        have := Lib.cellsOf_set (done := D.take j) (N := n) (by omega) (txB p a)
        rw [hlj] at this
        rw [this, List.take_add_one, HD.out, List.getElem?_map, haj]
        rfl
      have d0 : wr.cell? ⟨gW, j, none⟩ = some (.string ByteArray.empty) := hW.cell j hnext
      have df := hW.free j
      have HS := Lib.hid hset
      have HP := Lib.hid (fun w => plainStep_any p c h s a.f a.t a.d a.x w hp24 hs6)
      cases hpl : plS p s a.f a.t a.d a.x
      · obtain rfl : T = ⟨#[]⟩ := by rw [HT.out, all_bad haj hpl]; rfl
        rw [hpl] at HP
        clear hset hnext hlj haj hpl
        go_wp2_with (go_at_call 44; (with_reducible refine (HP.out _).mono ?_); rintro e w2 ⟨rfl, hb2⟩; obtain ⟨hc2, hf2, _⟩ := hb2.cells; have hz2_0 : w.heap.size < w2.heap.size := Past.lt hb2 (by first | omega | (simp <;> omega)); have hz2_1 : gW < w2.heap.size := Past.lt hb2 (by first | omega | (simp <;> omega)))
        go_ret
        exact ⟨rfl, (by repeat (first | exact Past.refl _ | assumption | refine Past.alloc ?_ _ | refine Past.drew ?_ | refine Past.drewN ?_ _ | refine Past.setCell ?_ (by first | (simp; done) | (simp <;> omega)) _ | refine Past.trans ?_ (past_over _ _) | refine Past.trans ?_ (by assumption)))⟩
      · have HX := Lib.hid (fun w => stepText_any p c h s a.f a.t a.d a.x w hp24 hs6 hpl)
        have HN := Lib.hid (all_next haj HA.out hpl)
        have hTB : stB p a.f a.t a.d a.x = txB p a := rfl
        rw [hpl] at HP
        rw [hTB] at HX
        clear hset hnext hlj haj hpl hTB
        go_wp2_with (first | (go_at_call 44; (with_reducible refine (HP.out _).mono ?_); rintro e w2 ⟨rfl, hb2⟩; obtain ⟨hc2, hf2, _⟩ := hb2.cells; have hz2_0 : w.heap.size < w2.heap.size := Past.lt hb2 (by first | omega | (simp <;> omega)); have hz2_1 : wr.heap.size < w2.heap.size := Past.lt hb2 (by first | omega | (simp <;> omega)); have hz2_2 : gW < w2.heap.size := Past.lt hb2 (by first | omega | (simp <;> omega))) | (go_at_call 45; (with_reducible refine (HX.out _).mono ?_); rintro e w3 ⟨rfl, hb3⟩; obtain ⟨hc3, hf3, _⟩ := hb3.cells; have hz3_0 : w.heap.size < w3.heap.size := Past.lt hb3 (by first | omega | (simp <;> omega)); have hz3_1 : gW < w3.heap.size := Past.lt hb3 (by first | omega | (simp <;> omega))))
        go_roundw
        case rel => exact ⟨j + 1, by omega, by go_num, (((hW.past ((Past.refl _).alloc _)).past hb2).past hb3).xset j _ HS.out, (((hV.past ((Past.refl _).alloc _)).past hb2).past hb3).xoff _ (by simp only; omega), ((((hp.alloc _).trans hb2).trans hb3).setCell (p := ⟨gW, j, none⟩) (by simp only; omega) _), HN⟩
        case measure => simp [intOf]; omega
    · obtain rfl : j = n := by omega
      have hall : L.all (okA p s) = true := by
        have := HA.out
        rwa [List.take_of_length_le (by have := HL.out; omega)] at this
      have hDD := HDl.out
      rw [List.take_of_length_le (by omega)] at hW
      have hfull : Lib.cellsOf D j = (D.map Value.string).toArray := by rw [← hDD]; exact Lib.cellsOf_full _
      rw [hfull] at hW
      have e : D.map (·.data.toList) = L.map (txA p) := by rw [HD.out, List.map_map]; rfl
      have hjn := Tryd.strings_Join gW 0 j D ⟨#[32]⟩ wr (fun i y hi => by
        rw [Nat.zero_add]
        exact hW.cell i (by simp [hi])) bW (by omega) (by omega) (by
        rw [e]
        have := jn_len hp24 hs6 L hall
        have := HL.out
        show (Lib.join (L.map (txA p)) [32]).length ≤ _
        omega)
      rw [hDD, e] at hjn
      have hTT : T = ⟨(Lib.join (L.map (txA p)) [32]).toArray⟩ := by rw [HT.out, if_pos hall, jn, List.take_of_length_le (Nat.le_refl _)]
      have hjn2 : Calls Tryd.prog 46 #[.slice (some ⟨gW, 0, none⟩) j j, .string ⟨#[32]⟩] wr fun e w' => e = .returned (.string T) ∧ Below wr.heap.size wr w' := by rw [hTT]; exact hjn
      have HJ := Lib.hid hjn2
      clear hjn hjn2 hTT hfull e hDD hall HD HDl
      go_wp2_with (go_at_call 46; (with_reducible refine (HJ.out).mono ?_); rintro e w2 ⟨rfl, hb2⟩)
      go_ret
      exact ⟨rfl, hp.trans hb2⟩
set_option maxHeartbeats 4000000 in
set_option maxRecDepth 100000 in
theorem sStepsText_main (p c h s : Int) (A : Option Addr) (n k : Nat) (L : List Stp) (w : World) (hx : RdS w A n L) (hv : vOk p c h s = true) (h4 : n ≤ 4) (h0 : 0 < n) (T : ByteArray) (HT : Hid (T = if L.all (okA p s) = true then jn p L L.length else ⟨#[]⟩)) :
    Calls Tryd.prog 18 #[.agg #[.int .i64 p, .int .i64 c, .int .i64 h, .int .i64 s], .slice A n k] w fun e w' => e = .returned (.string T) ∧ Past w w' := by
  have hb := vOk_yes hv
  have hp24 : p ≤ 24 := by omega
  have hs6 : s ≤ 6 := by omega
  have z0 : ((n : Int) == 0) = false := by rw [beq_eq_false_iff_ne]; omega
  have z4 : ¬ (4 : Int) < (n : Int) := by omega
  have HL := Lib.hid hx.1
  clear hb
  obtain ⟨w0, hw0⟩ : ∃ w0 : World, w0 = w.alloc (.cells #[.int .i64 p, .int .i64 c, .int .i64 h, .int .i64 s] 25) := ⟨_, rfl⟩
  have hp0 : Past w w0 := by rw [hw0]; exact (by repeat (first | exact Past.refl _ | assumption | refine Past.alloc ?_ _ | refine Past.drew ?_ | refine Past.drewN ?_ _ | refine Past.setCell ?_ (by first | (simp; done) | (simp <;> omega)) _ | refine Past.trans ?_ (past_over _ _) | refine Past.trans ?_ (by assumption)))
  have hV0 : Blk w0 w.heap.size 25 #[.int .i64 p, .int .i64 c, .int .i64 h, .int .i64 s] := by rw [hw0]; exact Blk.new w _ _
  have e0 : w0.cell? ⟨w.heap.size, 0, none⟩ = some (.int .i64 p) := hV0.cell 0 rfl
  have e1 : w0.cell? ⟨w.heap.size, 1, none⟩ = some (.int .i64 c) := hV0.cell 1 rfl
  have e2 : w0.cell? ⟨w.heap.size, 2, none⟩ = some (.int .i64 h) := hV0.cell 2 rfl
  have e3 : w0.cell? ⟨w.heap.size, 3, none⟩ = some (.int .i64 s) := hV0.cell 3 rfl
  go_enter Tryd.func18, Tryd.ntmps18
  go_upto_region 1 with fail
  rw [← hw0]
  clear hw0
  go_wp2_with fail
  (with_reducible refine (sIsVar_any _ _ _ _ _).mono ?_)
  rintro e wi ⟨rfl, hbi⟩
  rw [hv]
  have hpi := hp0.trans hbi
  have hVi := hV0.past hbi
  clear e0 e1 e2 e3 hV0 hp0 hbi
  have hji := jn_zero p L
  go_wp2_with fail
  go_loopw [5, 6] (fun v i wr => ∃ j : Nat, j ≤ n ∧ i = .int .i64 (j : Int) ∧ v = .string (jn p L j) ∧ Blk wr w.heap.size 25 #[.int .i64 p, .int .i64 c, .int .i64 h, .int .i64 s] ∧ Past w wr ∧ Hid ((L.take j).all (okA p s) = true)) (fun _ i _ => n - (intOf i).toNat)
  case atStart => exact ⟨0, Nat.zero_le _, rfl, by rw [hji], hVi, hpi, Lib.hid rfl⟩
  case round =>
    clear hVi hpi hji
    obtain ⟨j, hj, rfl, rfl, hV, hp, HA⟩ := hrel
    by_cases hlt : j < n
    · have k0 : (0 : Int) ≤ (j : Int) := by omega
      have k1 : (j : Int) < (n : Int) := by omega
      obtain ⟨b, o, a, rfl, haj, c0, c1, c2, c3⟩ := (hx.past hp).at_ hlt
      have bb := World.block_lt_of_cell? wr _ c0
      simp only at bb
      have e0 : wr.cell? ⟨w.heap.size, 0, none⟩ = some (.int .i64 p) := hV.cell 0 rfl
      have e1 : wr.cell? ⟨w.heap.size, 1, none⟩ = some (.int .i64 c) := hV.cell 1 rfl
      have e2 : wr.cell? ⟨w.heap.size, 2, none⟩ = some (.int .i64 h) := hV.cell 2 rfl
      have e3 : wr.cell? ⟨w.heap.size, 3, none⟩ = some (.int .i64 s) := hV.cell 3 rfl
      have bV := hV.lt
      have HP := Lib.hid (fun w => l06Plain_any p c h s a.f a.t a.d a.x w hp24 hs6)
      cases hpl : plS p s a.f a.t a.d a.x
      · obtain rfl : T = ⟨#[]⟩ := by rw [HT.out, all_bad haj hpl]; rfl
        rw [hpl] at HP
        clear haj hpl
        go_upto_region 9 with fail
        refine wp_region_over (by kernel_rfl) (by kernel_rfl) ?_
        repeat (go_big_quiet_step ((first | (go_at_call 42; exact over_of (HP.out _)))))
        refine wpQuiet_nil ?_
        intro w1 hb1
        obtain ⟨hc1, hf1, _⟩ := hb1.cells
        go_wp2
        go_ret
        exact ⟨rfl, hp.trans hb1⟩
      · have HX := Lib.hid (fun w => l06Step_any p c h s a.f a.t a.d a.x w hp24 hs6 hpl)
        have HN := Lib.hid (all_next haj HA.out hpl)
        have hz1 := jn_size hp24 hs6 (by omega) HA.out
        have hz2 := txB_size hp24 hs6 hpl
        have hTB : stB p a.f a.t a.d a.x = txB p a := rfl
        rw [hpl] at HP
        rw [hTB] at HX
        clear hTB hpl
        by_cases hj0 : j = 0
        · have E := Lib.hid (show jn p L (j + 1) = ⟨#[]⟩ ++ txB p a by subst hj0; exact jn_one haj)
          have k2 : ¬ (0 : Int) < (j : Int) := by omega
          have ez : jn p L j = ⟨#[]⟩ := by rw [hj0, jn_zero]
          rw [ez]
          have ad := fun w => add_ok ⟨#[]⟩ (txB p a) w (by decide) (by omega)
          clear haj hz1 hz2 ez hj0
          go_upto_region 9 with fail
          refine wp_region_over (by kernel_rfl) (by kernel_rfl) ?_
          repeat (go_big_quiet_step ((first | (go_at_call 42; exact over_of (HP.out _)))))
          refine wpQuiet_nil ?_
          intro w1 hb1
          obtain ⟨hc1, hf1, _⟩ := hb1.cells
          have bV1 : w.heap.size < w1.heap.size := Past.lt hb1 bV
          have bb1 : b < w1.heap.size := Past.lt hb1 bb
          go_upto_region 13 with fail
          refine wp_region_over (by kernel_rfl) (by kernel_rfl) ?_
          repeat (go_big_quiet_step ((first | (go_at_call 43; exact over_of (HX.out _)))))
          refine wpQuiet_nil ?_
          intro w2 hb2
          obtain ⟨hc2, hf2, _⟩ := hb2.cells
          go_wp2
          go_roundw
          case rel => exact ⟨j + 1, by omega, by go_num, by rw [E.out], (hV.past hb1).past hb2, (hp.trans hb1).trans hb2, HN⟩
          case measure => simp [intOf]; omega
        · have E := Lib.hid (jn_next (p := p) haj (by omega))
          have k2 : (0 : Int) < (j : Int) := by omega
          have ad1 := fun w => add_ok (jn p L j) ⟨#[32]⟩ w (by omega) (by decide)
          have hs3 : (jn p L j ++ ⟨#[32]⟩).size ≤ 49 := by rw [ByteArray.size_append]; have : (⟨#[32]⟩ : ByteArray).size = 1 := rfl; omega
          have ad2 := fun w => add_ok (jn p L j ++ ⟨#[32]⟩) (txB p a) w (by omega) (by omega)
          clear haj hz1 hz2 hs3
          go_upto_region 9 with fail
          refine wp_region_over (by kernel_rfl) (by kernel_rfl) ?_
          repeat (go_big_quiet_step ((first | (go_at_call 42; exact over_of (HP.out _)))))
          refine wpQuiet_nil ?_
          intro w1 hb1
          obtain ⟨hc1, hf1, _⟩ := hb1.cells
          have bV1 : w.heap.size < w1.heap.size := Past.lt hb1 bV
          have bb1 : b < w1.heap.size := Past.lt hb1 bb
          go_upto_region 13 with fail
          refine wp_region_over (by kernel_rfl) (by kernel_rfl) ?_
          repeat (go_big_quiet_step ((first | (go_at_call 43; exact over_of (HX.out _)))))
          refine wpQuiet_nil ?_
          intro w2 hb2
          obtain ⟨hc2, hf2, _⟩ := hb2.cells
          go_wp2
          go_roundw
          case rel => exact ⟨j + 1, by omega, by go_num, by rw [E.out], (hV.past hb1).past hb2, (hp.trans hb1).trans hb2, HN⟩
          case measure => simp [intOf]; omega
    · obtain rfl : j = n := by omega
      have hall : L.all (okA p s) = true := by
        have := HA.out
        rwa [List.take_of_length_le (by have := HL.out; omega)] at this
      obtain rfl : T = jn p L j := by rw [HT.out, if_pos hall, HL.out]
      clear hall HT
      go_wp2
      go_ret
      exact ⟨rfl, hp⟩
set_option maxHeartbeats 1000000 in
set_option maxRecDepth 100000 in
theorem stepsText_any (p c h s : Int) (A : Option Addr) (n k : Nat) (L : List Stp) (w : World) (hx : RdS w A n L) (hn : n ≤ 1048576) :
    Calls Tryd.prog 20 #[.agg #[.int .i64 p, .int .i64 c, .int .i64 h, .int .i64 s], .slice A n k] w fun e w' => e = .returned (.string (stepsTx p c h s L)) ∧ Past w w' := by
  have hl := hx.1
  cases hv : vOk p c h s
  · rw [show stepsTx p c h s L = ⟨#[]⟩ from by simp [stepsTx, hv]]
    go_enter Tryd.func20, Tryd.ntmps20
    go_wp2_with (go_at_call 34; (with_reducible refine (isVar_any _ _ _ _ _).mono ?_); rintro e w1 ⟨rfl, hb1⟩; obtain ⟨hc1, hf1, _⟩ := hb1.cells; have hz1_0 : w.heap.size < w1.heap.size := Past.lt hb1 (by first | omega | (simp <;> omega)))
    go_ret
    exact ⟨rfl, (by repeat (first | exact Past.refl _ | assumption | refine Past.alloc ?_ _ | refine Past.drew ?_ | refine Past.drewN ?_ _ | refine Past.setCell ?_ (by first | (simp; done) | (simp <;> omega)) _ | refine Past.trans ?_ (past_over _ _) | refine Past.trans ?_ (by assumption)))⟩
  by_cases h4 : 4 < n
  · rw [show stepsTx p c h s L = ⟨#[]⟩ from by rw [stepsTx, if_neg (by omega)]]
    have z4 : (4 : Int) < (n : Int) := by omega
    clear h4
    go_enter Tryd.func20, Tryd.ntmps20
    go_wp2_with (go_at_call 34; (with_reducible refine (isVar_any _ _ _ _ _).mono ?_); rintro e w1 ⟨rfl, hb1⟩; obtain ⟨hc1, hf1, _⟩ := hb1.cells; have hz1_0 : w.heap.size < w1.heap.size := Past.lt hb1 (by first | omega | (simp <;> omega)))
    go_ret
    exact ⟨rfl, (by repeat (first | exact Past.refl _ | assumption | refine Past.alloc ?_ _ | refine Past.drew ?_ | refine Past.drewN ?_ _ | refine Past.setCell ?_ (by first | (simp; done) | (simp <;> omega)) _ | refine Past.trans ?_ (past_over _ _) | refine Past.trans ?_ (by assumption)))⟩
  by_cases h0 : n = 0
  · subst h0
    rw [show stepsTx p c h s L = ⟨#[45]⟩ from by rw [stepsTx, if_pos ⟨hv, by omega⟩, if_pos hl]]
    go_enter Tryd.func20, Tryd.ntmps20
    go_wp2_with (go_at_call 34; (with_reducible refine (isVar_any _ _ _ _ _).mono ?_); rintro e w1 ⟨rfl, hb1⟩; obtain ⟨hc1, hf1, _⟩ := hb1.cells; have hz1_0 : w.heap.size < w1.heap.size := Past.lt hb1 (by first | omega | (simp <;> omega)))
    go_ret
    exact ⟨rfl, (by repeat (first | exact Past.refl _ | assumption | refine Past.alloc ?_ _ | refine Past.drew ?_ | refine Past.drewN ?_ _ | refine Past.setCell ?_ (by first | (simp; done) | (simp <;> omega)) _ | refine Past.trans ?_ (past_over _ _) | refine Past.trans ?_ (by assumption)))⟩
  · exact stepsText_main p c h s A n k L w hx hv (by omega) (by omega) _ (Lib.hid (by rw [stepsTx, if_pos ⟨hv, by omega⟩, if_neg (by omega)]))
set_option maxHeartbeats 1000000 in
set_option maxRecDepth 100000 in
theorem sStepsText_any (p c h s : Int) (A : Option Addr) (n k : Nat) (L : List Stp) (w : World) (hx : RdS w A n L) (hn : n ≤ 1048576) :
    Calls Tryd.prog 18 #[.agg #[.int .i64 p, .int .i64 c, .int .i64 h, .int .i64 s], .slice A n k] w fun e w' => e = .returned (.string (stepsTx p c h s L)) ∧ Past w w' := by
  have hl := hx.1
  cases hv : vOk p c h s
  · rw [show stepsTx p c h s L = ⟨#[]⟩ from by simp [stepsTx, hv]]
    go_enter Tryd.func18, Tryd.ntmps18
    go_wp2_with (go_at_call 39; (with_reducible refine (sIsVar_any _ _ _ _ _).mono ?_); rintro e w1 ⟨rfl, hb1⟩; obtain ⟨hc1, hf1, _⟩ := hb1.cells; have hz1_0 : w.heap.size < w1.heap.size := Past.lt hb1 (by first | omega | (simp <;> omega)))
    go_ret
    exact ⟨rfl, (by repeat (first | exact Past.refl _ | assumption | refine Past.alloc ?_ _ | refine Past.drew ?_ | refine Past.drewN ?_ _ | refine Past.setCell ?_ (by first | (simp; done) | (simp <;> omega)) _ | refine Past.trans ?_ (past_over _ _) | refine Past.trans ?_ (by assumption)))⟩
  by_cases h4 : 4 < n
  · rw [show stepsTx p c h s L = ⟨#[]⟩ from by rw [stepsTx, if_neg (by omega)]]
    have z4 : (4 : Int) < (n : Int) := by omega
    clear h4
    go_enter Tryd.func18, Tryd.ntmps18
    go_wp2_with (go_at_call 39; (with_reducible refine (sIsVar_any _ _ _ _ _).mono ?_); rintro e w1 ⟨rfl, hb1⟩; obtain ⟨hc1, hf1, _⟩ := hb1.cells; have hz1_0 : w.heap.size < w1.heap.size := Past.lt hb1 (by first | omega | (simp <;> omega)))
    go_ret
    exact ⟨rfl, (by repeat (first | exact Past.refl _ | assumption | refine Past.alloc ?_ _ | refine Past.drew ?_ | refine Past.drewN ?_ _ | refine Past.setCell ?_ (by first | (simp; done) | (simp <;> omega)) _ | refine Past.trans ?_ (past_over _ _) | refine Past.trans ?_ (by assumption)))⟩
  by_cases h0 : n = 0
  · subst h0
    rw [show stepsTx p c h s L = ⟨#[45]⟩ from by rw [stepsTx, if_pos ⟨hv, by omega⟩, if_pos hl]]
    go_enter Tryd.func18, Tryd.ntmps18
    go_wp2_with (go_at_call 39; (with_reducible refine (sIsVar_any _ _ _ _ _).mono ?_); rintro e w1 ⟨rfl, hb1⟩; obtain ⟨hc1, hf1, _⟩ := hb1.cells; have hz1_0 : w.heap.size < w1.heap.size := Past.lt hb1 (by first | omega | (simp <;> omega)))
    go_ret
    exact ⟨rfl, (by repeat (first | exact Past.refl _ | assumption | refine Past.alloc ?_ _ | refine Past.drew ?_ | refine Past.drewN ?_ _ | refine Past.setCell ?_ (by first | (simp; done) | (simp <;> omega)) _ | refine Past.trans ?_ (past_over _ _) | refine Past.trans ?_ (by assumption)))⟩
  · exact sStepsText_main p c h s A n k L w hx hv (by omega) (by omega) _ (Lib.hid (by rw [stepsTx, if_pos ⟨hv, by omega⟩, if_neg (by omega)]))
set_option maxHeartbeats 2000000 in
set_option maxRecDepth 100000 in
theorem FnExactStepsText.walk (w : World) (p c h s : Int) (_ : I64 p) (_ : I64 c) (_ : I64 h) (_ : I64 s) (A : Option Addr) (n k : Nat) (L : List Stp) (hx : RdS w A n L ∧ n ≤ maxLen) :
    Calls Tryd.prog 5 #[.agg #[.int .i64 p, .int .i64 c, .int .i64 h, .int .i64 s], .slice A n k] w fun e w' => e = .returned (.bool true) ∧ Past w w' := by
  obtain ⟨hx, bn⟩ := hx
  unfold maxLen at bn
  have hsz := fun w => szSteps A n k 1048576 w (by omega) (by omega) (by omega)
  by_cases hbig : 1048576 < n
  · rw [if_neg (by omega)] at hsz
    have HZ := Lib.hid hsz
    clear hsz hbig
    go_enter Tryd.func5, Tryd.ntmps5
    go_wp2_with (go_at_call 17; (with_reducible refine (HZ.out _).mono ?_); rintro e w9 ⟨rfl, rfl⟩)
    go_ret
    exact ⟨rfl, (by repeat (first | exact Past.refl _ | assumption | refine Past.alloc ?_ _ | refine Past.drew ?_ | refine Past.drewN ?_ _ | refine Past.setCell ?_ (by first | (simp; done) | (simp <;> omega)) _ | refine Past.trans ?_ (past_over _ _) | refine Past.trans ?_ (by assumption)))⟩
  have hn : n ≤ 1048576 := by omega
  rw [if_pos (by omega)] at hsz
  have HZ := Lib.hid hsz
  have k1 : ¬ (1048576 : Int) - (n : Int) < 0 := by omega
  obtain ⟨w0, hw0⟩ : ∃ w0 : World, w0 = w.alloc (.cells #[.int .i64 p, .int .i64 c, .int .i64 h, .int .i64 s] 23) := ⟨_, rfl⟩
  have hp0 : Past w w0 := by rw [hw0]; exact (by repeat (first | exact Past.refl _ | assumption | refine Past.alloc ?_ _ | refine Past.drew ?_ | refine Past.drewN ?_ _ | refine Past.setCell ?_ (by first | (simp; done) | (simp <;> omega)) _ | refine Past.trans ?_ (past_over _ _) | refine Past.trans ?_ (by assumption)))
  have hV : Blk w0 w.heap.size 23 #[.int .i64 p, .int .i64 c, .int .i64 h, .int .i64 s] := by rw [hw0]; exact Blk.new w _ _
  have q0 : w0.cell? ⟨w.heap.size, 0, none⟩ = some (.int .i64 p) := hV.cell 0 rfl
  have q1 : w0.cell? ⟨w.heap.size, 1, none⟩ = some (.int .i64 c) := hV.cell 1 rfl
  have q2 : w0.cell? ⟨w.heap.size, 2, none⟩ = some (.int .i64 h) := hV.cell 2 rfl
  have q3 : w0.cell? ⟨w.heap.size, 3, none⟩ = some (.int .i64 s) := hV.cell 3 rfl
  clear hsz hbig bn hV
  go_enter Tryd.func5, Tryd.ntmps5
  go_upto_region 1 with fail
  rw [← hw0]
  clear hw0
  go_wp2_with (go_at_call 17; (with_reducible refine (HZ.out _).mono ?_); rintro e w9 ⟨rfl, rfl⟩)
  (with_reducible refine (toVar_any _ _ _ _ _).mono ?_)
  rintro e w1 ⟨rfl, hb⟩
  have hp1 := hp0.trans hb
  replace q0 := hb.keep q0; replace q1 := hb.keep q1; replace q2 := hb.keep q2; replace q3 := hb.keep q3
  go_wp2_with fail
  (with_reducible refine (toSteps _ _ _ _ _ (hx.past hp1) hn).mono ?_)
  rintro e w2 ⟨ga, rfl, hoa, hb⟩
  have hp2 := hp1.trans hb
  replace q0 := hb.keep q0; replace q1 := hb.keep q1; replace q2 := hb.keep q2; replace q3 := hb.keep q3
  go_wp2_with fail
  (with_reducible refine (sStepsText_any _ _ _ _ _ _ _ _ _ hoa.rd hn).mono ?_)
  rintro e w3 ⟨rfl, hb⟩
  have hp3 := hp2.trans hb
  replace q0 := hb.keep q0; replace q1 := hb.keep q1; replace q2 := hb.keep q2; replace q3 := hb.keep q3
  go_wp2_with fail
  (with_reducible refine (toSteps _ _ _ _ _ (hx.past hp3) hn).mono ?_)
  rintro e w4 ⟨gb, rfl, hob, hb⟩
  have hp4 := hp3.trans hb
  replace q0 := hb.keep q0; replace q1 := hb.keep q1; replace q2 := hb.keep q2; replace q3 := hb.keep q3
  go_wp2_with fail
  (with_reducible refine (toVar_any _ _ _ _ _).mono ?_)
  rintro e w5 ⟨rfl, hb⟩
  have hp5 := hp4.trans hb
  have hob5 : OwS w3.heap.size w5 (some ⟨gb, 0, none⟩) n n L := OwE.past hob hb
  go_wp2_with fail
  (with_reducible refine (stepsText_any _ _ _ _ _ _ _ _ _ (OwS.rd hob5) hn).mono ?_)
  rintro e w6 ⟨rfl, hb6⟩
  have hp6 := hp5.trans hb6
  have hob6 : OwS w3.heap.size w6 (some ⟨gb, 0, none⟩) n n L := OwE.past hob5 hb6
  go_wp2_with fail
  (with_reducible refine (toSteps _ _ _ _ _ (hx.past hp6) hn).mono ?_)
  rintro e w7 ⟨gc, rfl, hoc, hb7⟩
  have hp7 := hp6.trans hb7
  have hob7 : OwS w3.heap.size w7 (some ⟨gb, 0, none⟩) n n L := OwE.past hob6 hb7
  go_wp2_with fail
  (with_reducible refine (eqSteps _ _ _ _ _ _ _ _ _ hob7 hoc hn).mono ?_)
  rintro e w8 ⟨rfl, hb8⟩
  go_wp2_with fail
  go_ret
  exact ⟨rfl, hp7.trans hb8⟩
end Go.Proofs.YtdcdjocjlicplaaDoor
