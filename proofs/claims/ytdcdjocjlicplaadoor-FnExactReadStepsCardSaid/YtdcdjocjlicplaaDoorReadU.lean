/-
  Contracts: the steps read of a text, by both sides.
-/
import Derived.Test.YtdcdjocjlicplaaDoorReadT
import Derived.Test.YtdcdjocjlicplaaDoorMarkS
namespace Go.Proofs.YtdcdjocjlicplaaDoor
open Go.ChangeShapes Go.WideShapes Go.ChangeAt Go.RowKit Go.Joins

/-! ### Plain facts -/
def allF {E : Type} (f : List UInt8 → Option E) : List (List UInt8) → Option (List E)
  | [] => some []
  | x :: r => match f x with
    | some v => (allF f r).map (v :: ·)
    | none => none
section
variable {E : Type} {f : List UInt8 → Option E}
theorem allF_snoc (xs : List (List UInt8)) (x : List UInt8) : allF f (xs ++ [x]) = match allF f xs, f x with
    | some K, some v => some (K ++ [v])
    | _, _ => none := by
  induction xs with
  | nil =>
    rw [List.nil_append]
    cases h : f x <;> simp [allF, h]
  | cons y r ih =>
    rw [List.cons_append, allF, ih, allF]
    cases f y with
    | none => rfl
    | some u =>
      cases allF f r with
      | none => rfl
      | some K => cases f x <;> simp
theorem allF_app_none {xs ys : List (List UInt8)} (h : allF f xs = none) : allF f (xs ++ ys) = none := by
  induction xs with
  | nil => cases h
  | cons y r ih =>
    rw [List.cons_append, allF]
    unfold allF at h
    cases hy : f y with
    | none => rfl
    | some u =>
      rw [hy] at h
      simp only [Option.map_eq_none_iff] at h
      simp [ih h]
theorem allF_len {xs : List (List UInt8)} {K : List E} (h : allF f xs = some K) : K.length = xs.length := by
  induction xs generalizing K with
  | nil => cases h; rfl
  | cons y r ih =>
    unfold allF at h
    cases hy : f y with
    | none => rw [hy] at h; cases h
    | some u =>
      rw [hy] at h
      simp only [Option.map_eq_some_iff] at h
      obtain ⟨K', h1, rfl⟩ := h
      simp [ih h1]
def upF (f : List UInt8 → Option E) (L : List ByteArray) (j : Nat) : Option (List E) := allF f ((L.take j).map (·.data.toList))
theorem upF_next {L : List ByteArray} {j : Nat} {x : ByteArray} (h : L[j]? = some x) {K : List E} {v : E} (hk : upF f L j = some K) (hv : f x.data.toList = some v) : upF f L (j + 1) = some (K ++ [v]) := by
  unfold upF at hk ⊢
  rw [List.take_add_one, h, Option.toList_some, List.map_append, List.map_singleton, allF_snoc, hk, hv]
theorem upF_none {L : List ByteArray} {j : Nat} {x : ByteArray} (h : L[j]? = some x) {K : List E} (hk : upF f L j = some K) (hv : f x.data.toList = none) : allF f (L.map (·.data.toList)) = none := by
  have h1 : upF f L (j + 1) = none := by
    unfold upF at hk ⊢
    rw [List.take_add_one, h, Option.toList_some, List.map_append, List.map_singleton, allF_snoc, hk, hv]
  have h2 := allF_app_none (ys := (L.drop (j + 1)).map (·.data.toList)) h1
  rwa [← List.map_append, List.take_append_drop] at h2
theorem upF_all {L : List ByteArray} {n : Nat} (h : L.length = n) : upF f L n = allF f (L.map (·.data.toList)) := by
  unfold upF
  rw [List.take_of_length_le (by omega)]
theorem upF_len {L : List ByteArray} {j : Nat} (hj : j ≤ L.length) {K : List E} (h : upF f L j = some K) : K.length = j := by
  have := allF_len h
  rw [List.length_map, List.length_take] at this
  omega
end
/-- What both functions read. -/
def stepsR (p s : Int) (l : List UInt8) : Option (List Stp) := if l = [45] then some [] else if 4 < (cutAt 32 l).length then none else allF (rdSt p s) (cutAt 32 l)
def stepsA (p c h s : Int) (l : List UInt8) : Option (List Stp) := if vOk p c h s = true then stepsR p s l else none
def StepsOk (w : World) (r : Option (List Stp)) (e : Ending) (w' : World) : Prop :=
  ∃ A k, e = .returned (.tuple #[.slice A (r.getD []).length k, .bool r.isSome]) ∧ OwS w.heap.size w' A (r.getD []).length k (r.getD []) ∧ Past w w'
theorem StepsOk.empty {w w1 : World} (r : Option (List Stp)) (hr : r.getD [] = []) (t : TypeId) (ht : t = 31) (hp : Past w w1) : StepsOk w r (.returned (.tuple #[.slice (some ⟨w1.heap.size, 0, none⟩) 0 0, .bool r.isSome])) (w1.alloc (.cells #[] t)) := by
  unfold StepsOk
  rw [hr]
  obtain ⟨A, k, hv, ho, hq⟩ := StepsIn.empty w1 t ht
  simp only [Value.slice.injEq] at hv
  obtain ⟨rfl, _, rfl⟩ := hv
  exact ⟨_, _, rfl, OwE.less ho hp.sz, hp.trans hq⟩
theorem StepsOk.nil {w w1 : World} (r : Option (List Stp)) (hr : r.getD [] = []) (hp : Past w w1) : StepsOk w r (.returned (.tuple #[.slice none 0 0, .bool r.isSome])) w1 := by
  unfold StepsOk
  rw [hr]
  exact ⟨none, 0, rfl, OwE.nil _ _ _ _ _, hp⟩
theorem cutB_count (b : UInt8) (s : ByteArray) : (cutB b s).length = (cutAt b s.data.toList).length := by rw [← cutB_data, List.length_map]
/-- The contract of a step's reading, its value's parts named. -/
theorem readSt_no (p c h s : Int) (hv : vOk p c h s = true) (x : ByteArray) (hz : x.size ≤ 1048576) (hr : rdSt p s x.data.toList = none) : ∀ w, Glob w →
    Calls Tryd.prog 51 #[.agg #[.int .i64 p, .int .i64 c, .int .i64 h, .int .i64 s], .string x] w fun e w' => e = .returned (.tuple #[.agg #[.int .i64 0, .int .i64 0, .int .i64 0, .bool false], .bool false]) ∧ Past w w' := fun w hg => by
  have := readSt_v p c h s x w hv hg hz
  rw [hr] at this
  exact this
theorem readSt_yes (p c h s : Int) (hv : vOk p c h s = true) (x : ByteArray) (hz : x.size ≤ 1048576) {f t d : Int} {y : Bool} (hr : rdSt p s x.data.toList = some ⟨f, t, d, y⟩) : ∀ w, Glob w →
    Calls Tryd.prog 51 #[.agg #[.int .i64 p, .int .i64 c, .int .i64 h, .int .i64 s], .string x] w fun e w' => e = .returned (.tuple #[.agg #[.int .i64 f, .int .i64 t, .int .i64 d, .bool y], .bool true]) ∧ Past w w' := fun w hg => by
  have := readSt_v p c h s x w hv hg hz
  rw [hr] at this
  exact this
theorem sReadSt_no (p c h s : Int) (hv : vOk p c h s = true) (x : ByteArray) (hz : x.size ≤ 1048576) (hr : rdSt p s x.data.toList = none) : ∀ w, Glob w →
    Calls Tryd.prog 50 #[.agg #[.int .i64 p, .int .i64 c, .int .i64 h, .int .i64 s], .string x] w fun e w' => e = .returned (.tuple #[.agg #[.int .i64 0, .int .i64 0, .int .i64 0, .bool false], .bool false]) ∧ Past w w' := fun w hg => by
  have := sReadSt_v p c h s x w hv hg hz
  rw [hr] at this
  exact this
theorem sReadSt_yes (p c h s : Int) (hv : vOk p c h s = true) (x : ByteArray) (hz : x.size ≤ 1048576) {f t d : Int} {y : Bool} (hr : rdSt p s x.data.toList = some ⟨f, t, d, y⟩) : ∀ w, Glob w →
    Calls Tryd.prog 50 #[.agg #[.int .i64 p, .int .i64 c, .int .i64 h, .int .i64 s], .string x] w fun e w' => e = .returned (.tuple #[.agg #[.int .i64 f, .int .i64 t, .int .i64 d, .bool y], .bool true]) ∧ Past w w' := fun w hg => by
  have := sReadSt_v p c h s x w hv hg hz
  rw [hr] at this
  exact this
set_option maxHeartbeats 4000000 in
set_option maxRecDepth 100000 in
theorem readSteps_any (p c h s : Int) (st : ByteArray) (w : World) (hg : Glob w) (hz : st.size ≤ 1048576) :
    Calls Tryd.prog 29 #[.agg #[.int .i64 p, .int .i64 c, .int .i64 h, .int .i64 s], .string st] w (StepsOk w (stepsA p c h s st.data.toList)) := by
  cases hv : vOk p c h s
  · rw [show stepsA p c h s st.data.toList = none from by simp [stepsA, hv]]
    go_enter Tryd.func29, Tryd.ntmps29
    go_wp2_with (go_at_call 34; (with_reducible refine (isVar_any _ _ _ _ _).mono ?_); rintro e w1 ⟨rfl, hb1⟩; obtain ⟨hc1, hf1, _⟩ := hb1.cells; have hz1_0 : w.heap.size < w1.heap.size := Past.lt hb1 (by first | omega | (simp <;> omega)))
    go_ret2
    exact StepsOk.nil none rfl (by repeat (first | exact Past.refl _ | assumption | refine Past.alloc ?_ _ | refine Past.drew ?_ | refine Past.drewN ?_ _ | refine Past.setCell ?_ (by first | (simp; done) | (simp <;> omega)) _ | refine Past.trans ?_ (past_over _ _) | refine Past.trans ?_ (by assumption)))
  rw [show stepsA p c h s st.data.toList = stepsR p s st.data.toList from by simp [stepsA, hv]]
  by_cases hd : st.data.toList = [45]
  · rw [show stepsR p s st.data.toList = some [] from if_pos hd]
    have hb : (st.toList == [45]) = true := by rw [ByteArray.toList_eq, hd]; rfl
    clear hd
    go_enter Tryd.func29, Tryd.ntmps29
    go_wp2_with (go_at_call 34; (with_reducible refine (isVar_any _ _ _ _ _).mono ?_); rintro e w1 ⟨rfl, hb1⟩; obtain ⟨hc1, hf1, _⟩ := hb1.cells; have hz1_0 : w.heap.size < w1.heap.size := Past.lt hb1 (by first | omega | (simp <;> omega)))
    go_ret2
    exact StepsOk.nil (some []) rfl (by repeat (first | exact Past.refl _ | assumption | refine Past.alloc ?_ _ | refine Past.drew ?_ | refine Past.drewN ?_ _ | refine Past.setCell ?_ (by first | (simp; done) | (simp <;> omega)) _ | refine Past.trans ?_ (past_over _ _) | refine Past.trans ?_ (by assumption)))
  have hb : (st.toList == [45]) = false := by rw [ByteArray.toList_eq, beq_eq_false_iff_ne]; exact hd
  have hR : stepsR p s st.data.toList = if 4 < (cutB 32 st).length then none else allF (rdSt p s) ((cutB 32 st).map (·.data.toList)) := by rw [stepsR, if_neg hd, cutB_count, cutB_data]
  rw [hR]
  obtain ⟨i0, hi, hz0, hz1, hz2⟩ := info_parts infoS
  have hsz := fun x (h : x ∈ cutB 32 st) => cutB_size h
  have hsp := fun w h => split_any st 32 w h hz
  generalize cutB 32 st = L at hsz hsp ⊢
  have HS := Lib.hid hsp
  have HZ := Lib.hid hsz
  clear hsp hsz hR hd
  by_cases h4 : 4 < L.length
  · have h4z : (4 : Int) < (L.length : Int) := by omega
    rw [if_pos h4]
    clear h4
    go_enter Tryd.func29, Tryd.ntmps29
    go_wp2_with (first | (go_at_call 34; (with_reducible refine (isVar_any _ _ _ _ _).mono ?_); rintro e w1 ⟨rfl, hb1⟩; obtain ⟨hc1, hf1, _⟩ := hb1.cells; have hz1_0 : w.heap.size < w1.heap.size := Past.lt hb1 (by first | omega | (simp <;> omega))) | (go_at_call 53; (with_reducible refine (HS.out _ (hg.past (by repeat (first | exact Past.refl _ | assumption | refine Past.alloc ?_ _ | refine Past.drew ?_ | refine Past.drewN ?_ _ | refine Past.setCell ?_ (by first | (simp; done) | (simp <;> omega)) _ | refine Past.trans ?_ (past_over _ _) | refine Past.trans ?_ (by assumption))))).mono ?_); rintro e w2 ⟨bb, kk, rfl, hrd, hb2⟩))
    go_ret2
    exact StepsOk.nil none rfl (by repeat (first | exact Past.refl _ | assumption | refine Past.alloc ?_ _ | refine Past.drew ?_ | refine Past.drewN ?_ _ | refine Past.setCell ?_ (by first | (simp; done) | (simp <;> omega)) _ | refine Past.trans ?_ (past_over _ _) | refine Past.trans ?_ (by assumption)))
  have h4z : ¬ (4 : Int) < (L.length : Int) := by omega
  rw [if_neg h4]
  obtain ⟨w0, hw0⟩ : ∃ w0 : World, w0 = w.alloc (.cells #[.int .i64 p, .int .i64 c, .int .i64 h, .int .i64 s] 25) := ⟨_, rfl⟩
  have hp0 : Past w w0 := by rw [hw0]; exact (by repeat (first | exact Past.refl _ | assumption | refine Past.alloc ?_ _ | refine Past.drew ?_ | refine Past.drewN ?_ _ | refine Past.setCell ?_ (by first | (simp; done) | (simp <;> omega)) _ | refine Past.trans ?_ (past_over _ _) | refine Past.trans ?_ (by assumption)))
  have hV : Blk w0 w.heap.size 25 #[.int .i64 p, .int .i64 c, .int .i64 h, .int .i64 s] := by rw [hw0]; exact Blk.new w _ _
  have c0 : w0.cell? ⟨w.heap.size, 0, none⟩ = some (.int .i64 p) := hV.cell 0 rfl
  have c1 : w0.cell? ⟨w.heap.size, 1, none⟩ = some (.int .i64 c) := hV.cell 1 rfl
  have c2 : w0.cell? ⟨w.heap.size, 2, none⟩ = some (.int .i64 h) := hV.cell 2 rfl
  have c3 : w0.cell? ⟨w.heap.size, 3, none⟩ = some (.int .i64 s) := hV.cell 3 rfl
  go_enter Tryd.func29, Tryd.ntmps29
  go_upto_region 1 with fail
  rw [← hw0]
  clear hw0
  go_wp2_with fail
  (with_reducible refine (isVar_any _ _ _ _ _).mono ?_)
  rintro e wi ⟨rfl, hbi⟩
  rw [hv]
  have hpi := hp0.trans hbi
  go_wp2_with fail
  (with_reducible refine (HS.out _ (hg.past hpi)).mono ?_)
  rintro e w1 ⟨bb, kk, rfl, hrd, hb1⟩
  have hp1 := hpi.trans hb1
  replace hV := (hV.past hbi).past hb1
  have hg1 := hg.past hp1
  clear hp0 hbi hpi hb1 HS c0 c1 c2 c3
  go_wp2_with fail
  go_loopw [7, 24] (fun v i wr => ∃ (j : Nat) (K : List Stp), j ≤ L.length ∧ i = .int .i64 (j : Int) ∧ StepsIn w1 wr v K ∧ Hid (upF (rdSt p s) L j = some K)) (fun _ i _ => L.length - (intOf i).toNat)
  case atStart => exact ⟨0, [], Nat.zero_le _, rfl, StepsIn.nil w1, Lib.hid rfl⟩
  case round =>
    obtain ⟨j, K, hj, rfl, ⟨A', k', rfl, hown, hp⟩, HK⟩ := hrel
    have hKb : K.length ≤ 4 := by have := upF_len hj HK.out; omega
    by_cases hlt : j < L.length
    · have hlt2 : (j : Int) < (L.length : Int) := by omega
      obtain ⟨b2, o2, x, hA, hxj, hcx⟩ := (hrd.past hp).at_ hlt
      simp only [Option.some.injEq, Addr.mk.injEq] at hA
      obtain ⟨rfl, rfl, _⟩ := hA
      rw [Nat.zero_add] at hcx
      have hxs := HZ.out x (List.mem_of_getElem? hxj)
      have HX := Lib.hid hxj
      clear hxj
      have hVr := hV.past hp
      have c0 : wr.cell? ⟨w.heap.size, 0, none⟩ = some (.int .i64 p) := hVr.cell 0 rfl
      have c1 : wr.cell? ⟨w.heap.size, 1, none⟩ = some (.int .i64 c) := hVr.cell 1 rfl
      have c2 : wr.cell? ⟨w.heap.size, 2, none⟩ = some (.int .i64 h) := hVr.cell 2 rfl
      have c3 : wr.cell? ⟨w.heap.size, 3, none⟩ = some (.int .i64 s) := hVr.cell 3 rfl
      cases hx : rdSt p s x.data.toList with
      | none =>
        have HN := Lib.hid (upF_none HX.out HK.out hx)
        have HR := Lib.hid (readSt_no p c h s hv x (by omega) hx)
        clear hx
        go_wp2_with (go_at_call 51; (with_reducible refine (HR.out _ (hg1.past (by repeat (first | exact Past.refl _ | assumption | refine Past.alloc ?_ _ | refine Past.drew ?_ | refine Past.drewN ?_ _ | refine Past.setCell ?_ (by first | (simp; done) | (simp <;> omega)) _ | refine Past.trans ?_ (past_over _ _) | refine Past.trans ?_ (by assumption))))).mono ?_); rintro e w2 ⟨rfl, hb2⟩; obtain ⟨hc2, hf2, _⟩ := hb2.cells)
        go_ret2
        rw [HN.out]
        exact StepsOk.nil none rfl (by repeat (first | exact Past.refl _ | assumption | refine Past.alloc ?_ _ | refine Past.drew ?_ | refine Past.drewN ?_ _ | refine Past.setCell ?_ (by first | (simp; done) | (simp <;> omega)) _ | refine Past.trans ?_ (past_over _ _) | refine Past.trans ?_ (by assumption)))
      | some a =>
        obtain ⟨f, t, d, y⟩ := a
        have HN := Lib.hid (upF_next HX.out HK.out hx)
        have HR := Lib.hid (readSt_yes p c h s hv x (by omega) hx)
        clear hx
        go_wp2_with (first | (go_at_call 51; (with_reducible refine (HR.out _ (hg1.past (by repeat (first | exact Past.refl _ | assumption | refine Past.alloc ?_ _ | refine Past.drew ?_ | refine Past.drewN ?_ _ | refine Past.setCell ?_ (by first | (simp; done) | (simp <;> omega)) _ | refine Past.trans ?_ (past_over _ _) | refine Past.trans ?_ (by assumption))))).mono ?_); rintro e w2 ⟨rfl, hb2⟩; obtain ⟨hc2, hf2, _⟩ := hb2.cells) | (at_builtin; refine wpList_append_own _ rfl _ _ 37 rfl w1.heap.size 31 i0 (.agg #[.int .i64 0, .int .i64 0, .int .i64 0, .bool false]) 4 32 Tryd.underlying37 hi hz0 hz1 hz2 rfl (by decide) _ K.length (flat Stp.cells K) rfl (OwE.alloc (OwE.alloc (OwE.past hown hb2) _) _).2 ⟨w2.heap.size + 1, 0, none⟩ 1 1 [.int .i64 f, .int .i64 t, .int .i64 d, .bool y] rfl rfl (World.news_of_block (Blk.at_ (by simp))) (by intro u hu; simp at hu; rcases hu with rfl | rfl | rfl | rfl <;> rfl) (by unfold maxLen; omega) (by omega) (by have := hp.sz; have := hb2.sz; simp; omega) ?_; intro v2 w3 hown3 hg3 hiff))
        go_roundw
        case rel => exact ⟨j + 1, K ++ [⟨f, t, d, y⟩], by omega, by go_num, StepsIn.push (a := ⟨f, t, d, y⟩) (OwE.alloc (OwE.alloc (OwE.past hown hb2) _) _) (((hp.trans hb2).alloc _).alloc _) hown3 hg3 (fun h => absurd (hiff.1 h).2 (by decide)), HN⟩
        case measure => simp [intOf]; omega
    · obtain rfl : j = L.length := by omega
      have HE := Lib.hid (show allF (rdSt p s) (L.map (·.data.toList)) = some K from (upF_all rfl).symm.trans HK.out)
      go_wp2
      go_ret2
      rw [HE.out]
      exact ⟨A', k', rfl, OwE.less hown hp1.sz, hp1.trans hp⟩
/-- A variable for a step, just made; one that holds a step. -/
def NewStp (w : World) (g : Nat) : Prop := Blk w g 31 #[.int .i64 0, .int .i64 0, .int .i64 0, .bool false]
theorem newStp_alloc (w : World) : NewStp (w.alloc (.cells #[.int .i64 0, .int .i64 0, .int .i64 0, .bool false] 31)) w.heap.size := Blk.new _ _ _
theorem NewStp.past {w w' : World} {g : Nat} (h : NewStp w g) (p : Past w w') : NewStp w' g := Blk.past h p
theorem NewStp.drew {w : World} {g : Nat} (h : NewStp w g) : NewStp w.drew g := h
theorem NewStp.all {w : World} {g : Nat} (h : NewStp w g) : (w.cell? ⟨g, 0, none⟩ = some (.int .i64 0) ∧ w.cell? ⟨g, 1, none⟩ = some (.int .i64 0) ∧ w.cell? ⟨g, 2, none⟩ = some (.int .i64 0) ∧ w.cell? ⟨g, 3, none⟩ = some (.bool false)) ∧ w.frozen? ⟨g, 0, none⟩ = false ∧ w.frozen? ⟨g, 1, none⟩ = false ∧ w.frozen? ⟨g, 2, none⟩ = false ∧ w.frozen? ⟨g, 3, none⟩ = false :=
  ⟨⟨Blk.cell h 0 rfl, Blk.cell h 1 rfl, Blk.cell h 2 rfl, Blk.cell h 3 rfl⟩, Blk.free h 0, Blk.free h 1, Blk.free h 2, Blk.free h 3⟩
def StpAt (W w : World) (g : Nat) (f t d : Int) (y : Bool) : Prop := (w.cell? ⟨g, 0, none⟩ = some (.int .i64 f) ∧ w.cell? ⟨g, 1, none⟩ = some (.int .i64 t) ∧ w.cell? ⟨g, 2, none⟩ = some (.int .i64 d) ∧ w.cell? ⟨g, 3, none⟩ = some (.bool y)) ∧ Past W w
theorem StpAt.new {W w : World} (f t d : Int) (y : Bool) (hp : Past W w) : StpAt W (w.alloc (.cells #[.int .i64 f, .int .i64 t, .int .i64 d, .bool y] 31)) w.heap.size f t d y :=
  have h := Blk.new w 31 #[.int .i64 f, .int .i64 t, .int .i64 d, .bool y]
  ⟨⟨Blk.cell h 0 rfl, Blk.cell h 1 rfl, Blk.cell h 2 rfl, Blk.cell h 3 rfl⟩, hp.alloc _⟩
theorem StpAt.set {W w : World} {g : Nat} (nb : NewStp w g) (f t d : Int) (y : Bool) (hg : W.heap.size ≤ g) (hp : Past W w) :
    StpAt W ((((w.setCell ⟨g, 0, none⟩ (.int .i64 f)).setCell ⟨g, 1, none⟩ (.int .i64 t)).setCell ⟨g, 2, none⟩ (.int .i64 d)).setCell ⟨g, 3, none⟩ (.bool y)) g f t d y :=
  have h : Blk ((((w.setCell ⟨g, 0, none⟩ (.int .i64 f)).setCell ⟨g, 1, none⟩ (.int .i64 t)).setCell ⟨g, 2, none⟩ (.int .i64 d)).setCell ⟨g, 3, none⟩ (.bool y)) g 31 #[.int .i64 f, .int .i64 t, .int .i64 d, .bool y] :=
    (((Blk.sset nb 0 _ rfl).sset 1 _ rfl).sset 2 _ rfl).sset 3 _ rfl
  ⟨⟨Blk.cell h 0 rfl, Blk.cell h 1 rfl, Blk.cell h 2 rfl, Blk.cell h 3 rfl⟩, (((hp.setCell (p := ⟨g, 0, none⟩) hg _).setCell (p := ⟨g, 1, none⟩) hg _).setCell (p := ⟨g, 2, none⟩) hg _).setCell (p := ⟨g, 3, none⟩) hg _⟩
def WordsOwn (w : World) (L : List ByteArray) (e : Ending) (w' : World) : Prop := ∃ b k, e = .returned (.slice (some ⟨b, 0, none⟩) L.length k) ∧ OwW w.heap.size w' (some ⟨b, 0, none⟩) L.length k L ∧ Past w w'
set_option maxHeartbeats 2000000 in
set_option maxRecDepth 100000 in
theorem l01Split_row (s : ByteArray) (b : UInt8) (w : World) (hs : s.size ≤ 1048576) :
    Calls Tryd.prog 47 #[.string s, .int .u8 (b.toNat : Int)] w (WordsOwn w (cutB b s)) := by
  obtain ⟨i0, hi, hz0, hz1, hz2⟩ := info_parts infoW
  go_enter Tryd.func47, Tryd.ntmps47
  go_wp2_with fail
  go_loopw [5, 6, 7] (fun v f i wr => ∃ j : Nat, j ≤ s.size + 1 ∧ i = .int .i64 (j : Int) ∧ f = .int .i64 (fromTo b s j : Int) ∧ WdIn w wr v (wordsTo b s j)) (fun _ _ i _ => s.size + 1 - (intOf i).toNat)
  case atStart => exact ⟨0, Nat.zero_le _, rfl, rfl, WdIn.empty w _ rfl⟩
  case round =>
    obtain ⟨j, hj, rfl, rfl, A', k', rfl, hown, hp⟩ := hrel
    have hle := wordsTo_len b s j
    have hfr := fromTo_le b s j
    have hfz : (fromTo b s j : Int) ≤ (j : Int) := by omega
    by_cases hlt : j ≤ s.size
    · have hltz : (j : Int) ≤ (s.size : Int) := by omega
      have sl := fun w => run_slice_string (P := Tryd.prog) w 9 s .i64 .i64 (fromTo b s j : Int) (j : Int) (by rfl) (by omega) hfz hltz
      simp only [Int.toNat_natCast] at sl
      by_cases he : j = s.size
      · have hez : (j : Int) = (s.size : Int) := by omega
        have hq : ((j : Int) == (s.size : Int)) = true := beq_iff_eq.2 hez
        have hh : hitAt b s j = true := by rw [he]; exact hitAt_end
        have E1 := Lib.hid (wordsTo_hit hh)
        have E2 := Lib.hid (fromTo_hit hh)
        have HE := Lib.hid he
        clear hh he hez
        go_wp2_with (at_builtin; refine wpList_append_own _ rfl _ _ 66 rfl w.heap.size 9 i0 (.string ByteArray.empty) 1 16 Tryd.underlying66 hi hz0 hz1 hz2 rfl (by decide) _ (wordsTo b s j).length (flat wCs (wordsTo b s j)) rfl (OwE.alloc hown _).2 ⟨wr.heap.size, 0, none⟩ 1 1 [.string (s.extract (fromTo b s j) j)] rfl rfl (cell_one_new _ _ _) (by intro u hu; simp at hu; subst hu; rfl) (by unfold maxLen; omega) (by omega) (Nat.le_trans hp.sz (by simp)) ?_; intro v2 w5 hown5 hg5 hiff)
        go_roundw
        case rel => exact ⟨j + 1, by omega, by go_num, by rw [E2.out]; go_num, by rw [E1.out]; exact WdIn.push (OwE.alloc hown _) (hp.alloc _) hown5 hg5 (fun h => absurd (hiff.1 h).2 (by decide))⟩
        case measure => simp [intOf]; omega
      · have hq : ((j : Int) == (s.size : Int)) = false := by rw [beq_eq_false_iff_ne]; omega
        have hne : ¬ (j : Int) = (s.size : Int) := by omega
        have hl2 : j < s.size := by omega
        have hix := fun w => by_ix hl2 w
        by_cases hb : byAt s j = (b.toNat : Int)
        · have hh : hitAt b s j = true := hitAt_yes hb
          have hq2 : (byAt s j == (b.toNat : Int)) = true := beq_iff_eq.2 hb
          have E1 := Lib.hid (wordsTo_hit hh)
          have E2 := Lib.hid (fromTo_hit hh)
          clear hh hb he
          go_wp2_with (at_builtin; refine wpList_append_own _ rfl _ _ 66 rfl w.heap.size 9 i0 (.string ByteArray.empty) 1 16 Tryd.underlying66 hi hz0 hz1 hz2 rfl (by decide) _ (wordsTo b s j).length (flat wCs (wordsTo b s j)) rfl (OwE.alloc hown _).2 ⟨wr.heap.size, 0, none⟩ 1 1 [.string (s.extract (fromTo b s j) j)] rfl rfl (cell_one_new _ _ _) (by intro u hu; simp at hu; subst hu; rfl) (by unfold maxLen; omega) (by omega) (Nat.le_trans hp.sz (by simp)) ?_; intro v2 w5 hown5 hg5 hiff)
          go_roundw
          case rel => exact ⟨j + 1, by omega, by go_num, by rw [E2.out]; go_num, by rw [E1.out]; exact WdIn.push (OwE.alloc hown _) (hp.alloc _) hown5 hg5 (fun h => absurd (hiff.1 h).2 (by decide))⟩
          case measure => simp [intOf]; omega
        · have hh : hitAt b s j = false := hitAt_not hl2 hb
          have hq2 : (byAt s j == (b.toNat : Int)) = false := beq_eq_false_iff_ne.2 hb
          have E1 := Lib.hid (wordsTo_no hh)
          have E2 := Lib.hid (fromTo_no hh)
          clear hh he
          go_wp2_with fail
          go_roundw
          case rel => exact ⟨j + 1, by omega, by go_num, by rw [E2.out], by rw [E1.out]; exact ⟨A', k', rfl, hown, hp⟩⟩
          case measure => simp [intOf]; omega
    · obtain rfl : j = s.size + 1 := by omega
      rw [wordsTo_all] at hown
      have hltz : ¬ ((s.size + 1 : Nat) : Int) ≤ (s.size : Int) := by omega
      have hpos : 0 < (cutB b s).length := by
        rw [cutB, List.length_map]
        exact List.length_pos_iff.2 (cutAt_ne _ _)
      obtain ⟨g, rfl⟩ := OwE.addr hown hpos
      rw [wordsTo_all]
      clear hle hfr hfz hj
      go_wp2
      go_ret
      exact ⟨g, k', rfl, hown, hp⟩
theorem l01Split_own (s : ByteArray) (w : World) (hs : s.size ≤ 1048576) : Calls Tryd.prog 47 #[.string s, .int .u8 32] w (WordsOwn w (cutB 32 s)) := l01Split_row s 32 w hs
set_option maxHeartbeats 4000000 in
set_option maxRecDepth 100000 in
theorem l06Steps_any (p c h s : Int) (st : ByteArray) (w : World) (hv : vOk p c h s = true) (hg : Glob w) (hz : st.size ≤ 1048576) :
    Calls Tryd.prog 52 #[.agg #[.int .i64 p, .int .i64 c, .int .i64 h, .int .i64 s], .string st] w (StepsOk w (stepsR p s st.data.toList)) := by
  have hR : stepsR p s st.data.toList = if st.data.toList = [45] then some [] else if 4 < (cutB 32 st).length then none else allF (rdSt p s) ((cutB 32 st).map (·.data.toList)) := by rw [stepsR, cutB_count, cutB_data]
  generalize stepsR p s st.data.toList = R at hR ⊢
  obtain ⟨w0, hw0⟩ : ∃ w0 : World, w0 = w.alloc (.cells #[.int .i64 p, .int .i64 c, .int .i64 h, .int .i64 s] 25) := ⟨_, rfl⟩
  have hp0 : Past w w0 := by rw [hw0]; exact (by repeat (first | exact Past.refl _ | assumption | refine Past.alloc ?_ _ | refine Past.drew ?_ | refine Past.drewN ?_ _ | refine Past.setCell ?_ (by first | (simp; done) | (simp <;> omega)) _ | refine Past.trans ?_ (past_over _ _) | refine Past.trans ?_ (by assumption)))
  have hV : Blk w0 w.heap.size 25 #[.int .i64 p, .int .i64 c, .int .i64 h, .int .i64 s] := by rw [hw0]; exact Blk.new w _ _
  have H0 := StepsIn.empty w0 31 rfl
  obtain ⟨w01, hw01⟩ : ∃ w01 : World, w01 = w0.alloc (.cells #[] 31) := ⟨_, rfl⟩
  rw [← hw01] at H0
  have hp01 : Past w0 w01 := by rw [hw01]; exact (Past.refl w0).alloc _
  have Z01 := Lib.hid (show w0.heap.size < w01.heap.size by rw [hw01]; simp)
  have Z00 := Lib.hid (show w.heap.size + 1 = w0.heap.size by rw [hw0]; simp)
  by_cases hd : st.data.toList = [45]
  · obtain rfl : R = some [] := by rw [hR, if_pos hd]
    have hb : (st.toList == [45]) = true := by rw [ByteArray.toList_eq, hd]; rfl
    clear hd hR
    go_enter Tryd.func52, Tryd.ntmps52
    go_upto_region 2 with fail
    rw [← hw0, ← hw01]
    (try rw [Z00.out])
    clear hw0 hw01 Z00
    go_wp2
    go_ret2
    obtain ⟨A, k, hA, hO, hQ⟩ := H0
    simp only [Value.slice.injEq] at hA
    obtain ⟨rfl, _, rfl⟩ := hA
    exact ⟨_, _, rfl, OwE.less hO hp0.sz, hp0.trans hQ⟩
  rw [if_neg hd] at hR
  have hb : (st.toList == [45]) = false := by rw [ByteArray.toList_eq, beq_eq_false_iff_ne]; exact hd
  obtain ⟨i0, hi, hz0, hz1, hz2⟩ := info_parts infoS
  have hsz := fun x (h : x ∈ cutB 32 st) => cutB_size h
  have hsp := fun w => l01Split_own st w hz
  generalize cutB 32 st = L at hsz hsp hR
  have HS := Lib.hid hsp
  have HZ := Lib.hid hsz
  have HRI := Lib.hid hR
  clear hsp hsz hd hR
  go_enter Tryd.func52, Tryd.ntmps52
  go_upto_region 2 with fail
  rw [← hw0, ← hw01]
  (try rw [Z00.out])
  clear hw0 hw01 Z00
  go_wp2_with fail
  (with_reducible refine (HS.out _).mono ?_)
  rintro e w1 ⟨bb, kk, rfl, hq, hb1⟩
  by_cases h4 : 4 < L.length
  · obtain rfl : R = none := by rw [HRI.out, if_pos h4]
    have h4z : (4 : Int) < (L.length : Int) := by omega
    have H1 := H0.past hb1
    clear HRI h4 HS
    go_wp2
    go_ret2
    obtain ⟨A, k, hA, hO, hQ⟩ := H1
    simp only [Value.slice.injEq] at hA
    obtain ⟨rfl, _, rfl⟩ := hA
    exact ⟨_, _, rfl, OwE.less hO hp0.sz, hp0.trans hQ⟩
  have h4z : ¬ (4 : Int) < (L.length : Int) := by omega
  have HRR := Lib.hid (show R = allF (rdSt p s) (L.map (·.data.toList)) by rw [HRI.out, if_neg h4])
  have H1 : StepsBy (some ⟨bb, 0, none⟩) w0 w1 (.slice (some ⟨w0.heap.size, 0, none⟩) 0 0) [] := by
    obtain ⟨A', k', hv, ho, hp⟩ := H0.past hb1
    simp only [List.length_nil, Value.slice.injEq, true_and] at hv
    obtain ⟨rfl, rfl⟩ := hv
    refine ⟨_, _, rfl, ho, hp, fun b hb hb' => ?_⟩
    rw [blk_some] at hb
    have h := (OwE.blk_lt (b := b) hq hb').1
    have z01 := Z01.out
    omega
  clear hb1 HS H0 HRI
  go_wp2_with fail
  go_loopw [6, 8] (fun v i wr => ∃ (j : Nat) (K : List Stp), j ≤ L.length ∧ i = .int .i64 (j : Int) ∧ StepsBy (some ⟨bb, 0, none⟩) w0 wr v K ∧ OwW w01.heap.size wr (some ⟨bb, 0, none⟩) L.length kk L ∧ Hid (upF (rdSt p s) L j = some K)) (fun _ i _ => L.length - (intOf i).toNat)
  case atStart => exact ⟨0, [], Nat.zero_le _, rfl, H1, hq, Lib.hid rfl⟩
  case round =>
    clear H1 hq
    obtain ⟨j, K, hj, rfl, ⟨A', k', rfl, hown, hp, hsep⟩, hq, HK⟩ := hrel
    have HSEP := Lib.hid hsep
    have hKb : K.length ≤ 4 := by have := upF_len hj HK.out; omega
    clear hsep
    by_cases hlt : j < L.length
    · have hlt2 : (j : Int) < (L.length : Int) := by omega
      obtain ⟨b2, o2, x, hA, hxj, hcx⟩ := hq.rd.at_ hlt
      simp only [Option.some.injEq, Addr.mk.injEq] at hA
      obtain ⟨rfl, rfl, _⟩ := hA
      rw [Nat.zero_add] at hcx
      have hxs := HZ.out x (List.mem_of_getElem? hxj)
      have HX := Lib.hid hxj
      have hj0 : (0 : Int) ≤ (j : Int) := by omega
      clear hxj
      have hVr := hV.past hp
      have hgr := hg.past (hp0.trans hp)
      have c0 : wr.cell? ⟨w.heap.size, 0, none⟩ = some (.int .i64 p) := hVr.cell 0 rfl
      have c1 : wr.cell? ⟨w.heap.size, 1, none⟩ = some (.int .i64 c) := hVr.cell 1 rfl
      have c2 : wr.cell? ⟨w.heap.size, 2, none⟩ = some (.int .i64 h) := hVr.cell 2 rfl
      have c3 : wr.cell? ⟨w.heap.size, 3, none⟩ = some (.int .i64 s) := hVr.cell 3 rfl
      have hlb := World.block_lt_of_cell? wr _ hcx
      have hlv := World.block_lt_of_cell? wr _ c0
      simp only at hlb hlv
      cases hx : rdSt p s x.data.toList with
      | none =>
        have HN := Lib.hid (upF_none HX.out HK.out hx)
        have HR := Lib.hid (sReadSt_no p c h s hv x (by omega) hx)
        obtain rfl : R = none := HRR.out.trans HN.out
        clear hx HRR HN
        go_upto_region 10 with fail
        go_cut [9, 10] (fun s9 s10 wx => ∃ gx, s9 = .pointer (some ⟨gx, 0, none⟩) ∧ s10 = .bool false ∧ StpAt wr wx gx 0 0 0 false)
        case first =>
          go_region_held3 (fun w' => w'.cell? ⟨w.heap.size, 0, none⟩ = some (.int .i64 p) ∧ w'.cell? ⟨w.heap.size, 1, none⟩ = some (.int .i64 c) ∧ w'.cell? ⟨w.heap.size, 2, none⟩ = some (.int .i64 h) ∧ w'.cell? ⟨w.heap.size, 3, none⟩ = some (.int .i64 s) ∧ w'.cell? ⟨bb, j, none⟩ = some (.string x) ∧ Past (wr) w') ((go_split_ands; refine keep_of (a := wr) (S := fun w' => w'.cell? ⟨w.heap.size, 0, none⟩ = some (.int .i64 p) ∧ w'.cell? ⟨w.heap.size, 1, none⟩ = some (.int .i64 c) ∧ w'.cell? ⟨w.heap.size, 2, none⟩ = some (.int .i64 h) ∧ w'.cell? ⟨w.heap.size, 3, none⟩ = some (.int .i64 s) ∧ w'.cell? ⟨bb, j, none⟩ = some (.string x) ∧ Past (wr) w') (by repeat (first | exact Past.refl _ | assumption | refine Past.alloc ?_ _ | refine Past.drew ?_ | refine Past.drewN ?_ _ | refine Past.setCell ?_ (by first | (simp; done) | (simp <;> omega)) _ | refine Past.trans ?_ (past_over _ _) | refine Past.trans ?_ (by assumption))) (fun x hP => ⟨hP.keep (by assumption), hP.keep (by assumption), hP.keep (by assumption), hP.keep (by assumption), hP.keep (by assumption), hP⟩))) (first | (go_at_call 50; (with_reducible refine (HR.out _ (hgr.past (by repeat (first | exact Past.refl _ | assumption | refine Past.alloc ?_ _ | refine Past.drew ?_ | refine Past.drewN ?_ _ | refine Past.setCell ?_ (by first | (simp; done) | (simp <;> omega)) _ | refine Past.trans ?_ (past_over _ _) | refine Past.trans ?_ (by assumption))))).mono ?_); rintro e w2 ⟨rfl, hb2⟩; (try (have nb := NewStp.past (by first | assumption | exact newStp_alloc _ | exact (newStp_alloc _).drew) hb2; have nb1 := nb.all; obtain ⟨⟨n0, n1, n2, n3⟩, m0, m1, m2, m3⟩ := nb1)); have hs := Past.sz hb2; (try simp only [size_drew] at hs); (try simp only [World.size_alloc] at hs)))
          all_goals
            go_split_ands
            go_wp2_with fail
            go_meet
            first
            | (with_reducible refine ⟨_, rfl, rfl, StpAt.set nb _ _ _ _ ?_ ?_⟩; exact (by first | omega | (simp <;> omega)); exact (by repeat (first | exact Past.refl _ | assumption | refine Past.alloc ?_ _ | refine Past.drew ?_ | refine Past.drewN ?_ _ | refine Past.setCell ?_ (by first | (simp; done) | (simp <;> omega)) _ | refine Past.trans ?_ (past_over _ _) | refine Past.trans ?_ (by assumption))))
            | (with_reducible refine ⟨_, rfl, rfl, StpAt.new _ _ _ _ ?_⟩; exact (by repeat (first | exact Past.refl _ | assumption | refine Past.alloc ?_ _ | refine Past.drew ?_ | refine Past.drewN ?_ _ | refine Past.setCell ?_ (by first | (simp; done) | (simp <;> omega)) _ | refine Past.trans ?_ (past_over _ _) | refine Past.trans ?_ (by assumption))))
        case rest =>
          obtain ⟨gx, rfl, rfl, ⟨⟨x0, x1, x2, x3⟩, hpc⟩⟩ := hcut
          go_wp2
          go_ret2
          exact StepsOk.empty none rfl _ rfl ((hp0.trans hp).trans hpc)
      | some a =>
        obtain ⟨f, t, d, y⟩ := a
        have HN := Lib.hid (upF_next HX.out HK.out hx)
        have HR := Lib.hid (sReadSt_yes p c h s hv x (by omega) hx)
        clear hx
        go_upto_region 10 with fail
        go_cut [9, 10] (fun s9 s10 wx => ∃ gx, s9 = .pointer (some ⟨gx, 0, none⟩) ∧ s10 = .bool true ∧ StpAt wr wx gx f t d y)
        case first =>
          go_region_held3 (fun w' => w'.cell? ⟨w.heap.size, 0, none⟩ = some (.int .i64 p) ∧ w'.cell? ⟨w.heap.size, 1, none⟩ = some (.int .i64 c) ∧ w'.cell? ⟨w.heap.size, 2, none⟩ = some (.int .i64 h) ∧ w'.cell? ⟨w.heap.size, 3, none⟩ = some (.int .i64 s) ∧ w'.cell? ⟨bb, j, none⟩ = some (.string x) ∧ Past (wr) w') ((go_split_ands; refine keep_of (a := wr) (S := fun w' => w'.cell? ⟨w.heap.size, 0, none⟩ = some (.int .i64 p) ∧ w'.cell? ⟨w.heap.size, 1, none⟩ = some (.int .i64 c) ∧ w'.cell? ⟨w.heap.size, 2, none⟩ = some (.int .i64 h) ∧ w'.cell? ⟨w.heap.size, 3, none⟩ = some (.int .i64 s) ∧ w'.cell? ⟨bb, j, none⟩ = some (.string x) ∧ Past (wr) w') (by repeat (first | exact Past.refl _ | assumption | refine Past.alloc ?_ _ | refine Past.drew ?_ | refine Past.drewN ?_ _ | refine Past.setCell ?_ (by first | (simp; done) | (simp <;> omega)) _ | refine Past.trans ?_ (past_over _ _) | refine Past.trans ?_ (by assumption))) (fun x hP => ⟨hP.keep (by assumption), hP.keep (by assumption), hP.keep (by assumption), hP.keep (by assumption), hP.keep (by assumption), hP⟩))) (first | (go_at_call 50; (with_reducible refine (HR.out _ (hgr.past (by repeat (first | exact Past.refl _ | assumption | refine Past.alloc ?_ _ | refine Past.drew ?_ | refine Past.drewN ?_ _ | refine Past.setCell ?_ (by first | (simp; done) | (simp <;> omega)) _ | refine Past.trans ?_ (past_over _ _) | refine Past.trans ?_ (by assumption))))).mono ?_); rintro e w2 ⟨rfl, hb2⟩; (try (have nb := NewStp.past (by first | assumption | exact newStp_alloc _ | exact (newStp_alloc _).drew) hb2; have nb1 := nb.all; obtain ⟨⟨n0, n1, n2, n3⟩, m0, m1, m2, m3⟩ := nb1)); have hs := Past.sz hb2; (try simp only [size_drew] at hs); (try simp only [World.size_alloc] at hs)))
          all_goals
            go_split_ands
            go_wp2_with fail
            go_meet
            first
            | (with_reducible refine ⟨_, rfl, rfl, StpAt.set nb _ _ _ _ ?_ ?_⟩; exact (by first | omega | (simp <;> omega)); exact (by repeat (first | exact Past.refl _ | assumption | refine Past.alloc ?_ _ | refine Past.drew ?_ | refine Past.drewN ?_ _ | refine Past.setCell ?_ (by first | (simp; done) | (simp <;> omega)) _ | refine Past.trans ?_ (past_over _ _) | refine Past.trans ?_ (by assumption))))
            | (with_reducible refine ⟨_, rfl, rfl, StpAt.new _ _ _ _ ?_⟩; exact (by repeat (first | exact Past.refl _ | assumption | refine Past.alloc ?_ _ | refine Past.drew ?_ | refine Past.drewN ?_ _ | refine Past.setCell ?_ (by first | (simp; done) | (simp <;> omega)) _ | refine Past.trans ?_ (past_over _ _) | refine Past.trans ?_ (by assumption))))
        case rest =>
          obtain ⟨gx, rfl, rfl, ⟨⟨x0, x1, x2, x3⟩, hb2⟩⟩ := hcut
          go_wp2_with (at_builtin; refine wpList_append_own_at _ rfl _ _ 37 rfl w0.heap.size 31 i0 (.agg #[.int .i64 0, .int .i64 0, .int .i64 0, .bool false]) 4 32 Tryd.underlying37 hi hz0 hz1 hz2 rfl (by decide) _ K.length (flat Stp.cells K) rfl (OwE.alloc (OwE.past hown hb2) _).2 ⟨wc.heap.size, 0, none⟩ 1 1 [.int .i64 f, .int .i64 t, .int .i64 d, .bool y] rfl rfl (World.news_of_block (Blk.at_ (by simp))) (by intro u hu; simp at hu; rcases hu with rfl | rfl | rfl | rfl <;> rfl) (by unfold maxLen; omega) (by omega) (by have := hp.sz; have := hb2.sz; simp; omega) ?_; intro v2 w3 hown3 hg3 hiff hat3)
          have hq3 : OwW w01.heap.size w3 (some ⟨bb, 0, none⟩) L.length kk L := OwE.mod (OwE.alloc (OwE.past hq hb2) _) (mod_grown hg3) (fun b hb hA => HSEP.out b hA ⟨_, hb, rfl⟩)
          have HAT := Lib.hid hat3
          clear hat3
          go_roundw
          case rel => exact ⟨j + 1, K ++ [⟨f, t, d, y⟩], by omega, by go_num, StepsBy.push (a := ⟨f, t, d, y⟩) (OwE.alloc (OwE.past hown hb2) _) ((hp.trans hb2).alloc _) HSEP.out (fun b hb => (OwE.blk_lt (OwE.alloc (OwE.past hq hb2) _) hb).2) hown3 hg3 (fun h => absurd (hiff.1 h).2 (by decide)) HAT.out, hq3, HN⟩
          case measure => simp [intOf]; omega
    · obtain rfl : j = L.length := by omega
      obtain rfl : R = some K := HRR.out.trans ((upF_all rfl).symm.trans HK.out)
      clear HRR HK
      go_wp2
      go_ret2
      exact ⟨A', k', rfl, OwE.less hown hp0.sz, hp0.trans hp⟩
end Go.Proofs.YtdcdjocjlicplaaDoor
