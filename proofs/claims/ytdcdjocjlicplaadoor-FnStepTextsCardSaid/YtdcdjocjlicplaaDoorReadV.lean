/-
  Contracts: words and numbers of a text, and the variant read of it, by the program.
-/
import Derived.Test.YtdcdjocjlicplaaDoorReadD
import Derived.Test.YtdcdjocjlicplaaDoorPut
namespace Go.Proofs.YtdcdjocjlicplaaDoor
open Go.ChangeShapes Go.WideShapes Go.ChangeAt Go.RowKit Go.Joins

/-! ### Words -/
theorem cutAt_cons_eq (b c : UInt8) (r : List UInt8) : cutAt b (c :: r) = if c = b then [] :: cutAt b r else (c :: (cutAt b r).headD []) :: (cutAt b r).tail := rfl
theorem cutAt_bd (b : UInt8) : ∀ s : List UInt8, (cutAt b s).length ≤ s.length + 1 ∧ ∀ x ∈ cutAt b s, x.length ≤ s.length
  | [] => by simp [cutAt]
  | c :: r => by
    obtain ⟨h1, h2⟩ := cutAt_bd b r
    have h3 := cutAt_ne b r
    rw [cutAt_cons_eq]
    generalize cutAt b r = L at h1 h2 h3 ⊢
    cases L with
    | nil => exact absurd rfl h3
    | cons y L =>
      split
      · refine ⟨by simp at h1 ⊢; omega, fun x hx => ?_⟩
        simp only [List.mem_cons] at hx
        rcases hx with rfl | hx
        · simp
        · have := h2 x (by simpa using hx)
          simp only [List.length_cons]
          omega
      · refine ⟨by simp at h1 ⊢; omega, fun x hx => ?_⟩
        simp only [List.headD_cons, List.tail_cons, List.mem_cons] at hx
        rcases hx with rfl | hx
        · have := h2 y (by simp)
          simp only [List.length_cons]
          omega
        · have := h2 x (by simp [hx])
          simp only [List.length_cons]
          omega
/-- The words of a text. -/
def cutB (b : UInt8) (s : ByteArray) : List ByteArray := (cutAt b s.data.toList).map fun l => ⟨l.toArray⟩
theorem cutB_len (b : UInt8) (s : ByteArray) : (cutB b s).length ≤ s.size + 1 := by
  have := (cutAt_bd b s.data.toList).1
  rw [Array.length_toList] at this
  unfold cutB
  rw [List.length_map]
  exact this
theorem cutB_size {b : UInt8} {s x : ByteArray} (h : x ∈ cutB b s) : x.size ≤ s.size := by
  simp only [cutB, List.mem_map] at h
  obtain ⟨l, hl, rfl⟩ := h
  have := (cutAt_bd b s.data.toList).2 l hl
  rw [Array.length_toList] at this
  show l.toArray.size ≤ s.data.size
  rw [List.size_toArray]
  exact this
theorem cutB_data (b : UInt8) (s : ByteArray) : (cutB b s).map (·.data.toList) = cutAt b s.data.toList := by
  simp [cutB, List.map_map, Function.comp_def]
theorem splitB_eq (b : UInt8) (s : ByteArray) : Lib.splitB ⟨#[b]⟩ 0 (Lib.countB s ⟨#[b]⟩) s = cutB b s := by
  unfold cutB
  rw [← splitB_cut, List.map_map]
  conv => lhs; rw [← List.map_id (Lib.splitB ⟨#[b]⟩ 0 (Lib.countB s ⟨#[b]⟩) s)]
  apply List.map_congr_left
  intro x _
  simp
/-- The slice value of address A and length n reads as the strings L. -/
def RdT (w : World) (A : Option Addr) (n : Nat) (L : List ByteArray) : Prop :=
  L.length = n ∧ (0 < n → ∃ b o, A = some ⟨b, o, none⟩ ∧ ∀ j x, L[j]? = some x → w.cell? ⟨b, o + j, none⟩ = some (.string x))
theorem RdT.past {w w' : World} {A : Option Addr} {n : Nat} {L : List ByteArray} (h : RdT w A n L) (p : Past w w') : RdT w' A n L :=
  ⟨h.1, fun hn => by
    obtain ⟨b, o, hA, hc⟩ := h.2 hn
    exact ⟨b, o, hA, fun j x hj => p.keep (hc j x hj)⟩⟩
theorem RdT.at_ {w : World} {A : Option Addr} {n : Nat} {L : List ByteArray} (h : RdT w A n L) {j : Nat} (hj : j < n) :
    ∃ b o x, A = some ⟨b, o, none⟩ ∧ L[j]? = some x ∧ w.cell? ⟨b, o + j, none⟩ = some (.string x) := by
  obtain ⟨b, o, hA, hc⟩ := h.2 (by omega)
  have hl : j < L.length := by rw [h.1]; exact hj
  exact ⟨b, o, L[j], hA, List.getElem?_eq_getElem hl, hc j _ (List.getElem?_eq_getElem hl)⟩
def WordsRet (w : World) (L : List ByteArray) (e : Ending) (w' : World) : Prop := ∃ b k, e = .returned (.slice (some ⟨b, 0, none⟩) L.length k) ∧ RdT w' (some ⟨b, 0, none⟩) L.length L ∧ Past w w'
theorem split_any (s : ByteArray) (b : UInt8) (w : World) (hg : Glob w) (hs : s.size ≤ 1048576) :
    Calls Tryd.prog 53 #[.string s, .string ⟨#[b]⟩] w (WordsRet w (cutB b s)) := by
  obtain ⟨⟨m, hm⟩, _⟩ := hg
  refine (Tryd.strings_Split s ⟨#[b]⟩ m w (by omega) hm (by simp [ByteArray.size])).mono fun e w' ⟨he, hw⟩ => ?_
  have hl : Lib.countB s ⟨#[b]⟩ + 1 = (cutB b s).length := by rw [← splitB_eq, splitB_len]
  rw [hl] at he
  rw [splitB_eq] at hw
  subst hw
  exact ⟨_, _, he, ⟨rfl, fun _ => ⟨_, 0, rfl, fun j x hj => by
    rw [Nat.zero_add]
    exact (Blk.new w 9 _).cell j (by simp [hj])⟩⟩, (Past.refl _).alloc _⟩

/-! ### Numbers -/
theorem allD_snoc (xs : List (List UInt8)) (x : List UInt8) : allD (xs ++ [x]) = match allD xs, rdD x with
    | some K, some v => some (K ++ [v])
    | _, _ => none := by
  induction xs with
  | nil =>
    rw [List.nil_append]
    cases h : rdD x <;> simp [allD, h]
  | cons y r ih =>
    rw [List.cons_append, allD, ih, allD]
    cases rdD y with
    | none => rfl
    | some u =>
      cases allD r with
      | none => rfl
      | some K => cases rdD x <;> simp
theorem allD_app_none {xs ys : List (List UInt8)} (h : allD xs = none) : allD (xs ++ ys) = none := by
  induction xs with
  | nil => cases h
  | cons y r ih =>
    rw [List.cons_append, allD]
    unfold allD at h
    cases hy : rdD y with
    | none => rfl
    | some u =>
      rw [hy] at h
      simp only [Option.map_eq_none_iff] at h
      simp [ih h]
theorem allD_len {xs : List (List UInt8)} {K : List Int} (h : allD xs = some K) : K.length = xs.length := by
  induction xs generalizing K with
  | nil => cases h; rfl
  | cons y r ih =>
    obtain ⟨v, K', rfl, _, h2⟩ := allD_cons h
    simp [ih h2]
/-- The numbers of the first j words. -/
def numsTo (L : List ByteArray) (j : Nat) : Option (List Int) := allD ((L.take j).map (·.data.toList))
theorem numsTo_next {L : List ByteArray} {j : Nat} {x : ByteArray} (h : L[j]? = some x) {K : List Int} {v : Int} (hk : numsTo L j = some K) (hv : rdD x.data.toList = some v) : numsTo L (j + 1) = some (K ++ [v]) := by
  unfold numsTo at hk ⊢
  rw [List.take_add_one, h, Option.toList_some, List.map_append, List.map_singleton, allD_snoc, hk, hv]
theorem numsTo_none {L : List ByteArray} {j : Nat} {x : ByteArray} (h : L[j]? = some x) {K : List Int} (hk : numsTo L j = some K) (hv : rdD x.data.toList = none) : allD (L.map (·.data.toList)) = none := by
  have h1 : numsTo L (j + 1) = none := by
    unfold numsTo at hk ⊢
    rw [List.take_add_one, h, Option.toList_some, List.map_append, List.map_singleton, allD_snoc, hk, hv]
  have h2 := allD_app_none (ys := (L.drop (j + 1)).map (·.data.toList)) h1
  rwa [← List.map_append, List.take_append_drop] at h2
theorem numsTo_all {L : List ByteArray} {n : Nat} (h : L.length = n) : numsTo L n = allD (L.map (·.data.toList)) := by
  unfold numsTo
  rw [List.take_of_length_le (by omega)]
theorem numsTo_len {L : List ByteArray} {j : Nat} (hj : j ≤ L.length) {K : List Int} (h : numsTo L j = some K) : K.length = j := by
  have := allD_len h
  rw [List.length_map, List.length_take] at this
  omega
def ZsIn (w1 wr : World) (v : Value) (L : List Int) : Prop := ∃ A k, v = .slice A L.length k ∧ OwI w1.heap.size wr A L.length k L ∧ Past w1 wr
theorem ZsIn.past {w1 a b : World} {v : Value} {L : List Int} (h : ZsIn w1 a v L) (p : Past a b) : ZsIn w1 b v L := by
  obtain ⟨A, k, hv, ho, hp⟩ := h
  exact ⟨A, k, hv, ho.past p, Past.trans hp p⟩
theorem ZsIn.nil (w1 : World) : ZsIn w1 w1 (.slice none 0 0) [] := ⟨none, 0, rfl, World.ownsRow_nil _ _ _ _, Past.refl _⟩
theorem ZsIn.empty (w1 : World) (t : TypeId) (ht : t = 2) : ZsIn w1 (w1.alloc (.cells #[] t)) (.slice (some ⟨w1.heap.size, 0, none⟩) 0 0) [] :=
  ⟨some ⟨w1.heap.size, 0, none⟩, 0, rfl, by subst ht; exact World.ownsRow_lit w1 #[] 0 (Nat.le_refl _) (Nat.zero_le _) rfl, Past.alloc (Past.refl _) _⟩
theorem ZsIn.push {w1 w w' : World} {A : Option Addr} {k : Nat} {L : List Int} {x : Int} {v' : Value} (ho : OwI w1.heap.size w A L.length k L) (hp : Past w1 w)
    (h : w'.ownsRow w1.heap.size 2 1 v' (L.length + 1) (L.map (Value.int .i64) ++ [.int .i64 x])) (hg : w.grownBy w' (Value.slice A L.length k).ownBlock) (hnil : v' ≠ .slice none 0 0) : ZsIn w1 w' v' (L ++ [x]) := by
  obtain ⟨A', k', rfl, ho'⟩ := own_push rfl h hnil
  exact ⟨A', k', rfl, ho', past_grown hp ho (Nat.le_refl _) hg⟩
def NumsRet (w : World) (r : Option (List Int)) (e : Ending) (w' : World) : Prop :=
  ∃ A k, e = .returned (.tuple #[.slice A (r.getD []).length k, .bool r.isSome]) ∧ OwI w.heap.size w' A (r.getD []).length k (r.getD []) ∧ Past w w'
set_option maxHeartbeats 2000000 in
set_option maxRecDepth 100000 in
theorem splitNumbers_any (s : ByteArray) (b : UInt8) (w : World) (hg : Glob w) (hs : s.size ≤ 1048576) :
    Calls Tryd.prog 49 #[.string s, .string ⟨#[b]⟩] w (NumsRet w (allD (cutAt b s.data.toList))) := by
  rw [← cutB_data]
  obtain ⟨i0, hi, hz0, hz1, hz2⟩ := info_parts infoI
  have hll := cutB_len b s
  have hsz := fun x (h : x ∈ cutB b s) => cutB_size h
  have hsp := fun w h => split_any s b w h hs
  generalize cutB b s = L at hll hsz hsp ⊢
  have HS := Lib.hid hsp
  have HZ := Lib.hid hsz
  clear hsp hsz
  go_enter Tryd.func49, Tryd.ntmps49
  go_wp2_with (go_at_call 53; (with_reducible refine (HS.out _ (hg.past (by repeat (first | exact Past.refl _ | assumption | refine Past.alloc ?_ _ | refine Past.drew ?_ | refine Past.drewN ?_ _ | refine Past.setCell ?_ (by first | (simp; done) | (simp <;> omega)) _ | refine Past.trans ?_ (past_over _ _) | refine Past.trans ?_ (by assumption))))).mono ?_); rintro e w1 ⟨bb, kk, rfl, hrd, hb1⟩)
  have hp1 : Past w w1 := (by repeat (first | exact Past.refl _ | assumption | refine Past.alloc ?_ _ | refine Past.drew ?_ | refine Past.drewN ?_ _ | refine Past.setCell ?_ (by first | (simp; done) | (simp <;> omega)) _ | refine Past.trans ?_ (past_over _ _) | refine Past.trans ?_ (by assumption)))
  have hg1 := hg.past hp1
  go_loopw [6, 15] (fun v i wr => ∃ (j : Nat) (K : List Int), j ≤ L.length ∧ i = .int .i64 (j : Int) ∧ ZsIn w1 wr v K ∧ Hid (numsTo L j = some K)) (fun _ i _ => L.length - (intOf i).toNat)
  case atStart => exact ⟨0, [], Nat.zero_le _, rfl, ZsIn.nil w1, Lib.hid rfl⟩
  case round =>
    obtain ⟨j, K, hj, rfl, ⟨A', k', rfl, hown, hp⟩, HK⟩ := hrel
    have hKb : K.length ≤ 1048577 := by have := numsTo_len hj HK.out; omega
    by_cases hlt : j < L.length
    · have hlt2 : (j : Int) < (L.length : Int) := by omega
      obtain ⟨b2, o2, x, hA, hxj, hcx⟩ := (hrd.past hp).at_ hlt
      simp only [Option.some.injEq, Addr.mk.injEq] at hA
      obtain ⟨rfl, rfl, _⟩ := hA
      rw [Nat.zero_add] at hcx
      have hxs := HZ.out x (List.mem_of_getElem? hxj)
      have HX := Lib.hid hxj
      clear hxj
      have hrdx := fun w h => readDecimal_any x w h (by omega)
      cases hv : rdD x.data.toList with
      | none =>
        have HN := Lib.hid (numsTo_none HX.out HK.out hv)
        rw [hv] at hrdx
        have HR := Lib.hid hrdx
        clear hrdx hv
        go_wp2_with (go_at_call 65; (with_reducible refine (HR.out _ (hg1.past (by repeat (first | exact Past.refl _ | assumption | refine Past.alloc ?_ _ | refine Past.drew ?_ | refine Past.drewN ?_ _ | refine Past.setCell ?_ (by first | (simp; done) | (simp <;> omega)) _ | refine Past.trans ?_ (past_over _ _) | refine Past.trans ?_ (by assumption))))).mono ?_); rintro e w2 ⟨rfl, hb2⟩; obtain ⟨hc2, hf2, _⟩ := hb2.cells)
        go_ret2
        rw [HN.out]
        exact ⟨none, 0, rfl, World.ownsRow_nil _ _ _ _, (by repeat (first | exact Past.refl _ | assumption | refine Past.alloc ?_ _ | refine Past.drew ?_ | refine Past.drewN ?_ _ | refine Past.setCell ?_ (by first | (simp; done) | (simp <;> omega)) _ | refine Past.trans ?_ (past_over _ _) | refine Past.trans ?_ (by assumption)))⟩
      | some v =>
        have HN := Lib.hid (numsTo_next HX.out HK.out hv)
        rw [hv] at hrdx
        have HR := Lib.hid hrdx
        clear hrdx hv
        go_wp2_with (first | (go_at_call 65; (with_reducible refine (HR.out _ (hg1.past (by repeat (first | exact Past.refl _ | assumption | refine Past.alloc ?_ _ | refine Past.drew ?_ | refine Past.drewN ?_ _ | refine Past.setCell ?_ (by first | (simp; done) | (simp <;> omega)) _ | refine Past.trans ?_ (past_over _ _) | refine Past.trans ?_ (by assumption))))).mono ?_); rintro e w2 ⟨rfl, hb2⟩; obtain ⟨hc2, hf2, _⟩ := hb2.cells) | (at_builtin; refine wpList_append_own _ rfl _ _ 64 rfl w1.heap.size 2 i0 (.int .i64 0) 1 8 Tryd.underlying64 hi hz0 hz1 hz2 rfl (by decide) _ K.length (K.map (Value.int .i64)) rfl ((hown.past hb2).alloc _) ⟨w2.heap.size, 0, none⟩ 1 1 [.int .i64 v] rfl rfl (cell_one_new _ _ _) (by intro u hu; simp at hu; subst hu; rfl) (by unfold maxLen; omega) (by omega) (Nat.le_trans (hp.trans hb2).size (by simp)) ?_; intro v2 w5 hown5 hg5 hiff))
        go_roundw
        case rel => exact ⟨j + 1, K ++ [v], by omega, by go_num, ZsIn.push ((hown.past hb2).alloc _) ((hp.trans hb2).alloc _) hown5 hg5 (fun h => absurd (hiff.1 h).2 (by decide)), HN⟩
        case measure => simp [intOf]; omega
    · obtain rfl : j = L.length := by omega
      have HE := Lib.hid (show allD (L.map (·.data.toList)) = some K from (numsTo_all rfl).symm.trans HK.out)
      go_wp2
      go_ret2
      rw [HE.out]
      exact ⟨A', k', rfl, hown.less hp1.sz, hp1.trans hp⟩
end Go.Proofs.YtdcdjocjlicplaaDoor
