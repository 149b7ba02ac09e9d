/-
  Plain facts: what is read of the text of a step, by the program and by the reference.
-/
import Derived.Test.YtdcdjocjlicplaaDoorStepU
import Derived.Test.YtdcdjocjlicplaaDoorStp
namespace Go.Proofs.YtdcdjocjlicplaaDoor
open Go.ChangeShapes Go.WideShapes Go.ChangeAt Go.RowKit Go.Joins

/-- The step is plain and this is its text. -/
def tripOk (p s : Int) (l : List UInt8) (a : Stp) : Bool := plS p s a.f a.t a.d a.x && decide (stTxt p a.f a.t a.d a.x = l)
theorem tripOk_yes {p s : Int} {l : List UInt8} {a : Stp} (h : tripOk p s l a = true) : plS p s a.f a.t a.d a.x = true ∧ stTxt p a.f a.t a.d a.x = l := by
  simpa [tripOk] using h
def wI (n : Int) : Int := IntKind.i64.wrap n
theorem wI_in {n : Int} (h : -9223372036854775808 ≤ n ∧ n ≤ 9223372036854775807) : wI n = n := IntWalk.i64_in _ (by omega)
/-! ### The program's reading -/
def fromP (p : Int) (l : List UInt8) : Option Int := if l = [98, 97, 114] then some p else (rdD l).map fun n => wI (n - 1)
def restP (r : List UInt8) : List UInt8 := Lib.trimPrefix r [111, 102, 102]
def innerP (q : List UInt8) : List UInt8 := Lib.trimSuffix (Lib.trimPrefix q [40]) [41]
def toP (F : Int) (r : List UInt8) : Option Stp :=
  if Lib.hasPrefix r [111, 102, 102] = true then
    (if restP r = [] then some ⟨F, -1, wI (F + 1), false⟩ else (rdD (innerP (restP r))).map fun n => ⟨F, -1, n, false⟩)
  else (rdD (Lib.trimSuffix r [42])).map fun n => ⟨F, wI (n - 1), wI (F - wI (n - 1)), Lib.hasSuffix r [42]⟩
def rawP (p : Int) (l : List UInt8) : Option Stp := if (Lib.cut l [47]).2.2 = true then (fromP p (Lib.cut l [47]).1).bind fun F => toP F (Lib.cut l [47]).2.1 else none
def rdSt (p s : Int) (l : List UInt8) : Option Stp :=
  match rawP p l with
  | some a => if tripOk p s l a = true then some a else none
  | none => none
/-! ### The reference's -/
def fromR (p : Int) (l : List UInt8) : Int := if l = [98, 97, 114] then p else lv0 l - 1
def toR (F : Int) (r : List UInt8) : Stp :=
  if 3 ≤ r.length ∧ r.take 3 = [111, 102, 102] then ⟨F, -1, if 5 < r.length then lv0 ((r.take (r.length - 1)).drop 4) else F + 1, false⟩
  else if 0 < r.length ∧ r.getD (r.length - 1) 0 = 42 then ⟨F, lv0 (r.take (r.length - 1)) - 1, F - (lv0 (r.take (r.length - 1)) - 1), true⟩
  else ⟨F, lv0 r - 1, F - (lv0 r - 1), false⟩
def rawR (p : Int) (l : List UInt8) : Stp :=
  match cutAt 47 l with
  | [a, b] => toR (fromR p a) b
  | _ => ⟨0, 0, 0, false⟩
def refSt (p s : Int) (l : List UInt8) : Option Stp := if tripOk p s l (rawR p l) = true then some (rawR p l) else none

/-! ### Both read a plain step of its text -/
theorem dec_bar {n : Int} (h : 0 ≤ n) (h2 : n < 100) : dec n ≠ [98, 97, 114] := fun e => by
  have := dec_digit h h2 (c := 98) (by rw [e]; simp)
  simp at this
theorem fromT_free {p f : Int} (h0 : 0 ≤ f) (_ : f ≤ p) (hp : p ≤ 24) : (47 : UInt8) ∉ fromT p f := by
  unfold fromT
  split
  · exact dec_free (by omega) (by omega) (by decide)
  · decide
theorem fromP_ok {p f : Int} (h0 : 0 ≤ f) (h1 : f ≤ p) (hp : p ≤ 24) : fromP p (fromT p f) = some f := by
  unfold fromT fromP
  by_cases h : f < p
  · rw [if_pos h, if_neg (dec_bar (by omega) (by omega)), rdD_dec (by omega) (by omega), Option.map_some, wI_in (by omega)]
    congr 1
    omega
  · rw [if_neg h, if_pos rfl]
    congr 1
    omega
theorem fromR_ok {p f : Int} (h0 : 0 ≤ f) (h1 : f ≤ p) (hp : p ≤ 24) : fromR p (fromT p f) = f := by
  unfold fromT fromR
  by_cases h : f < p
  · rw [if_pos h, if_neg (dec_bar (by omega) (by omega)), lv0, lv_dec (by omega) (by omega), Option.getD_some]
    omega
  · rw [if_neg h, if_pos rfl]
    omega
theorem to_in : ∀ i : Fin 30, (Lib.hasPrefix (decT i.val) [111, 102, 102] = false ∧ Lib.trimSuffix (decT i.val) [42] = decT i.val ∧ Lib.hasSuffix (decT i.val) [42] = false) ∧
    (Lib.hasPrefix (decT i.val ++ [42]) [111, 102, 102] = false ∧ Lib.trimSuffix (decT i.val ++ [42]) [42] = decT i.val ∧ Lib.hasSuffix (decT i.val ++ [42]) [42] = true) := by decide +kernel
theorem to_off : ∀ i : Fin 30, Lib.hasPrefix ([111, 102, 102] ++ 40 :: (decT i.val ++ [41])) [111, 102, 102] = true ∧ ¬ restP ([111, 102, 102] ++ 40 :: (decT i.val ++ [41])) = [] ∧ innerP (restP ([111, 102, 102] ++ 40 :: (decT i.val ++ [41]))) = decT i.val := by decide +kernel
theorem toP_ok {p s f t d : Int} {x : Bool} (h : plS p s f t d x = true) (hp : p ≤ 24) (hs : s ≤ 6) : toP f (toT f t d x) = some ⟨f, t, d, x⟩ := by
  obtain ⟨b1, b2, b3⟩ := plS_yes h
  unfold toT
  by_cases h0 : 0 ≤ t
  · have e3 : t = f - d := by omega
    have ed := dec_eq (n := t + 1) (by omega) (by omega)
    obtain ⟨⟨k1, k2, k3⟩, k4, k5, k6⟩ := to_in ⟨(t + 1).toNat, by omega⟩
    simp only at k1 k2 k3 k4 k5 k6
    rw [← ed] at k1 k2 k3 k4 k5 k6
    have hr := rdD_dec (n := t + 1) (by omega) (by omega)
    have w1 : wI (t + 1 - 1) = t := by rw [wI_in (by omega)]; omega
    have w2 : wI (f - t) = d := by rw [wI_in (by omega)]; omega
    rw [if_pos h0]
    cases x
    · rw [if_neg (by decide)]
      unfold toP
      rw [if_neg (by rw [k1]; decide), k2, k3, hr, Option.map_some, w1, w2]
    · rw [if_pos rfl]
      unfold toP
      rw [if_neg (by rw [k4]; decide), k5, k6, hr, Option.map_some, w1, w2]
  · have ht : t = -1 := by omega
    have hx : x = false := by rcases b3 with b3 | b3 <;> first | exact b3.2.1 | omega
    subst ht hx
    rw [if_neg h0]
    by_cases hd : d = f + 1
    · rw [if_pos hd]
      unfold toP
      rw [if_pos (by decide), if_pos (by decide), wI_in (by omega), hd]
    · rw [if_neg hd]
      have ed := dec_eq (n := d) (by omega) (by omega)
      obtain ⟨k1, k2, k3⟩ := to_off ⟨d.toNat, by omega⟩
      simp only at k1 k2 k3
      rw [← ed] at k1 k2 k3
      unfold toP
      rw [if_pos k1, if_neg k2, k3, rdD_dec (by omega) (by omega), Option.map_some]
theorem toR_in : ∀ i : Fin 30, (¬ (3 ≤ (decT i.val).length ∧ (decT i.val).take 3 = [111, 102, 102]) ∧ ¬ (0 < (decT i.val).length ∧ (decT i.val).getD ((decT i.val).length - 1) 0 = 42)) ∧
    (¬ (3 ≤ (decT i.val ++ [42]).length ∧ (decT i.val ++ [42]).take 3 = [111, 102, 102]) ∧ (0 < (decT i.val ++ [42]).length ∧ (decT i.val ++ [42]).getD ((decT i.val ++ [42]).length - 1) 0 = 42) ∧ (decT i.val ++ [42]).take ((decT i.val ++ [42]).length - 1) = decT i.val) := by decide +kernel
theorem toR_off : ∀ i : Fin 30, (3 ≤ ([111, 102, 102] ++ 40 :: (decT i.val ++ [41])).length ∧ ([111, 102, 102] ++ 40 :: (decT i.val ++ [41])).take 3 = [111, 102, 102]) ∧ 5 < ([111, 102, 102] ++ 40 :: (decT i.val ++ [41])).length ∧
    (([111, 102, 102] ++ 40 :: (decT i.val ++ [41])).take (([111, 102, 102] ++ 40 :: (decT i.val ++ [41])).length - 1)).drop 4 = decT i.val := by decide +kernel
theorem toR_ok {p s f t d : Int} {x : Bool} (h : plS p s f t d x = true) (hp : p ≤ 24) (hs : s ≤ 6) : toR f (toT f t d x) = ⟨f, t, d, x⟩ := by
  obtain ⟨b1, b2, b3⟩ := plS_yes h
  unfold toT
  by_cases h0 : 0 ≤ t
  · have ed := dec_eq (n := t + 1) (by omega) (by omega)
    obtain ⟨⟨k1, k2⟩, k3, k4, k5⟩ := toR_in ⟨(t + 1).toNat, by omega⟩
    simp only at k1 k2 k3 k4 k5
    rw [← ed] at k1 k2 k3 k4 k5
    have hr : lv0 (dec (t + 1)) - 1 = t := by rw [lv0, lv_dec (n := t + 1) (by omega) (by omega), Option.getD_some]; omega
    have w2 : f - t = d := by omega
    rw [if_pos h0]
    cases x
    · rw [if_neg (by decide)]
      unfold toR
      rw [if_neg k1, if_neg k2, hr, w2]
    · rw [if_pos rfl]
      unfold toR
      rw [if_neg k3, if_pos k4, k5, hr, w2]
  · have ht : t = -1 := by omega
    have hx : x = false := by rcases b3 with b3 | b3 <;> first | exact b3.2.1 | omega
    subst ht hx
    rw [if_neg h0]
    by_cases hd : d = f + 1
    · rw [if_pos hd]
      unfold toR
      rw [if_pos (by decide), if_neg (by decide), hd]
    · rw [if_neg hd]
      have ed := dec_eq (n := d) (by omega) (by omega)
      obtain ⟨k1, k2, k3⟩ := toR_off ⟨d.toNat, by omega⟩
      simp only at k1 k2 k3
      rw [← ed] at k1 k2 k3
      unfold toR
      rw [if_pos k1, if_pos k2, k3, lv0, lv_dec (by omega) (by omega), Option.getD_some]
theorem dec_ne (n : Int) (h : 0 ≤ n) (h2 : n < 100) : (47 : UInt8) ∉ dec n := dec_free h h2 (by decide)
theorem toT_free {p s f t d : Int} {x : Bool} (h : plS p s f t d x = true) (hp : p ≤ 24) (hs : s ≤ 6) : (47 : UInt8) ∉ toT f t d x := by
  obtain ⟨b1, b2, b3⟩ := plS_yes h
  unfold toT
  split
  · have := dec_ne (t + 1) (by omega) (by omega)
    split <;> simp [this]
  · split
    · decide
    · have := dec_ne d (by omega) (by omega)
      simp [this]
theorem rdSt_txt {p s f t d : Int} {x : Bool} (h : plS p s f t d x = true) (hp : p ≤ 24) (hs : s ≤ 6) : rdSt p s (stTxt p f t d x) = some ⟨f, t, d, x⟩ := by
  obtain ⟨b1, b2, b3⟩ := plS_yes h
  have e1 : rawP p (stTxt p f t d x) = some ⟨f, t, d, x⟩ := by
    unfold rawP stTxt
    rw [cut_hit _ (fromT_free b1.1 b1.2 hp), if_pos rfl, fromP_ok b1.1 b1.2 hp, Option.bind_some, toP_ok h hp hs]
  unfold rdSt
  rw [e1]
  simp only
  rw [if_pos (by simp [tripOk, h])]
theorem refSt_txt {p s f t d : Int} {x : Bool} (h : plS p s f t d x = true) (hp : p ≤ 24) (hs : s ≤ 6) : refSt p s (stTxt p f t d x) = some ⟨f, t, d, x⟩ := by
  obtain ⟨b1, b2, b3⟩ := plS_yes h
  have e1 : rawR p (stTxt p f t d x) = ⟨f, t, d, x⟩ := by
    unfold rawR stTxt
    rw [cutAt_hit _ (fromT_free b1.1 b1.2 hp), cutAt_free (toT_free h hp hs)]
    simp only
    rw [fromR_ok b1.1 b1.2 hp, toR_ok h hp hs]
  unfold refSt
  rw [e1, if_pos (by simp [tripOk, h])]
theorem rdSt_yes {p s : Int} {l : List UInt8} {a : Stp} (h : rdSt p s l = some a) : plS p s a.f a.t a.d a.x = true ∧ stTxt p a.f a.t a.d a.x = l := by
  unfold rdSt at h
  split at h
  · split at h
    · rename_i h1
      simp only [Option.some.injEq] at h
      subst h
      exact tripOk_yes h1
    · cases h
  · cases h
theorem refSt_yes {p s : Int} {l : List UInt8} {a : Stp} (h : refSt p s l = some a) : plS p s a.f a.t a.d a.x = true ∧ stTxt p a.f a.t a.d a.x = l := by
  unfold refSt at h
  split at h
  · rename_i h1
    simp only [Option.some.injEq] at h
    subst h
    exact tripOk_yes h1
  · cases h
theorem refSt_eq {p s : Int} (hp : p ≤ 24) (hs : s ≤ 6) (l : List UInt8) : refSt p s l = rdSt p s l := by
  cases h1 : refSt p s l with
  | some a =>
    obtain ⟨h2, rfl⟩ := refSt_yes h1
    rw [rdSt_txt h2 hp hs]
  | none =>
    cases h2 : rdSt p s l with
    | none => rfl
    | some a =>
      obtain ⟨h3, rfl⟩ := rdSt_yes h2
      rw [refSt_txt h3 hp hs] at h1
      cases h1
end Go.Proofs.YtdcdjocjlicplaaDoor
