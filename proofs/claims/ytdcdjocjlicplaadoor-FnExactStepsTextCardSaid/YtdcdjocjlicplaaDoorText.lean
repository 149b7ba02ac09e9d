/-
  Plain facts: decimals; texts cut at a byte; the texts of variants and what is read of them.
-/
import Derived.Lib.Split
import Derived.Lib.SplitLaws
import Derived.Lib.ParseIntB
import Derived.Lib.ItoaNum
import Derived.Lib.Join
import Derived.Test.YtdcdjocjlicplaaDoorBase
namespace Go.Proofs.YtdcdjocjlicplaaDoor

/-! ### A text cut at a byte -/
def cutAt (b : UInt8) : List UInt8 → List (List UInt8)
  | [] => [[]]
  | c :: r => if c = b then [] :: cutAt b r else (c :: (cutAt b r).headD []) :: (cutAt b r).tail

theorem cutAt_free {b : UInt8} : ∀ {x : List UInt8}, b ∉ x → cutAt b x = [x]
  | [], _ => rfl
  | c :: r, h => by
    have h1 : c ≠ b := fun e => h (by simp [e])
    have h2 : b ∉ r := fun e => h (by simp [e])
    rw [cutAt, if_neg h1, cutAt_free h2]
    rfl
theorem cutAt_hit {b : UInt8} : ∀ {x : List UInt8} (y : List UInt8), b ∉ x → cutAt b (x ++ b :: y) = x :: cutAt b y
  | [], y, _ => by rw [List.nil_append, cutAt, if_pos rfl]
  | c :: r, y, h => by
    have h1 : c ≠ b := fun e => h (by simp [e])
    have h2 : b ∉ r := fun e => h (by simp [e])
    rw [List.cons_append, cutAt, if_neg h1, cutAt_hit y h2]
    rfl
theorem cut_first (b : UInt8) : ∀ s : List UInt8, b ∉ s ∨ ∃ x t, s = x ++ b :: t ∧ b ∉ x
  | [] => .inl (by simp)
  | c :: r => by
    by_cases h : c = b
    · exact .inr ⟨[], r, by simp [h], by simp⟩
    · rcases cut_first b r with h2 | ⟨x, t, rfl, hx⟩
      · exact .inl (by simp [Ne.symm h, h2])
      · exact .inr ⟨c :: x, t, rfl, by simp [Ne.symm h, hx]⟩
theorem cutAt_cons {b : UInt8} {s x y : List UInt8} {r : List (List UInt8)} (h : cutAt b s = x :: y :: r) : ∃ t, s = x ++ b :: t ∧ b ∉ x ∧ cutAt b t = y :: r := by
  rcases cut_first b s with h1 | ⟨u, t, rfl, hu⟩
  · rw [cutAt_free h1] at h; simp at h
  · rw [cutAt_hit t hu] at h
    simp only [List.cons.injEq] at h
    obtain ⟨rfl, h2⟩ := h
    exact ⟨t, rfl, hu, h2⟩
theorem cutAt_one {b : UInt8} {s x : List UInt8} (h : cutAt b s = [x]) : s = x ∧ b ∉ x := by
  rcases cut_first b s with h1 | ⟨u, t, rfl, hu⟩
  · rw [cutAt_free h1] at h
    simp only [List.cons.injEq, and_true] at h
    subst h
    exact ⟨rfl, h1⟩
  · rw [cutAt_hit t hu] at h
    simp only [List.cons.injEq] at h
    obtain ⟨rfl, h2⟩ := h
    rcases cut_first b t with h3 | ⟨z, t2, rfl, hz⟩
    · rw [cutAt_free h3] at h2; simp at h2
    · rw [cutAt_hit t2 hz] at h2; simp at h2
theorem cutAt_ne (b : UInt8) (s : List UInt8) : cutAt b s ≠ [] := by
  rcases cut_first b s with h1 | ⟨u, t, rfl, hu⟩
  · rw [cutAt_free h1]; simp
  · rw [cutAt_hit t hu]; simp

/-! ### The library's cutting at one byte -/
theorem index_free {b : UInt8} : ∀ {x : List UInt8}, b ∉ x → Lib.index x [b] = -1
  | [], _ => rfl
  | c :: r, h => by
    have h1 : c ≠ b := fun e => h (by simp [e])
    have h2 : b ∉ r := fun e => h (by simp [e])
    rw [Lib.index, index_free h2]
    simp [List.isPrefixOf, Ne.symm h1]
theorem index_hit {b : UInt8} : ∀ {x : List UInt8} (y : List UInt8), b ∉ x → Lib.index (x ++ b :: y) [b] = (x.length : Int)
  | [], y, _ => by simp [Lib.index, List.isPrefixOf]
  | c :: r, y, h => by
    have h1 : c ≠ b := fun e => h (by simp [e])
    have h2 : b ∉ r := fun e => h (by simp [e])
    rw [List.cons_append, Lib.index, index_hit y h2]
    have e : ((r.length : Int) == -1) = false := by rw [beq_eq_false_iff_ne]; omega
    simp [List.isPrefixOf, Ne.symm h1, e]
theorem cut_hit {b : UInt8} {x : List UInt8} (y : List UInt8) (h : b ∉ x) : Lib.cut (x ++ b :: y) [b] = (x, y, true) := by
  unfold Lib.cut
  rw [index_hit y h, if_pos (by omega)]
  simp
theorem cut_free {b : UInt8} {x : List UInt8} (h : b ∉ x) : Lib.cut x [b] = (x, [], false) := by
  unfold Lib.cut
  rw [index_free h, if_neg (by omega)]
theorem splitK_cut (b : UInt8) : ∀ (n : Nat) (s : List UInt8), s.length ≤ n → Lib.splitK [b] 0 (Lib.count s [b]) s = cutAt b s
  | n, s, hn => by
    rcases cut_first b s with h1 | ⟨u, t, rfl, hu⟩
    · rw [Lib.count_miss (index_free h1), cutAt_free h1]
      rfl
    · rw [Lib.count_hit (by simp) (index_hit t hu), cutAt_hit t hu, Nat.add_comm 1]
      have e : ((u.length : Int) == -1) = false := by rw [beq_eq_false_iff_ne]; omega
      have e2 : (u ++ b :: t).drop (u.length + 1) = t := by simp
      rw [Lib.splitK, index_hit t hu, if_neg (by simp [e])]
      simp only [Int.toNat_natCast, List.length_cons, List.length_nil, Nat.zero_add, Nat.add_zero, e2]
      rw [List.take_left]
      cases n with
      | zero => simp at hn
      | succ n => rw [splitK_cut b n t (by simp at hn; omega)]
theorem splitB_cut (b : UInt8) (s : ByteArray) : (Lib.splitB ⟨#[b]⟩ 0 (Lib.countB s ⟨#[b]⟩) s).map (·.data.toList) = cutAt b s.data.toList := by
  rw [Lib.splitB_data]
  exact splitK_cut b _ _ (Nat.le_refl _)
theorem splitB_len (b : UInt8) (s : ByteArray) : (Lib.splitB ⟨#[b]⟩ 0 (Lib.countB s ⟨#[b]⟩) s).length = Lib.countB s ⟨#[b]⟩ + 1 :=
  Lib.splitB_all _ (by simp [ByteArray.size]) 0 _ s rfl

/-! ### Decimals -/
def dec (n : Int) : List UInt8 := Lib.decDigits n.toNat
def decB (n : Int) : ByteArray := ⟨(dec n).toArray⟩
/-- The same below a hundred, for the kernel. -/
def decT (i : Nat) : List UInt8 := if i < 10 then [UInt8.ofNat (48 + i)] else [UInt8.ofNat (48 + i / 10), UInt8.ofNat (48 + i % 10)]
theorem decT_eq {i : Nat} (h : i < 100) : Lib.decDigits i = decT i := by
  unfold decT
  split
  · rename_i h1; exact Lib.decDigits_one h1
  · rename_i h1; exact Lib.decDigits_two h1 h
theorem dec_eq {n : Int} (h : 0 ≤ n) (h2 : n < 100) : dec n = decT n.toNat := decT_eq (by omega)

/-- What the program's reading of a number answers. -/
def rdD (s : List UInt8) : Option Int :=
  match Lib.parseIntB 64 s with
  | .ok v => if (Lib.trimPrefix s [45] ≠ [] ∧ (Lib.trimPrefix s [45]).length ≤ 19) ∧ Lib.itoa v = s then some v else none
  | _ => none
theorem rdD_itoa {s : List UInt8} {v : Int} (h : rdD s = some v) : Lib.itoa v = s := by
  unfold rdD at h
  split at h
  · split at h
    · rename_i h1; simp only [Option.some.injEq] at h; subst h; exact h1.2
    · cases h
  · cases h
theorem rdD_decT : ∀ i : Fin 100, Lib.parseIntB 64 (decT i.val) = .ok (i.val : Int) ∧ Lib.trimPrefix (decT i.val) [45] ≠ [] ∧ (Lib.trimPrefix (decT i.val) [45]).length ≤ 19 := by decide +kernel
theorem rdD_dec {n : Int} (h : 0 ≤ n) (h2 : n < 100) : rdD (dec n) = some n := by
  obtain ⟨h3, h4, h5⟩ := rdD_decT ⟨n.toNat, by omega⟩
  simp only at h3 h4 h5
  rw [dec_eq h h2]
  unfold rdD
  rw [h3]
  have e : (n.toNat : Int) = n := by omega
  have hi : Lib.itoa (n.toNat : Int) = decT n.toNat := by
    rw [e, Lib.itoa, if_neg (by omega)]
    exact decT_eq (by omega)
  simp only
  rw [if_pos ⟨⟨h4, h5⟩, hi⟩, e]
theorem rdD_small {s : List UInt8} {v : Int} (h : rdD s = some v) (h0 : 0 ≤ v) : s = dec v := by
  have := rdD_itoa h
  rw [Lib.itoa, if_neg (by omega)] at this
  exact this.symm

/-- What the reference's reading of a number answers. -/
def lvGo : Int → List UInt8 → Option Int
  | n, [] => some n
  | n, c :: r => if c.toNat < 48 ∨ 57 < c.toNat then none else lvGo (10 * n + ((c.toNat : Int) - 48)) r
def lv (s : List UInt8) : Option Int := if (s.length = 0 ∨ 15 < s.length) ∨ (1 < s.length ∧ s.head? = some 48) then none else lvGo 0 s
theorem lv_decT : ∀ i : Fin 100, lv (decT i.val) = some (i.val : Int) := by decide +kernel
theorem lv_dec {n : Int} (h : 0 ≤ n) (h2 : n < 100) : lv (dec n) = some n := by
  have := lv_decT ⟨n.toNat, by omega⟩
  simp only at this
  rw [dec_eq h h2, this]
  congr 1
  omega

theorem decT_free : ∀ i : Fin 100, ∀ c ∈ decT i.val, 48 ≤ c.toNat ∧ c.toNat ≤ 57 := by decide +kernel
theorem dec_digit {n : Int} (h : 0 ≤ n) (h2 : n < 100) {c : UInt8} (hc : c ∈ dec n) : 48 ≤ c.toNat ∧ c.toNat ≤ 57 := by
  rw [dec_eq h h2] at hc
  exact decT_free ⟨n.toNat, by omega⟩ c hc
theorem dec_free {n : Int} (h : 0 ≤ n) (h2 : n < 100) {b : UInt8} (hb : b.toNat < 48) : b ∉ dec n := fun e => by
  have := dec_digit h h2 e
  omega

/-! ### Variants -/
def vTxt (p c h s : Int) : List UInt8 := dec p ++ 47 :: (dec c ++ 47 :: (dec h ++ 47 :: dec s))
/-- The text of a variant; none for one that is not valid. -/
def vText (p c h s : Int) : List UInt8 := if vOk p c h s = true then vTxt p c h s else []
theorem vText_cut {p c h s : Int} (hv : vOk p c h s = true) : cutAt 47 (vTxt p c h s) = [dec p, dec c, dec h, dec s] := by
  have h1 := vOk_yes hv
  unfold vTxt
  rw [cutAt_hit _ (dec_free (by omega) (by omega) (by decide)), cutAt_hit _ (dec_free (by omega) (by omega) (by decide)), cutAt_hit _ (dec_free (by omega) (by omega) (by decide)), cutAt_free (dec_free (by omega) (by omega) (by decide))]
theorem cut_four {l a b c d : List UInt8} (h : cutAt 47 l = [a, b, c, d]) : l = a ++ 47 :: (b ++ 47 :: (c ++ 47 :: d)) := by
  obtain ⟨t, rfl, _, h2⟩ := cutAt_cons h
  obtain ⟨t2, rfl, _, h3⟩ := cutAt_cons h2
  obtain ⟨t3, rfl, _, h4⟩ := cutAt_cons h3
  obtain ⟨rfl, _⟩ := cutAt_one h4
  rfl
theorem vTxt_ne (p c h s : Int) : vTxt p c h s ≠ [] := by unfold vTxt; simp
theorem vText_ne {p c h s : Int} : vText p c h s ≠ [] ↔ vOk p c h s = true := by
  unfold vText
  split
  · rename_i h; simp [h, vTxt_ne]
  · rename_i h; simp [h]

abbrev I4 := Int × Int × Int × Int
/-- The program's answer: every word a number, four of them, a valid variant. -/
def allD : List (List UInt8) → Option (List Int)
  | [] => some []
  | x :: r => match rdD x with
    | some v => (allD r).map (v :: ·)
    | none => none
def asV : Option (List Int) → Option I4
  | some [p, c, h, s] => if vOk p c h s = true then some (p, c, h, s) else none
  | _ => none
def rdV (l : List UInt8) : Option I4 := asV (allD (cutAt 47 l))
/-- The reference's answer: the words' values, held against the text. -/
def lv0 (s : List UInt8) : Int := (lv s).getD 0
def refV (l : List UInt8) : Option I4 :=
  match cutAt 47 l with
  | [a, b, c, d] => if vText (lv0 a) (lv0 b) (lv0 c) (lv0 d) = l then some (lv0 a, lv0 b, lv0 c, lv0 d) else none
  | _ => none

theorem rdV_text {p c h s : Int} (hv : vOk p c h s = true) : rdV (vTxt p c h s) = some (p, c, h, s) := by
  have h1 := vOk_yes hv
  unfold rdV
  rw [vText_cut hv]
  simp only [allD, rdD_dec (show 0 ≤ p by omega) (by omega), rdD_dec (show 0 ≤ c by omega) (by omega), rdD_dec (show 0 ≤ h by omega) (by omega), rdD_dec (show 0 ≤ s by omega) (by omega), Option.map_some, asV, hv, if_true]
theorem refV_text {p c h s : Int} (hv : vOk p c h s = true) : refV (vTxt p c h s) = some (p, c, h, s) := by
  have h1 := vOk_yes hv
  unfold refV
  rw [vText_cut hv]
  simp only [lv0, lv_dec (show 0 ≤ p by omega) (by omega), lv_dec (show 0 ≤ c by omega) (by omega), lv_dec (show 0 ≤ h by omega) (by omega), lv_dec (show 0 ≤ s by omega) (by omega), Option.getD_some, vText, hv, if_true]
theorem allD_cons {x : List UInt8} {r : List (List UInt8)} {L : List Int} (h : allD (x :: r) = some L) : ∃ v K, L = v :: K ∧ rdD x = some v ∧ allD r = some K := by
  unfold allD at h
  split at h
  · rename_i v hv
    cases hr : allD r
    · rw [hr] at h; simp at h
    · rename_i K; rw [hr] at h
      simp only [Option.map_some, Option.some.injEq] at h
      exact ⟨v, K, h.symm, hv, rfl⟩
  · cases h
theorem rdV_yes {l : List UInt8} {p c h s : Int} (hr : rdV l = some (p, c, h, s)) : vOk p c h s = true ∧ l = vTxt p c h s := by
  unfold rdV asV at hr
  split at hr
  · rename_i p2 c2 h2 s2 he
    split at hr
    · rename_i hv
      simp only [Option.some.injEq, Prod.mk.injEq] at hr
      obtain ⟨rfl, rfl, rfl, rfl⟩ := hr
      have hb := vOk_yes hv
      refine ⟨hv, ?_⟩
      cases e1 : cutAt 47 l with
      | nil => exact absurd e1 (cutAt_ne _ _)
      | cons a r1 =>
        rw [e1] at he
        obtain ⟨v1, K1, k1, d1, m1⟩ := allD_cons he
        cases r1 with
        | nil => simp [allD] at m1; subst m1; simp at k1
        | cons b r2 =>
          obtain ⟨v2, K2, rfl, d2, m2⟩ := allD_cons m1
          cases r2 with
          | nil => simp [allD] at m2; subst m2; simp at k1
          | cons c r3 =>
            obtain ⟨v3, K3, rfl, d3, m3⟩ := allD_cons m2
            cases r3 with
            | nil => simp [allD] at m3; subst m3; simp at k1
            | cons d r4 =>
              obtain ⟨v4, K4, rfl, d4, m4⟩ := allD_cons m3
              simp only [List.cons.injEq] at k1
              obtain ⟨rfl, rfl, rfl, rfl, rfl⟩ := k1
              cases r4 with
              | cons x r5 => obtain ⟨v5, K5, k5, _⟩ := allD_cons m4; simp at k5
              | nil =>
                rw [cut_four e1, rdD_small d1 (by omega), rdD_small d2 (by omega), rdD_small d3 (by omega), rdD_small d4 (by omega)]
                rfl
    · cases hr
  · cases hr
theorem refV_yes {l : List UInt8} {p c h s : Int} (hr : refV l = some (p, c, h, s)) : vOk p c h s = true ∧ l = vTxt p c h s := by
  unfold refV at hr
  split at hr
  · rename_i a b c2 d he
    split at hr
    · rename_i ht
      simp only [Option.some.injEq, Prod.mk.injEq] at hr
      obtain ⟨rfl, rfl, rfl, rfl⟩ := hr
      by_cases hv : vOk (lv0 a) (lv0 b) (lv0 c2) (lv0 d) = true
      · refine ⟨hv, ?_⟩
        rw [vText, if_pos hv] at ht
        exact ht.symm
      · rw [vText, if_neg hv] at ht
        subst ht
        simp [cutAt] at he
    · cases hr
  · cases hr
theorem refV_eq (l : List UInt8) : refV l = rdV l := by
  cases h1 : refV l with
  | some x =>
    obtain ⟨p, c, h, s⟩ := x
    obtain ⟨hv, rfl⟩ := refV_yes h1
    exact (rdV_text hv).symm
  | none =>
    cases h2 : rdV l with
    | none => rfl
    | some x =>
      obtain ⟨p, c, h, s⟩ := x
      obtain ⟨hv, rfl⟩ := rdV_yes h2
      rw [refV_text hv] at h1
      cases h1
end Go.Proofs.YtdcdjocjlicplaaDoor
