/-
  Contracts: numbers read from their decimals, by the program.
-/
import Derived.Test.YtdcdjocjlicplaaDoorTextV
import Derived.Test.YtdcdjocjlicplaaDoorShelf2
import Derived.Lib.LaidTab
import Derived.Lib.AtoiErrMem
namespace Go.Proofs.YtdcdjocjlicplaaDoor
open Go.ChangeShapes Go.WideShapes Go.ChangeAt Go.RowKit Go.Joins

theorem strNe {a b : ByteArray} (h : ¬ a = b) : (a.toList == b.toList) = false := by
  rw [beq_eq_false_iff_ne]
  intro e
  rw [ByteArray.toList_eq, ByteArray.toList_eq] at e
  exact h (ByteArray.ext (Array.toList_inj.1 e))
theorem strNo {a : ByteArray} (h : ¬ a = ⟨#[]⟩) : a.toList.isEmpty = false := by
  rw [List.isEmpty_eq_false_iff, ByteArray.toList_eq]
  intro e
  exact h (ByteArray.ext (Array.toList_eq_nil_iff.1 e))
/-- The library's variables that the readings come to. -/
def Glob (w : World) : Prop :=
  (∃ m, w.cell? ⟨0, 0, none⟩ = some (.int .i64 m)) ∧ (∃ t p, w.cell? ⟨2, 0, none⟩ = some (.iface t p)) ∧ (∃ t p, w.cell? ⟨3, 0, none⟩ = some (.iface t p)) ∧ Lib.TabIs Tryd.prog w "internal/strconv.uint64pow10" .u64 Lib.pow10Tab
theorem tab_past {P : Program} {w w' : World} {n : String} {k : IntKind} {zs : List Int} (h : Lib.TabIs P w n k zs) (p : Past w w') : Lib.TabIs P w' n k zs := by
  unfold Lib.TabIs World.var? at h ⊢
  cases hg : P.globalNamed n with
  | none => simp [hg] at h
  | some g =>
    simp only [hg, Option.bind_some] at h ⊢
    have hlt : g < w.heap.size := by
      rcases Nat.lt_or_ge g w.heap.size with h' | h'
      · exact h'
      · simp [Array.getElem?_eq_none h'] at h
    rw [p.block g hlt]
    exact h
theorem Glob.past {w w' : World} (h : Glob w) (p : Past w w') : Glob w' := by
  obtain ⟨⟨m, hm⟩, ⟨t, q, hq⟩, ⟨u, r, hr⟩, ht⟩ := h
  exact ⟨⟨m, p.keep hm⟩, ⟨t, q, p.keep hq⟩, ⟨u, r, p.keep hr⟩, tab_past ht p⟩
theorem past_more (w : World) (k : Nat) (os : Array Obj) : Past w (Go.Sort.grow (w.drewN k) os) :=
  ⟨rfl, rfl, rfl, by simp [Go.Sort.grow], fun j hj => by
    show (w.heap ++ os)[j]? = w.heap[j]?
    rw [Array.getElem?_append_left hj]⟩
set_option maxRecDepth 100000 in
theorem decimal_any (n : Int) (w : World) (h0 : -9223372036854775808 ≤ n) (h1 : n ≤ 9223372036854775807) (hg : Glob w) :
    Calls Tryd.prog 61 #[.int .i64 n] w fun e w' => e = .returned (.string ⟨(Lib.itoa n).toArray⟩) ∧ Past w w' := by
  have HG := Lib.hid hg.2.2.2
  clear hg
  go_enter Tryd.func61, Tryd.ntmps61
  go_wp2_with (go_at_call 75; (with_reducible refine (Tryd.strconv_FormatInt_10 _ h0 h1 _ HG.out).mono ?_); rintro e w1 ⟨rfl, k, os, rfl⟩)
  go_ret
  exact ⟨rfl, past_more w k os⟩
theorem parse_ok (s : ByteArray) (hs : s.size ≤ 1048576) (v : Int) (h : Lib.parseIntB 64 s.data.toList = .ok v) (w : World) :
    Calls Tryd.prog 78 #[.string s, .int .i64 10, .int .i64 64] w fun e w' => e = .returned (.tuple #[.int .i64 v, .nilIface]) ∧ Past w w' :=
  (Tryd.strconv_ParseInt_10_at64_ok s (by omega) v h w).mono fun _ _ ⟨he, hw⟩ => ⟨he, by
    rcases hw with rfl | ⟨t, rfl⟩
    · exact Past.refl _
    · exact Lib.bytesWorld_below _ _ _⟩
theorem parse_no (s : ByteArray) (hs : s.size ≤ 1048576) (h : ∀ v, Lib.parseIntB 64 s.data.toList ≠ .ok v) (w : World) (hg : Glob w) :
    Calls Tryd.prog 78 #[.string s, .int .i64 10, .int .i64 64] w fun e w' => ∃ v N, e = .returned (.tuple #[.int .i64 v, .iface 126 (.pointer (some ⟨N, 0, none⟩))]) ∧ Past w w' := by
  obtain ⟨_, ⟨t, p, hp⟩, ⟨u, q, hq⟩, _⟩ := hg
  cases h1 : Lib.parseIntB 64 s.data.toList with
  | ok v => exact absurd h1 (h v)
  | range => exact (Tryd.strconv_ParseInt_10_at64_range s (by omega) h1 _ w hq (.inr ⟨u, q, rfl⟩)).mono fun _ _ ⟨N, he, _, _, hb⟩ => ⟨_, N, he, hb⟩
  | _ => exact (Any.strconv_ParseInt_10_at64_syntax Tryd.laysC174 s (by omega) h1 _ w hp (.inr ⟨t, p, rfl⟩)).mono fun _ _ ⟨N, he, _, _, hb⟩ => ⟨_, N, he, hb⟩
theorem parse_lim {s : List UInt8} {v : Int} (h : Lib.parseIntB 64 s = .ok v) : -9223372036854775808 ≤ v ∧ v ≤ 9223372036854775807 := by
  unfold Lib.parseIntB at h
  split at h
  · cases h
  · simp only at h
    split at h
    · cases h
    · cases h
    · rename_i u hu
      split at h
      · cases h
      · split at h
        · cases h
        · rename_i h1 h2
          simp only [Lib.NumEnd.ok.injEq] at h
          subst h
          split <;> omega
theorem rdD_none1 {s : List UInt8} (h : Lib.trimPrefix s [45] = []) : rdD s = none := by
  unfold rdD
  split
  · rw [if_neg (by simp [h])]
  · rfl
theorem rdD_none2 {s : List UInt8} (h : 19 < (Lib.trimPrefix s [45]).length) : rdD s = none := by
  unfold rdD
  split
  · rw [if_neg (by omega)]
  · rfl
theorem rdD_none3 {s : List UInt8} (h : ∀ v, Lib.parseIntB 64 s ≠ .ok v) : rdD s = none := by
  unfold rdD
  split
  · rename_i v hv
    exact absurd hv (h v)
  · rfl
theorem rdD_none4 {s : List UInt8} {v : Int} (h : Lib.parseIntB 64 s = .ok v) (h2 : Lib.itoa v ≠ s) : rdD s = none := by
  unfold rdD
  rw [h]
  simp only
  rw [if_neg (fun h3 => h2 h3.2)]
theorem rdD_some {s : List UInt8} {v : Int} (h : Lib.parseIntB 64 s = .ok v) (h2 : Lib.itoa v = s) (h3 : Lib.trimPrefix s [45] ≠ []) (h4 : (Lib.trimPrefix s [45]).length ≤ 19) : rdD s = some v := by
  unfold rdD
  rw [h]
  simp only
  rw [if_pos ⟨⟨h3, h4⟩, h2⟩]
theorem rdD_lim {s : List UInt8} {v : Int} (h : rdD s = some v) : -9223372036854775808 ≤ v ∧ v ≤ 9223372036854775807 := by
  unfold rdD at h
  split at h
  · rename_i u hu
    split at h
    · simp only [Option.some.injEq] at h
      subst h
      exact parse_lim hu
    · cases h
  · cases h
set_option maxHeartbeats 1000000 in
set_option maxRecDepth 100000 in
theorem readDecimal_any (s : ByteArray) (w : World) (hg : Glob w) (hs : s.size ≤ 1048576) :
    Calls Tryd.prog 65 #[.string s] w fun e w' => e = .returned (.tuple #[.int .i64 ((rdD s.data.toList).getD 0), .bool (rdD s.data.toList).isSome]) ∧ Past w w' := by
  obtain ⟨D, hD⟩ : ∃ D : ByteArray, D = ⟨(Lib.trimPrefix s.data.toList [45]).toArray⟩ := ⟨_, rfl⟩
  have hDz : D.size = (Lib.trimPrefix s.data.toList [45]).length := by rw [hD]; simp [ByteArray.size]
  have hT : ∀ w, Calls Tryd.prog 70 #[.string s, .string ⟨#[45]⟩] w fun e w' => e = .returned (.string D) ∧ w' = w := fun w => by rw [hD]; exact Tryd.strings_TrimPrefix s ⟨#[45]⟩ w
  have HT := Lib.hid hT
  clear hT
  by_cases c1 : D = ⟨#[]⟩
  · have e : rdD s.data.toList = none := rdD_none1 (List.eq_nil_of_length_eq_zero (by rw [← hDz, c1]; rfl))
    rw [e]
    subst c1
    clear hD hDz e
    go_enter Tryd.func65, Tryd.ntmps65
    go_wp2_with (go_at_call 70; (with_reducible refine (HT.out _).mono ?_); rintro e w1 ⟨rfl, rfl⟩)
    go_ret2
    exact ⟨rfl, (by repeat (first | exact Past.refl _ | assumption | refine Past.alloc ?_ _ | refine Past.drew ?_ | refine Past.drewN ?_ _ | refine Past.setCell ?_ (by first | (simp; done) | (simp <;> omega)) _ | refine Past.trans ?_ (past_over _ _) | refine Past.trans ?_ (by assumption)))⟩
  have hb1 : D.toList.isEmpty = false := strNo c1
  have hne : Lib.trimPrefix s.data.toList [45] ≠ [] := fun h => c1 (by rw [hD, h])
  by_cases c2 : 19 < D.size
  · have e : rdD s.data.toList = none := rdD_none2 (by omega)
    have c3 : (19 : Int) < (D.size : Int) := by omega
    rw [e]
    clear hD hDz e hne
    go_enter Tryd.func65, Tryd.ntmps65
    go_wp2_with (go_at_call 70; (with_reducible refine (HT.out _).mono ?_); rintro e w1 ⟨rfl, rfl⟩)
    go_ret2
    exact ⟨rfl, (by repeat (first | exact Past.refl _ | assumption | refine Past.alloc ?_ _ | refine Past.drew ?_ | refine Past.drewN ?_ _ | refine Past.setCell ?_ (by first | (simp; done) | (simp <;> omega)) _ | refine Past.trans ?_ (past_over _ _) | refine Past.trans ?_ (by assumption)))⟩
  have c3 : ¬ (19 : Int) < (D.size : Int) := by omega
  by_cases hk : ∃ v, Lib.parseIntB 64 s.data.toList = .ok v
  · obtain ⟨v, hv⟩ := hk
    obtain ⟨l0, l1⟩ := parse_lim hv
    have HV := Lib.hid hv
    obtain ⟨I, hI⟩ : ∃ I : ByteArray, I = ⟨(Lib.itoa v).toArray⟩ := ⟨_, rfl⟩
    have hdec : ∀ w, Glob w → Calls Tryd.prog 61 #[.int .i64 v] w fun e w' => e = .returned (.string I) ∧ Past w w' := fun w h => by rw [hI]; exact decimal_any v w l0 l1 h
    have HDe := Lib.hid hdec
    clear hdec
    by_cases c4 : I = s
    · have e : rdD s.data.toList = some v := rdD_some hv (by rw [← c4, hI]) hne (by omega)
      have hb2 : (I.toList == s.toList) = true := by rw [c4]; exact beq_self_eq_true _
      rw [e]
      clear hD hDz e hne hv hI
      go_enter Tryd.func65, Tryd.ntmps65
      go_wp2_with (first | (go_at_call 70; (with_reducible refine (HT.out _).mono ?_); rintro e w1 ⟨rfl, rfl⟩) | (go_at_call 78; (with_reducible refine (parse_ok _ hs _ HV.out _).mono ?_); rintro e w2 ⟨rfl, hb2⟩; obtain ⟨hc2, hf2, _⟩ := hb2.cells) | (go_at_call 61; (with_reducible refine (HDe.out _ (hg.past (by repeat (first | exact Past.refl _ | assumption | refine Past.alloc ?_ _ | refine Past.drew ?_ | refine Past.drewN ?_ _ | refine Past.setCell ?_ (by first | (simp; done) | (simp <;> omega)) _ | refine Past.trans ?_ (past_over _ _) | refine Past.trans ?_ (by assumption))))).mono ?_); rintro e w3 ⟨rfl, hb3⟩; obtain ⟨hc3, hf3, _⟩ := hb3.cells))
      go_ret2
      exact ⟨rfl, (by repeat (first | exact Past.refl _ | assumption | refine Past.alloc ?_ _ | refine Past.drew ?_ | refine Past.drewN ?_ _ | refine Past.setCell ?_ (by first | (simp; done) | (simp <;> omega)) _ | refine Past.trans ?_ (past_over _ _) | refine Past.trans ?_ (by assumption)))⟩
    · have e : rdD s.data.toList = none := rdD_none4 hv (fun h => c4 (by rw [hI, h]))
      have hb2 : (I.toList == s.toList) = false := strNe c4
      rw [e]
      clear hD hDz e hne hv hI
      go_enter Tryd.func65, Tryd.ntmps65
      go_wp2_with (first | (go_at_call 70; (with_reducible refine (HT.out _).mono ?_); rintro e w1 ⟨rfl, rfl⟩) | (go_at_call 78; (with_reducible refine (parse_ok _ hs _ HV.out _).mono ?_); rintro e w2 ⟨rfl, hb2⟩; obtain ⟨hc2, hf2, _⟩ := hb2.cells) | (go_at_call 61; (with_reducible refine (HDe.out _ (hg.past (by repeat (first | exact Past.refl _ | assumption | refine Past.alloc ?_ _ | refine Past.drew ?_ | refine Past.drewN ?_ _ | refine Past.setCell ?_ (by first | (simp; done) | (simp <;> omega)) _ | refine Past.trans ?_ (past_over _ _) | refine Past.trans ?_ (by assumption))))).mono ?_); rintro e w3 ⟨rfl, hb3⟩; obtain ⟨hc3, hf3, _⟩ := hb3.cells))
      go_ret2
      exact ⟨rfl, (by repeat (first | exact Past.refl _ | assumption | refine Past.alloc ?_ _ | refine Past.drew ?_ | refine Past.drewN ?_ _ | refine Past.setCell ?_ (by first | (simp; done) | (simp <;> omega)) _ | refine Past.trans ?_ (past_over _ _) | refine Past.trans ?_ (by assumption)))⟩
  · have hv : ∀ v, Lib.parseIntB 64 s.data.toList ≠ .ok v := fun v h => hk ⟨v, h⟩
    have e : rdD s.data.toList = none := rdD_none3 hv
    have HV := Lib.hid hv
    rw [e]
    clear hD hDz e hne hv hk
    go_enter Tryd.func65, Tryd.ntmps65
    go_wp2_with (first | (go_at_call 70; (with_reducible refine (HT.out _).mono ?_); rintro e w1 ⟨rfl, rfl⟩) | (go_at_call 78; (with_reducible refine (parse_no _ hs HV.out _ (hg.past (by repeat (first | exact Past.refl _ | assumption | refine Past.alloc ?_ _ | refine Past.drew ?_ | refine Past.drewN ?_ _ | refine Past.setCell ?_ (by first | (simp; done) | (simp <;> omega)) _ | refine Past.trans ?_ (past_over _ _) | refine Past.trans ?_ (by assumption))))).mono ?_); rintro e w2 ⟨v, N, rfl, hb2⟩; obtain ⟨hc2, hf2, _⟩ := hb2.cells))
    go_ret2
    exact ⟨rfl, (by repeat (first | exact Past.refl _ | assumption | refine Past.alloc ?_ _ | refine Past.drew ?_ | refine Past.drewN ?_ _ | refine Past.setCell ?_ (by first | (simp; done) | (simp <;> omega)) _ | refine Past.trans ?_ (past_over _ _) | refine Past.trans ?_ (by assumption)))⟩
end Go.Proofs.YtdcdjocjlicplaaDoor
