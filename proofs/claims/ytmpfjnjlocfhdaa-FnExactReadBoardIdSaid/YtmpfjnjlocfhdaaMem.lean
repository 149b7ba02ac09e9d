/-
  Slices of int64 in memory: one that is read, one that the call itself made; the laws' own helpers (copy, compare, count) by contract.
-/
import Derived.Test.YtmpfjnjlocfhdaaVar
import Derived.Laws.MakeOwn
import Derived.OwnWalk
import Derived.Test.YtmpfjnjlocfhdaaOver
namespace Go.Proofs.Ytmpfjnjlocfhdaa
open Go.ChangeShapes Go.WideShapes Go.ChangeAt Go.RowKit Go.Joins

theorem quiet_left {P : Program} {f : FuncId} {args : Array Value} {w : World} {n : Nat} {v : Value}
    (h : Calls P f args (w.drewN n) fun e w' => e = .returned v ∧ w.drewN n = w') : Calls P f args (w.drewN n) fun e w'' => e = .returned v ∧ ∃ m, w'' = w.drewN m :=
  h.mono fun _ _ ⟨he, hm⟩ => ⟨he, n, hm.symm⟩
theorem quiet_add_left {P : Program} {f : FuncId} {args : Array Value} {w : World} {a n : Nat} {v : Value}
    (h : Calls P f args (w.drewN (a + n)) fun e w' => e = .returned v ∧ w.drewN (a + n) = w') :
    Calls P f args (w.drewN (a + n)) fun e w'' => e = .returned v ∧ ∃ m, w'' = w.drewN (a + m) :=
  h.mono fun _ _ ⟨he, hm⟩ => ⟨he, n, hm.symm⟩
/-- The slice value of address A and length n reads as the numbers xs. -/
def RdI (w : World) (A : Option Addr) (n : Nat) (xs : List Int) : Prop :=
  xs.length = n ∧ (0 < n → ∃ b o, A = some ⟨b, o, none⟩ ∧ ∀ j x, xs[j]? = some x → w.cell? ⟨b, o + j, none⟩ = some (.int .i64 x))
theorem RdI.past {w w' : World} {A : Option Addr} {n : Nat} {xs : List Int} (h : RdI w A n xs) (p : Past w w') : RdI w' A n xs :=
  ⟨h.1, fun hn => by
    obtain ⟨b, o, hA, hc⟩ := h.2 hn
    exact ⟨b, o, hA, fun j x hj => p.keep (hc j x hj)⟩⟩
theorem RdI.alloc {w : World} {A : Option Addr} {n : Nat} {xs : List Int} (h : RdI w A n xs) (o : Obj) : RdI (w.alloc o) A n xs := h.past ((Past.refl _).alloc o)
theorem RdI.drew {w : World} {A : Option Addr} {n : Nat} {xs : List Int} (h : RdI w A n xs) : RdI w.drew A n xs := h
theorem RdI.drewN {w : World} {A : Option Addr} {n : Nat} {xs : List Int} (h : RdI w A n xs) (m : Nat) : RdI (w.drewN m) A n xs := h
/-- The element at j, and its cell. -/
theorem RdI.at_ {w : World} {A : Option Addr} {n : Nat} {xs : List Int} (h : RdI w A n xs) {j : Nat} (hj : j < n) :
    ∃ b o x, A = some ⟨b, o, none⟩ ∧ xs[j]? = some x ∧ w.cell? ⟨b, o + j, none⟩ = some (.int .i64 x) := by
  obtain ⟨b, o, hA, hc⟩ := h.2 (by omega)
  have hl : j < xs.length := by rw [h.1]; exact hj
  exact ⟨b, o, xs[j], hA, List.getElem?_eq_getElem hl, hc j _ (List.getElem?_eq_getElem hl)⟩

/-- A slice of int64 that the call itself has made, in a block from base on. -/
def OwI (base : Nat) (w : World) (A : Option Addr) (n k : Nat) (xs : List Int) : Prop := w.ownsRow base 2 1 (.slice A n k) n (xs.map (Value.int .i64))
theorem OwI.len {base : Nat} {w : World} {A : Option Addr} {n k : Nat} {xs : List Int} (h : OwI base w A n k xs) : xs.length = n := by
  have := h.1
  simpa using this
theorem OwI.rd {base : Nat} {w : World} {A : Option Addr} {n k : Nat} {xs : List Int} (h : OwI base w A n k xs) : RdI w A n xs := by
  refine ⟨h.len, fun hn => ?_⟩
  obtain ⟨g, rfl⟩ : ∃ g, A = some ⟨g, 0, none⟩ := by
    rcases h.2 with ⟨_, h0⟩ | ⟨g, cap, cur, hv, _⟩
    · omega
    · simp only [Value.slice.injEq] at hv
      exact ⟨g, hv.1⟩
  refine ⟨g, 0, rfl, fun j x hj => ?_⟩
  have hjn : j < n := by
    have := (List.getElem?_eq_some_iff.1 hj).1
    rw [h.len] at this
    exact this
  have := World.ownsRow.cellAt h j (by omega)
  rw [Nat.zero_add, this, List.getElem?_map, hj]
  rfl
theorem ownsRow_past {base : Nat} {w w' : World} {e : TypeId} {size : Nat} {v : Value} {n : Nat} {xs : List Value} (h : w.ownsRow base e size v n xs) (p : Past w w') : w'.ownsRow base e size v n xs := by
  refine ⟨h.1, ?_⟩
  rcases h.2 with h0 | ⟨g, cap, cur, hv, hb, hg, r⟩
  · exact .inl h0
  · have hlt : g < w.heap.size := by
      rcases Nat.lt_or_ge g w.heap.size with h' | h'
      · exact h'
      · rw [Array.getElem?_eq_none h'] at hg; cases hg
    exact .inr ⟨g, cap, cur, hv, hb, (p.block g hlt).trans hg, r⟩
theorem OwI.past {base : Nat} {w w' : World} {A : Option Addr} {n k : Nat} {xs : List Int} (h : OwI base w A n k xs) (p : Past w w') : OwI base w' A n k xs := ownsRow_past h p
theorem OwI.less {base base' : Nat} {w : World} {A : Option Addr} {n k : Nat} {xs : List Int} (h : OwI base w A n k xs) (hb : base' ≤ base) : OwI base' w A n k xs := by
  refine ⟨h.1, ?_⟩
  rcases h.2 with h0 | ⟨g, cap, cur, hv, hg, r⟩
  · exact .inl h0
  · exact .inr ⟨g, cap, cur, hv, by omega, r⟩

theorem OwI.alloc {base : Nat} {w : World} {A : Option Addr} {n k : Nat} {xs : List Int} (h : OwI base w A n k xs) (o : Obj) : OwI base (w.alloc o) A n k xs := h.past ((Past.refl _).alloc o)
theorem OwI.drew {base : Nat} {w : World} {A : Option Addr} {n k : Nat} {xs : List Int} (h : OwI base w A n k xs) : OwI base w.drew A n k xs := h
theorem OwI.far {base : Nat} {w : World} {g n k : Nat} {xs : List Int} (h : OwI base w (some ⟨g, 0, none⟩) n k xs) {p : Addr} (hp : p.block ≠ g) (u : Value) : OwI base (w.setCell p u) (some ⟨g, 0, none⟩) n k xs := by
  refine ⟨h.1, ?_⟩
  rcases h.2 with h0 | ⟨g', cap, cur, hv, hb, hg, r⟩
  · exact .inl h0
  · have e : g = g' := by
      simp only [Value.slice.injEq, Option.some.injEq, Addr.mk.injEq, and_true] at hv
      exact hv.1
    exact .inr ⟨g', cap, cur, hv, hb, (Below.heap_setCell w p u g' (by rw [← e]; exact fun h => hp h.symm)).trans hg, r⟩
theorem infoI : (Try.prog.info? 2).map (fun i => (i.zero, i.size, i.bytes)) = some (some (.int .i64 0), 1, 8) := by kernel_rfl

theorem made_zero (n : Nat) : (madeCells (Value.int .i64 0).cells (n * 1)).toList = (List.replicate n (0 : Int)).map (Value.int .i64) := by
  rw [Nat.mul_one, List.map_replicate]
  apply List.ext_getElem
  · simp [madeCells]
  · intro i h1 h2
    simp [madeCells, Value.cells, Nat.mod_one]

theorem copy_step {xs : List Int} {j n : Nat} {x : Int} (hl : xs.length = n) (h : xs[j]? = some x) :
    ((xs.take j ++ List.replicate (n - j) 0).map (Value.int .i64)).set j (Value.int .i64 x) = (xs.take (j + 1) ++ List.replicate (n - (j + 1)) 0).map (Value.int .i64) := by
  obtain ⟨hj, rfl⟩ := List.getElem?_eq_some_iff.1 h
  rw [← List.map_set]
  congr 1
  apply List.ext_getElem
  · simp; omega
  · intro i h1 h2
    simp only [List.getElem_set, List.getElem_append, List.getElem_take, List.getElem_replicate, List.length_take]
    by_cases e : j = i
    · subst e
      rw [if_pos rfl, dif_pos (by omega)]
    · rw [if_neg e]
      by_cases hi : i < j
      · rw [dif_pos (by omega), dif_pos (by omega)]
      · rw [dif_neg (by omega), dif_neg (by omega)]
theorem copy_old {xs : List Int} {j n : Nat} (hl : xs.length = n) (hj : j < n) : ((xs.take j ++ List.replicate (n - j) 0).map (Value.int .i64))[j]? = some (Value.int .i64 0) := by
  rw [List.getElem?_map, List.getElem?_append_right (by simp; omega), List.length_take, Nat.min_eq_left (by omega), Nat.sub_self, List.getElem?_replicate, if_pos (by omega)]
  rfl
/-- The laws' copy of a slice: a new block with the same numbers. -/
theorem toInts (A : Option Addr) (n k : Nat) (xs : List Int) (w : World) (hx : RdI w A n xs) (hn : n ≤ 1048576) :
    Calls Try.prog 22 #[.slice A n k] w fun e w' => e = .returned (.slice (some ⟨w.heap.size, 0, none⟩) n n) ∧ OwI w.heap.size w' (some ⟨w.heap.size, 0, none⟩) n n xs ∧ Past w w' := by
  obtain ⟨i0, hi, hz0, hz1, hz2⟩ := info_parts infoI
  have hlen := hx.1
  have HL := Lib.hid hlen
  clear hlen
  go_enter Try.func22, Try.ntmps22
  go_wp2_with (at_make; refine wpList_make_full _ rfl _ _ 24 rfl w.heap.size 2 i0 (.int .i64 0) 1 Try.underlying24 hi hz0 hz1 .i64 .i64 (n : Int) (n : Int) n rfl rfl rfl rfl (by rw [hz2]; omega) (by unfold maxLen; omega) (Nat.le_refl _) ?_; intro w1 hown1 hg1; rw [made_zero] at hown1)
  have hp1 : Past w w1 := Below.grown (Below.refl _ _) hg1 (Nat.le_refl _) (fun k hk => by cases hk)
  clear hg1
  go_loopw [4] (fun i wr => ∃ j : Nat, j ≤ n ∧ i = .int .i64 j ∧ OwI w.heap.size wr (some ⟨w.heap.size, 0, none⟩) n n (xs.take j ++ List.replicate (n - j) 0) ∧ Past w wr) (fun i _ => n - (intOf i).toNat)
  case atStart => exact ⟨0, Nat.zero_le _, rfl, by simpa [OwI] using hown1, hp1⟩
  case round =>
    obtain ⟨j, hj, rfl, hown, hp⟩ := hrel
    clear hown1 hp1 hi hz0 hz1 hz2
    by_cases hlt : j < n
    · obtain ⟨b, o, x, rfl, hxj, hc⟩ := (hx.past hp).at_ hlt
      have HX := Lib.hid hxj
      clear hxj
      have hcell : wr.cell? ⟨w.heap.size, j, none⟩ = some (.int .i64 0) := by
        rw [World.ownsRow.cellAt hown j (by omega)]
        exact copy_old HL.out hlt
      have hfr : wr.frozen? ⟨w.heap.size, j, none⟩ = false := World.ownsRow.frozenAt hown j
      go_wp2
      go_roundw
      case rel => exact ⟨j + 1, by omega, by go_num, by rw [OwI, ← copy_step HL.out HX.out]; exact (World.ownsRow.stored hown j _).1, hp.setCell (Nat.le_refl _) _⟩
      case measure => simp [intOf]; omega
    · have e : xs.take j ++ List.replicate (n - j) 0 = xs := by rw [List.take_of_length_le (by have := HL.out; omega), show n - j = 0 from by omega]; simp
      rw [e] at hown
      clear e
      go_wp2
      go_ret
      exact ⟨rfl, hown, hp⟩
theorem toInts' (A : Option Addr) (n k : Nat) (xs : List Int) (w : World) (hx : RdI w A n xs) (hn : n ≤ 1048576) :
    Calls Try.prog 22 #[.slice A n k] w fun e w' => ∃ g, e = .returned (.slice (some ⟨g, 0, none⟩) n n) ∧ OwI w.heap.size w' (some ⟨g, 0, none⟩) n n xs ∧ w.heap.size ≤ g ∧ g < w'.heap.size ∧ Past w w' :=
  (toInts A n k xs w hx hn).mono fun _ w' ⟨he, ho, hp⟩ => ⟨_, he, ho, Nat.le_refl _, by
    rcases ho.2 with ⟨h0, _⟩ | ⟨g, cap, cur, hv, _, hh, _⟩
    · simp at h0
    · simp only [Value.slice.injEq, Option.some.injEq, Addr.mk.injEq, and_true] at hv
      rw [hv.1]
      exact (Array.getElem?_eq_some_iff.1 hh).1, hp⟩
theorem szInts (A : Option Addr) (n k : Nat) (L : Int) (w : World) (h0 : 0 ≤ L) (h1 : L ≤ 1048576) (hn : (n : Int) ≤ 9223372036854775807) :
    Calls Try.prog 66 #[.slice A n k, .int .i64 L] w fun e w' => e = .returned (.int .i64 (if (n : Int) ≤ L then L - n else -1)) ∧ w = w' := by
  by_cases h : (n : Int) ≤ L
  · rw [if_pos h]
    go_enter Try.func66, Try.ntmps66
    go_wp2
    go_ret
    exact ⟨rfl, rfl⟩
  · rw [if_neg h]
    go_enter Try.func66, Try.ntmps66
    go_wp2
    go_ret
    exact ⟨rfl, rfl⟩
theorem eqInts (A D : Option Addr) (n k l : Nat) (xs : List Int) (w : World) (hx : RdI w A n xs) (hy : RdI w D n xs) (hn : n ≤ 1048576) :
    Calls Try.prog 24 #[.slice A n k, .slice D n l] w fun e w' => e = .returned (.bool true) ∧ Past w w' := by
  go_enter Try.func24, Try.ntmps24
  go_wp2
  go_loopw [5] (fun i wr => ∃ j : Nat, j ≤ n ∧ i = .int .i64 j ∧ Past w wr) (fun i _ => n - (intOf i).toNat)
  case atStart => exact ⟨0, Nat.zero_le _, rfl, Past.refl _⟩
  case round =>
    obtain ⟨j, hj, rfl, hp⟩ := hrel
    by_cases hlt : j < n
    · obtain ⟨b, o, x, rfl, hxj, hc⟩ := (hx.past hp).at_ hlt
      obtain ⟨b', o', x', rfl, hxj', hc'⟩ := (hy.past hp).at_ hlt
      obtain rfl : x = x' := by rw [hxj] at hxj'; exact Option.some.inj hxj'
      clear hxj hxj'
      have h0 : (0 : Int) ≤ (j : Int) := by omega
      have h1 : (j : Int) < (n : Int) := by omega
      go_wp2
      go_quiet (fail)
      go_wp2
      go_roundw
      case rel => exact ⟨j + 1, by omega, by go_num, hp.drewN _⟩
      case measure => simp [intOf]; omega
    · go_wp2
      go_ret
      exact ⟨rfl, hp⟩
theorem szBoard_fits (A D : Option Addr) (n k m l : Nat) (w : World) (h : n + m ≤ 1048576) :
    Calls Try.prog 31 #[.agg #[.slice A n k, .slice D m l], .int .i64 1048576] w fun e w' => e = .returned (.int .i64 (1048576 - (n : Int) - m)) ∧ Past w w' := by
  have c1 := szInts A n k 1048576
  have c2 := fun w => szInts D m l (1048576 - (n : Int)) w (by omega) (by omega) (by omega)
  rw [if_pos (by omega)] at c1
  simp only [if_pos (show (m : Int) ≤ 1048576 - (n : Int) from by omega)] at c2
  have C1 := Lib.hid c1
  have C2 := Lib.hid c2
  clear c1 c2
  go_enter Try.func31, Try.ntmps31
  go_wp2_with (first | (go_at_call 66; (with_reducible refine (C1.out _ (by omega) (by omega) (by omega)).mono ?_); rintro e w9 ⟨rfl, rfl⟩) | (go_at_call 66; (with_reducible refine (C2.out _).mono ?_); rintro e w9 ⟨rfl, rfl⟩))
  go_ret
  exact ⟨rfl, (by repeat (first | exact Past.refl _ | assumption | refine Past.alloc ?_ _ | refine Past.drew ?_ | refine Past.drewN ?_ _ | refine Past.setCell ?_ (by first | (simp; done) | (simp <;> omega)) _ | refine Past.trans ?_ (past_over _ _) | refine Past.trans ?_ (by assumption)))⟩
theorem szBoard_big (A D : Option Addr) (n k m l : Nat) (w : World) (h : 1048576 < n + m) (hn : (n : Int) ≤ 9223372036854775807) (hm : (m : Int) ≤ 9223372036854775807) :
    Calls Try.prog 31 #[.agg #[.slice A n k, .slice D m l], .int .i64 1048576] w fun e w' => e = .returned (.int .i64 (-1)) ∧ Past w w' := by
  have c1 := szInts A n k 1048576
  by_cases hA : (n : Int) ≤ 1048576
  · have c2 := fun w => szInts D m l (1048576 - (n : Int)) w (by omega) (by omega) hm
    rw [if_pos hA] at c1
    simp only [if_neg (show ¬ (m : Int) ≤ 1048576 - (n : Int) from by omega)] at c2
    have C1 := Lib.hid c1
    have C2 := Lib.hid c2
    clear c1 c2
    go_enter Try.func31, Try.ntmps31
    go_wp2_with (first | (go_at_call 66; (with_reducible refine (C1.out _ (by omega) (by omega) hn).mono ?_); rintro e w9 ⟨rfl, rfl⟩) | (go_at_call 66; (with_reducible refine (C2.out _).mono ?_); rintro e w9 ⟨rfl, rfl⟩))
    go_ret
    exact ⟨rfl, (by repeat (first | exact Past.refl _ | assumption | refine Past.alloc ?_ _ | refine Past.drew ?_ | refine Past.drewN ?_ _ | refine Past.setCell ?_ (by first | (simp; done) | (simp <;> omega)) _ | refine Past.trans ?_ (past_over _ _) | refine Past.trans ?_ (by assumption)))⟩
  · rw [if_neg hA] at c1
    have C1 := Lib.hid c1
    clear c1
    go_enter Try.func31, Try.ntmps31
    go_wp2_with (go_at_call 66; (with_reducible refine (C1.out _ (by omega) (by omega) hn).mono ?_); rintro e w9 ⟨rfl, rfl⟩)
    go_ret
    exact ⟨rfl, (by repeat (first | exact Past.refl _ | assumption | refine Past.alloc ?_ _ | refine Past.drew ?_ | refine Past.drewN ?_ _ | refine Past.setCell ?_ (by first | (simp; done) | (simp <;> omega)) _ | refine Past.trans ?_ (past_over _ _) | refine Past.trans ?_ (by assumption)))⟩
theorem eqBoard_same (A D A' D' : Option Addr) (n k m l k' l' : Nat) (xs ys : List Int) (w : World) (hx : RdI w A n xs) (hy : RdI w D m ys) (hx' : RdI w A' n xs) (hy' : RdI w D' m ys) (hn : n ≤ 1048576) (hm : m ≤ 1048576) :
    Calls Try.prog 18 #[.agg #[.slice A n k, .slice D m l], .agg #[.slice A' n k', .slice D' m l']] w fun e w' => e = .returned (.bool true) ∧ Past w w' := by
  have p0 : Past w ((w.alloc (.cells #[.slice A n k, .slice D m l] 26)).alloc (.cells #[.slice A' n k', .slice D' m l'] 26)) := (by repeat (first | exact Past.refl _ | assumption | refine Past.alloc ?_ _ | refine Past.drew ?_ | refine Past.drewN ?_ _ | refine Past.setCell ?_ (by first | (simp; done) | (simp <;> omega)) _ | refine Past.trans ?_ (past_over _ _) | refine Past.trans ?_ (by assumption)))
  replace hx := hx.past p0
  replace hy := hy.past p0
  replace hx' := hx'.past p0
  replace hy' := hy'.past p0
  clear p0
  go_enter Try.func18, Try.ntmps18
  go_wp2_with (first | (go_at_call 24; (with_reducible refine (eqInts _ _ _ _ _ _ _ hx hx' hn).mono ?_); rintro e w1 ⟨rfl, hb1⟩; obtain ⟨hc1, hf1, _⟩ := hb1.cells; have hz1_0 : w.heap.size < w1.heap.size := Past.lt hb1 (by first | omega | (simp <;> omega)); have hz1_1 : w.heap.size + 1 < w1.heap.size := Past.lt hb1 (by first | omega | (simp <;> omega))) | (go_at_call 24; (with_reducible refine (eqInts _ _ _ _ _ _ _ (hy.past hb1) (hy'.past hb1) hm).mono ?_); rintro e w2 ⟨rfl, hb2⟩; obtain ⟨hc2, hf2, _⟩ := hb2.cells))
  go_ret
  exact ⟨rfl, (by repeat (first | exact Past.refl _ | assumption | refine Past.alloc ?_ _ | refine Past.drew ?_ | refine Past.drewN ?_ _ | refine Past.setCell ?_ (by first | (simp; done) | (simp <;> omega)) _ | refine Past.trans ?_ (past_over _ _) | refine Past.trans ?_ (by assumption)))⟩
/-- What the copy of a board leaves: two new rows in two blocks. -/
def BoardMade (w : World) (n m : Nat) (xs ys : List Int) (e : Ending) (w' : World) : Prop :=
  ∃ b d, e = .returned (.agg #[.slice (some ⟨b, 0, none⟩) n n, .slice (some ⟨d, 0, none⟩) m m]) ∧ OwI w.heap.size w' (some ⟨b, 0, none⟩) n n xs ∧ OwI w.heap.size w' (some ⟨d, 0, none⟩) m m ys ∧ b ≠ d ∧ Past w w'
theorem toBoard_any (A D : Option Addr) (n k m l : Nat) (xs ys : List Int) (w : World) (hx : RdI w A n xs) (hy : RdI w D m ys) (hn : n ≤ 1048576) (hm : m ≤ 1048576) :
    Calls Try.prog 33 #[.agg #[.slice A n k, .slice D m l]] w (BoardMade w n m xs ys) := by
  go_enter Try.func33, Try.ntmps33
  go_wp2_with fail
  (with_reducible refine (toInts' _ _ _ _ _ (hx.past (by repeat (first | exact Past.refl _ | assumption | refine Past.alloc ?_ _ | refine Past.drew ?_ | refine Past.drewN ?_ _ | refine Past.setCell ?_ (by first | (simp; done) | (simp <;> omega)) _ | refine Past.trans ?_ (past_over _ _) | refine Past.trans ?_ (by assumption)))) hn).mono ?_)
  rintro e w1 ⟨b, rfl, ho1, hg1, hl1, hb1⟩
  obtain ⟨hc1, hf1, _⟩ := hb1.cells
  simp at hg1
  have hz1_0 : w.heap.size < w1.heap.size := Past.lt hb1 (by first | omega | (simp <;> omega))
  have hz1_1 : w.heap.size + 1 < w1.heap.size := Past.lt hb1 (by first | omega | (simp <;> omega))
  have hz1_2 : w.heap.size + 2 < w1.heap.size := Past.lt hb1 (by first | omega | (simp <;> omega))
  go_wp2_with fail
  (with_reducible refine (toInts' _ _ _ _ _ (hy.past (by repeat (first | exact Past.refl _ | assumption | refine Past.alloc ?_ _ | refine Past.drew ?_ | refine Past.drewN ?_ _ | refine Past.setCell ?_ (by first | (simp; done) | (simp <;> omega)) _ | refine Past.trans ?_ (past_over _ _) | refine Past.trans ?_ (by assumption)))) hm).mono ?_)
  rintro e w2 ⟨d, rfl, ho2, hg2, hl2, hb2⟩
  obtain ⟨hc2, hf2, _⟩ := hb2.cells
  simp at hg2
  have hz2_0 : w.heap.size < w2.heap.size := Past.lt hb2 (by first | omega | (simp <;> omega))
  have hz2_1 : w.heap.size + 1 < w2.heap.size := Past.lt hb2 (by first | omega | (simp <;> omega))
  have hz2_2 : w.heap.size + 2 < w2.heap.size := Past.lt hb2 (by first | omega | (simp <;> omega))
  go_wp2
  replace ho1 := ho1.less (base' := w.heap.size) (by first | omega | (simp <;> omega))
  replace ho2 := ho2.less (base' := w.heap.size) (by first | omega | (simp <;> omega))
  refine bodyPost_ret (v := .agg #[.slice (some ⟨b, 0, none⟩) n n, .slice (some ⟨d, 0, none⟩) m m]) (by simp [*, results, Try.results33, go_sem]) rfl ⟨b, d, rfl, (by repeat (first | assumption | refine OwI.far ?_ (by first | omega | (simp <;> omega)) _ | refine OwI.past ?_ (by assumption) | refine OwI.alloc ?_ _ | refine OwI.drew ?_)), (by repeat (first | assumption | refine OwI.far ?_ (by first | omega | (simp <;> omega)) _ | refine OwI.past ?_ (by assumption) | refine OwI.alloc ?_ _ | refine OwI.drew ?_)), by omega, (by repeat (first | exact Past.refl _ | assumption | refine Past.alloc ?_ _ | refine Past.drew ?_ | refine Past.drewN ?_ _ | refine Past.setCell ?_ (by first | (simp; done) | (simp <;> omega)) _ | refine Past.trans ?_ (past_over _ _) | refine Past.trans ?_ (by assumption)))⟩
end Go.Proofs.Ytmpfjnjlocfhdaa
