/-
  Contracts: the sides that the reference draws.
-/
import Derived.Test.YtapocfgajkkpdaaDrawV
import Derived.Test.YtapocfgajkkpdaaStart
namespace Go.Proofs.Ytapocfgajkkpdaa
open Go.ChangeShapes Go.WideShapes Go.ChangeAt Go.RowKit Go.Joins

/-- Numbers of checkers, none greater than m. -/
def Few (m : Int) (L : List Int) : Prop := ∀ x ∈ L, 0 ≤ x ∧ x ≤ m
theorem Few.more {m m' : Int} {L : List Int} (h : Few m L) (hm : m ≤ m') : Few m' L := fun x hx => by have := h x hx; omega
theorem Few.zeros {m : Int} (hm : 0 ≤ m) (n : Nat) : Few m (List.replicate n 0) := fun x hx => by
  have := List.eq_of_mem_replicate hx
  omega
theorem Few.set {m v : Int} {L : List Int} (h : Few m L) (h0 : 0 ≤ v) (h1 : v ≤ m) (i : Nat) : Few m (L.set i v) := fun x hx => by
  rcases List.mem_or_eq_of_mem_set hx with h2 | h2
  · exact h x h2
  · omega
theorem Few.get {m x : Int} {L : List Int} {i : Nat} (h : Few m L) (hx : L[i]? = some x) : 0 ≤ x ∧ x ≤ m := h x (List.mem_of_getElem? hx)
theorem RdI.turn {w w' : World} {g n o b : Nat} {xs : List Int} (h : RdI w (some ⟨b, o, none⟩) n xs) (p : Turn g (g + 1) w w') (hb : b ≠ g) : RdI w' (some ⟨b, o, none⟩) n xs :=
  ⟨h.1, fun hn => by
    obtain ⟨b', o', hA, hc⟩ := h.2 hn
    simp only [Option.some.injEq, Addr.mk.injEq, and_true] at hA
    obtain ⟨rfl, rfl⟩ := hA
    exact ⟨b, o, rfl, fun j x hj => p.cell (hc j x hj) (by simp only; omega)⟩⟩
theorem Drew.rd {a c : World} {g n k b o m : Nat} {A : Option Addr} {xs : List Int} (h : Drew a g A n k c) (hx : RdI a (some ⟨b, o, none⟩) m xs) (hb : b ≠ g) : RdI c (some ⟨b, o, none⟩) m xs := hx.turn h.2 hb
theorem Drew.ow {a c : World} {g n k b m l base : Nat} {A : Option Addr} {xs : List Int} (h : Drew a g A n k c) (hx : OwI base a (some ⟨b, 0, none⟩) m l xs) (hb : b ≠ g) : OwI base c (some ⟨b, 0, none⟩) m l xs := hx.turn h.2 (by omega)
/-- A side that a draw hands back. -/
def SideDrawn (w : World) (g : Nat) (A : Option Addr) (n k P : Nat) (m : Int) (e : Ending) (w' : World) : Prop :=
  ∃ b l L, e = .returned (.slice (some ⟨b, 0, none⟩) (P + 1) l) ∧ OwI w.heap.size w' (some ⟨b, 0, none⟩) (P + 1) l L ∧ Few m L ∧ Drew w g A n k w'
set_option maxHeartbeats 2000000 in
theorem drawSide_any (w : World) (g : Nat) (A : Option Addr) (n k : Nat) (hs : Src w g A n k) (P C : Nat) (h s : Int) (hP0 : 2 ≤ P) (hP : P ≤ 24) (hC : C ≤ 15) (tb tO tk : Nat) (ts : List Int) (ht : RdI w (some ⟨tb, tO, none⟩) (P + 1) ts) (htg : tb ≠ g) :
    Calls Try.prog 114 #[.pointer (some ⟨g, 0, none⟩), .agg #[.int .i64 (P : Int), .int .i64 (C : Int), .int .i64 h, .int .i64 s], .slice (some ⟨tb, tO, none⟩) (P + 1) tk] w (SideDrawn w g A n k P 15) := by
  have hg := hs.lt
  obtain ⟨w0, hw0⟩ : ∃ w0, w0 = w.alloc (.cells #[.int .i64 (P : Int), .int .i64 (C : Int), .int .i64 h, .int .i64 s] 25) := ⟨_, rfl⟩
  have hV : Blk w0 w.heap.size 25 #[.int .i64 (P : Int), .int .i64 (C : Int), .int .i64 h, .int .i64 s] := by rw [hw0]; exact Blk.new _ _ _
  have hp0 : Past w w0 := by rw [hw0]; exact (by repeat (first | exact Past.refl _ | assumption | refine Past.alloc ?_ _ | refine Past.drew ?_ | refine Past.drewN ?_ _ | refine Past.setCell ?_ (by first | (simp; done) | (simp <;> omega)) _ | refine Past.trans ?_ (past_over _ _) | refine Past.trans ?_ (by assumption)))
  have hz0 := hV.lt
  have c0 : w0.cell? ⟨w.heap.size, 0, none⟩ = some (.int .i64 (P : Int)) := hV.cell 0 rfl
  have c1 : w0.cell? ⟨w.heap.size, 1, none⟩ = some (.int .i64 (C : Int)) := hV.cell 1 rfl
  have c2 : w0.cell? ⟨w.heap.size, 2, none⟩ = some (.int .i64 h) := hV.cell 2 rfl
  have c3 : w0.cell? ⟨w.heap.size, 3, none⟩ = some (.int .i64 s) := hV.cell 3 rfl
  go_enter Try.func114, Try.ntmps114
  go_upto_region 1 with fail
  rw [← hw0]
  clear hw0
  go_wp2_with fail
  (with_reducible refine (sEmpty _ _ _ _ _ hP).mono ?_)
  rintro e w1 ⟨b, rfl, hown, hp1⟩
  have hbb := own_at hown
  have hz1 := hp1.sz
  have hD1 : Drew w g A n k w1 := (Drew.refl hs).past (hp0.trans hp1)
  have hV1 := hV.past hp1
  have d0 : w1.cell? ⟨w.heap.size, 0, none⟩ = some (.int .i64 (P : Int)) := hV1.cell 0 rfl
  go_wp2_with fail
  (with_reducible refine (next_any _ _ _ _ _ _ hD1.src (by omega)).mono ?_)
  rintro e w2 ⟨x, rfl, x0, x1, h2⟩
  have hV2 := h2.blk hV1 (by omega)
  have hD2 := hD1.trans h2
  have hown2 := h2.ow hown (by omega)
  have e1 : w2.cell? ⟨w.heap.size, 1, none⟩ = some (.int .i64 (C : Int)) := hV2.cell 1 rfl
  go_wp2_with fail
  (with_reducible refine (next_any _ _ _ _ _ _ hD2.src (by omega)).mono ?_)
  rintro e w3 ⟨y, rfl, y0, y1, h3⟩
  have hV3 := h3.blk hV2 (by omega)
  have hD3 := hD2.trans h3
  have hown3 := h3.ow hown2 (by omega)
  have hy : y ≤ 15 := by omega
  obtain ⟨Y, rfl⟩ := Int.eq_ofNat_of_zero_le y0
  have hx1 : x < P := by omega
  have htb : tb < w.heap.size := by
    obtain ⟨b', o', x', e, _, hc⟩ := ht.at_ (show 0 < P + 1 by omega)
    simp only [Option.some.injEq, Addr.mk.injEq, and_true] at e
    have := World.block_lt_of_cell? w _ hc
    simp only at this
    omega
  clear hown hown2 hV hV1 hV2 hD1 hD2 h2 h3 c0 c1 c2 c3 d0 e1 hp1 x1 y1
  go_wp2_with fail
  go_loopw [9, 10] (fun u i wr => ∃ (j : Nat) (L : List Int), j ≤ Y ∧ u = .int .i64 ((Y : Int) - (j : Int)) ∧ OwI w0.heap.size wr (some ⟨b, 0, none⟩) (P + 1) (P + 1) L ∧ Few (j : Int) L ∧ Drew w g A n k wr ∧ Blk wr w.heap.size 25 #[.int .i64 (P : Int), .int .i64 (C : Int), .int .i64 h, .int .i64 s] ∧ RdI wr (some ⟨tb, tO, none⟩) (P + 1) ts) (fun u _ _ => (intOf u).toNat)
  case atStart => exact ⟨0, _, Nat.zero_le _, by simp, hown3, Few.zeros (by omega) _, hD3, hV3, hD3.rd ht htg⟩
  case round =>
    obtain ⟨j, L, hj, rfl, ho, hL, hD, hVr, hts⟩ := hrel
    have hlen := ho.len
    have q0 : wr.cell? ⟨w.heap.size, 0, none⟩ = some (.int .i64 (P : Int)) := hVr.cell 0 rfl
    by_cases hjy : j = Y
    · subst hjy
      go_wp2_with fail
      go_ret
      exact ⟨b, _, L, rfl, ho.less hp0.sz, hL.more (by omega), hD⟩
    · go_wp2_with fail
      (with_reducible refine (next_any _ _ _ _ _ _ hD.src (by omega)).mono ?_)
      rintro e w4 ⟨i, rfl, i0, i1, h4⟩
      have hV4 := h4.blk hVr (by omega)
      have hD4 := hD.trans h4
      have ho4 := h4.ow ho (by omega)
      have ht4 := h4.rd hts htg
      go_wp2_with fail
      (with_reducible refine (next_any _ _ _ _ _ _ hD4.src (by omega)).mono ?_)
      rintro e w5 ⟨z, rfl, z0, z1, h5⟩
      have hV5 := h5.blk hV4 (by omega)
      have hD5 := hD4.trans h5
      have ho5 := h5.ow ho4 (by omega)
      have ht5 := h5.rd ht4 htg
      have q5 : w5.cell? ⟨w.heap.size, 0, none⟩ = some (.int .i64 (P : Int)) := hV5.cell 0 rfl
      have hbz5 := own_at ho5
      obtain ⟨I, rfl⟩ := Int.eq_ofNat_of_zero_le i0
      have hI : I < P := by omega
      have HE : ∀ (J : Nat) (a : Int), J ≤ P → L[J]? = some a → ∃ w6 L', w6 = w5.setCell ⟨b, J, none⟩ (.int .i64 (a + 1)) ∧ OwI w0.heap.size w6 (some ⟨b, 0, none⟩) (P + 1) (P + 1) L' ∧ Few ((j + 1 : Nat) : Int) L' ∧ Drew w g A n k w6 ∧ Blk w6 w.heap.size 25 #[.int .i64 (P : Int), .int .i64 (C : Int), .int .i64 h, .int .i64 s] ∧ RdI w6 (some ⟨tb, tO, none⟩) (P + 1) ts := by
        intro J a hJ ha
        have hab := hL.get ha
        refine ⟨_, _, rfl, ho5.set1 J (a + 1), (hL.more (by omega)).set (by omega) (by omega) J, hD5.set (by simp only; omega) (by simp only; omega) _, hV5.off _ (by simp only; omega), ?_⟩
        refine ⟨ht5.1, fun hn => ?_⟩
        obtain ⟨b', o', hA, hc⟩ := ht5.2 hn
        simp only [Option.some.injEq, Addr.mk.injEq, and_true] at hA
        obtain ⟨rfl, rfl⟩ := hA
        exact ⟨tb, tO, rfl, fun j x hj => (World.cell?_setCell_other w5 ⟨b, J, none⟩ ⟨tb, tO + j, none⟩ _ (fun h => by have := congrArg Addr.block h; simp only at this; omega)).trans (hc j x hj)⟩
      have HE' := Lib.hid HE
      clear HE hV4 hD4 ho4 ht4 h4 h5 hVr hts hD ho
      by_cases hz : z = 0
      · subst hz
        obtain ⟨a, ha⟩ : ∃ a, L[P]? = some a := ⟨_, List.getElem?_eq_getElem (show P < L.length by omega)⟩
        have hab := hL.get ha
        obtain ⟨w6, L', hw6, hr⟩ := HE'.out P a (Nat.le_refl _) ha
        have p1 := ho5.cellj P (by omega) a ha
        have p2 := ho5.freej P
        clear ha hV5 hD5 ht5 HE' ho5
        have HR := Lib.hid hr
        clear hr
        go_wp2_with fail
        rw [← hw6]
        clear hw6 p1 p2
        go_wp2_with fail
        go_roundw
        case rel => exact ⟨j + 1, L', by omega, by go_num, HR.out⟩
        case measure => simp [intOf]; omega
      · obtain ⟨q, hq⟩ : ∃ q, ts[P - 1 - I]? = some q := ⟨_, List.getElem?_eq_getElem (by have := ht5.1; omega)⟩
        obtain ⟨tb', tO', q', e, hq', ct⟩ := ht5.at_ (show P - 1 - I < P + 1 by omega)
        rw [hq] at hq'
        obtain rfl := Option.some.inj hq'
        simp only [Option.some.injEq, Addr.mk.injEq, and_true] at e
        obtain ⟨rfl, rfl⟩ := e
        obtain ⟨a, ha⟩ : ∃ a, L[I]? = some a := ⟨_, List.getElem?_eq_getElem (show I < L.length by omega)⟩
        have hab := hL.get ha
        have hIP : ¬ (I : Int) = (P : Int) := by omega
        have hix0 : (0 : Int) ≤ (P : Int) - 1 - (I : Int) := by omega
        have hix1 : (P : Int) - 1 - (I : Int) < ((P + 1 : Nat) : Int) := by omega
        have hix2 : ((P : Int) - 1 - (I : Int)).toNat = P - 1 - I := by omega
        by_cases hq0 : q = 0
        · subst hq0
          obtain ⟨w6, L', hw6, hr⟩ := HE'.out I a (by omega) ha
          have p1 := ho5.cellj I (by omega) a ha
          have p2 := ho5.freej I
          clear ha hV5 hD5 ht5 HE' ho5 hq
          have HR := Lib.hid hr
          clear hr
          go_wp2_with fail
          rw [← hw6]
          clear hw6 p1 p2
          go_wp2_with fail
          go_roundw
          case rel => exact ⟨j + 1, L', by omega, by go_num, HR.out⟩
          case measure => simp [intOf]; omega
        · have HR := Lib.hid (And.intro ho5 (And.intro (hL.more (show (j : Int) ≤ ((j + 1 : Nat) : Int) by omega)) (And.intro hD5 (And.intro hV5 ht5))))
          have hqb : (q == 0) = false := beq_eq_false_iff_ne.2 hq0
          clear ha hV5 hD5 ht5 HE' ho5 hq
          go_wp2_with fail
          go_roundw
          case rel => exact ⟨j + 1, L, by omega, by go_num, HR.out⟩
          case measure => simp [intOf]; omega
end Go.Proofs.Ytapocfgajkkpdaa
