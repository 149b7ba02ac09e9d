/-
  Contracts: the source of the reference's draws, and the number that it hands out.
-/
import Derived.Test.YtdcdjocjlicplaaDoorPut
import Derived.BigQuiet
import Derived.IntWalk
import Derived.Deep.DeepCutAuto
namespace Go.Proofs.YtdcdjocjlicplaaDoor
open Go.ChangeShapes Go.WideShapes Go.ChangeAt Go.RowKit Go.Joins

theorem Blk.set {w : World} {g : Nat} {t : TypeId} {cs : Array Value} (h : Blk w g t cs) (i : Nat) (v : Value) : Blk (w.setCell ⟨g, i, none⟩ v) g t (cs.setIfInBounds i v) := heap_setCell_same w g i cs t v h
theorem Blk.off {w : World} {g : Nat} {t : TypeId} {cs : Array Value} (h : Blk w g t cs) {p : Addr} (v : Value) (hp : g ≠ p.block) : Blk (w.setCell p v) g t cs := (heap_setCell_other w p g v hp).trans h
theorem Blk.drew {w : World} {g : Nat} {t : TypeId} {cs : Array Value} (h : Blk w g t cs) : Blk w.drew g t cs := h
theorem Turn.refl (lo hi : Nat) (w : World) : Turn lo hi w w := Mod.refl _ w
theorem Turn.of_past {lo hi : Nat} {a b : World} (h : Past a b) : Turn lo hi a b := Mod.of_past h
theorem Turn.trans {lo hi : Nat} {a b c : World} (h : Turn lo hi a b) (k : Turn lo hi b c) : Turn lo hi a c := Mod.trans h k
theorem Turn.setNew {lo hi : Nat} {a b : World} (h : Turn lo hi a b) {p : Addr} (hp : a.heap.size ≤ p.block) (u : Value) : Turn lo hi a (b.setCell p u) :=
  ⟨h.1, h.2.1, h.2.2.1, by rw [World.size_setCell]; exact h.2.2.2.1, fun i hi hk => (heap_setCell_other b p i u (by omega)).trans (h.2.2.2.2 i hi hk)⟩
/-- The bytes behind a slice, below the block g. -/
def RdC (w : World) (g : Nat) (A : Option Addr) (n : Nat) : Prop := ∀ j, j < n → ∃ b o x, A = some ⟨b, o, none⟩ ∧ w.cell? ⟨b, o + j, none⟩ = some (.int .u8 x) ∧ 0 ≤ x ∧ x ≤ 255 ∧ b < g
theorem RdC.turn {w w' : World} {g : Nat} {A : Option Addr} {n : Nat} (h : RdC w g A n) (p : Turn g (g + 1) w w') : RdC w' g A n := fun j hj => by
  obtain ⟨b, o, x, e, hc, h0, h1, hb⟩ := h j hj
  exact ⟨b, o, x, e, p.cell hc (.inl hb), h0, h1, hb⟩
theorem RdC.past {w w' : World} {g g' : Nat} {A : Option Addr} {n : Nat} (h : RdC w g A n) (p : Past w w') (hg : g ≤ g') : RdC w' g' A n := fun j hj => by
  obtain ⟨b, o, x, e, hc, h0, h1, hb⟩ := h j hj
  exact ⟨b, o, x, e, p.keep hc, h0, h1, by omega⟩
theorem RdC.set {w : World} {g : Nat} {A : Option Addr} {n : Nat} (h : RdC w g A n) {p : Addr} (u : Value) (hp : g ≤ p.block) : RdC (w.setCell p u) g A n := fun j hj => by
  obtain ⟨b, o, x, e, hc, h0, h1, hb⟩ := h j hj
  exact ⟨b, o, x, e, (World.cell?_setCell_other w p ⟨b, o + j, none⟩ u (fun h => by have := congrArg Addr.block h; simp only at this; omega)).trans hc, h0, h1, hb⟩
/-- The source at g: over the bytes of the slice A. -/
def Src (w : World) (g : Nat) (A : Option Addr) (n k : Nat) : Prop :=
  RdC w g A n ∧ n ≤ 5000 ∧ ∃ (p : Nat) (z : Int), p ≤ n ∧ 0 ≤ z ∧ z < 2147483647 ∧ Blk w g 97 #[.slice A n k, .int .i64 (p : Int), .int .i64 z]
theorem Src.lt {w : World} {g : Nat} {A : Option Addr} {n k : Nat} (h : Src w g A n k) : g < w.heap.size := by
  obtain ⟨_, _, p, z, _, _, _, hb⟩ := h
  exact hb.lt
theorem Src.past {w w' : World} {g : Nat} {A : Option Addr} {n k : Nat} (h : Src w g A n k) (p : Past w w') : Src w' g A n k := by
  obtain ⟨h0, h1, q, z, h2, h3, h4, hb⟩ := h
  exact ⟨h0.past p (Nat.le_refl _), h1, q, z, h2, h3, h4, hb.past p⟩
theorem Src.off {w : World} {g : Nat} {A : Option Addr} {n k : Nat} (h : Src w g A n k) {p : Addr} (u : Value) (hp : g < p.block) : Src (w.setCell p u) g A n k := by
  obtain ⟨h0, h1, q, z, h2, h3, h4, hb⟩ := h
  exact ⟨h0.set u (by omega), h1, q, z, h2, h3, h4, hb.off u (by omega)⟩
/-- The world behind a draw: the source stands, and only its block has turned. -/
def Drew (w : World) (g : Nat) (A : Option Addr) (n k : Nat) (w' : World) : Prop := Src w' g A n k ∧ Turn g (g + 1) w w'
section
variable {a b c : World} {g : Nat} {A : Option Addr} {n k : Nat}
theorem Drew.src (h : Drew a g A n k b) : Src b g A n k := h.1
theorem Drew.refl (h : Src a g A n k) : Drew a g A n k a := ⟨h, Turn.refl _ _ _⟩
theorem Drew.trans (h : Drew a g A n k b) (h' : Drew b g A n k c) : Drew a g A n k c := ⟨h'.1, h.2.trans h'.2⟩
theorem Drew.past (h : Drew a g A n k b) (p : Past b c) : Drew a g A n k c := ⟨h.1.past p, h.2.trans (Turn.of_past p)⟩
theorem Drew.after (p : Past a b) (h : Drew b g A n k c) : Drew a g A n k c := ⟨h.1, (Turn.of_past p).trans h.2⟩
theorem Drew.alloc (h : Drew a g A n k b) (o : Obj) : Drew a g A n k (b.alloc o) := h.past ((Past.refl b).alloc o)
theorem Drew.drew (h : Drew a g A n k b) : Drew a g A n k b.drew := h.past (Past.refl b).drew
theorem Drew.set (h : Drew a g A n k b) {p : Addr} (hp : a.heap.size ≤ p.block) (hg : g < p.block) (u : Value) : Drew a g A n k (b.setCell p u) := ⟨h.1.off u hg, h.2.setNew hp u⟩
theorem Drew.cell (h : Drew a g A n k b) {p : Addr} {v : Value} (hc : a.cell? p = some v) (hs : p.block ≠ g) : b.cell? p = some v := h.2.cell hc (by omega)
theorem Drew.blk (h : Drew a g A n k b) {d : Nat} {t : TypeId} {cs : Array Value} (hb : Blk a d t cs) (hs : d ≠ g) : Blk b d t cs := h.2.blk hb (by omega)
theorem Drew.sz (h : Drew a g A n k b) : a.heap.size ≤ b.heap.size := h.2.sz
theorem Drew.pastOf {w : World} (h : Drew a g A n k b) (p : Past w a) (hg : w.heap.size ≤ g) : Past w b := h.2.past p hg
end

def Next (w : World) (g : Nat) (A : Option Addr) (n k : Nat) (N : Int) (e : Ending) (w' : World) : Prop :=
  ∃ x, e = .returned (.int .i64 x) ∧ 0 ≤ x ∧ (x < N ∨ x = 0) ∧ Drew w g A n k w'
set_option maxHeartbeats 1000000 in
theorem next_any (w : World) (g : Nat) (A : Option Addr) (n k : Nat) (N : Int) (hs : Src w g A n k) (hN : N ≤ 1000000000000) :
    Calls Tryd.prog 74 #[.pointer (some ⟨g, 0, none⟩), .int .i64 N] w (Next w g A n k N) := by
  by_cases h1 : N ≤ 1
  · go_enter Tryd.func74, Tryd.ntmps74
    go_wp2_with fail
    go_ret
    exact ⟨0, rfl, by omega, .inr rfl, hs, Turn.refl _ _ _⟩
  · obtain ⟨hrd, hn, p, z, hp, hz0, hz1, hb⟩ := hs
    have q0 : w.cell? ⟨g, 0, none⟩ = some (.slice A n k) := hb.cell 0 rfl
    have q1 : w.cell? ⟨g, 1, none⟩ = some (.int .i64 (p : Int)) := hb.cell 1 rfl
    have q2 : w.cell? ⟨g, 2, none⟩ = some (.int .i64 z) := hb.cell 2 rfl
    have fr2 := hb.free 2
    have T1 : (z * 48271 + 17).tmod 2147483647 = (z * 48271 + 17) % 2147483647 := Int.tmod_eq_emod_of_nonneg (by omega)
    obtain ⟨Z, hZ⟩ : ∃ Z, (z * 48271 + 17) % 2147483647 = Z := ⟨_, rfl⟩
    have hZ0 : 0 ≤ Z := by omega
    have hZ1 : Z < 2147483647 := by omega
    go_enter Tryd.func74, Tryd.ntmps74
    go_upto_region 4 with fail
    obtain ⟨w1, hw1⟩ : ∃ w1, w1 = w.setCell ⟨g, 2, none⟩ (.int .i64 Z) := ⟨_, rfl⟩
    have hb1 : Blk w1 g 97 #[.slice A n k, .int .i64 (p : Int), .int .i64 Z] := by rw [hw1]; exact hb.set 2 _
    have hrd1 : RdC w1 g A n := by rw [hw1]; exact hrd.set _ (Nat.le_refl _)
    have ht1 : Turn g (g + 1) w w1 := by rw [hw1]; exact Turn.set w g 2 _
    rw [← hw1]
    clear hw1 q0 q1 q2 fr2 hb hrd T1 hZ
    have q0 : w1.cell? ⟨g, 0, none⟩ = some (.slice A n k) := hb1.cell 0 rfl
    have q1 : w1.cell? ⟨g, 1, none⟩ = some (.int .i64 (p : Int)) := hb1.cell 1 rfl
    have q2 : w1.cell? ⟨g, 2, none⟩ = some (.int .i64 Z) := hb1.cell 2 rfl
    have fr1 := hb1.free 1
    by_cases hlt : p < n
    · have hlt2 : (p : Int) < (n : Int) := by omega
      obtain ⟨b, o, x, rfl, hc, x0, x1, hbg⟩ := hrd1 p hlt
      have hc1 := hc
      go_wp2_with fail
      go_quiet (fail)
      obtain ⟨w2, hw2⟩ : ∃ w2, w2 = w1.drewN nq := ⟨_, rfl⟩
      rw [← hw2]
      have hp2 : Past w1 w2 := by rw [hw2]; exact (Past.refl w1).drewN nq
      clear hw2 nq
      replace q0 := hp2.keep q0
      replace q1 := hp2.keep q1
      replace hc := hp2.keep hc
      go_wp2_with fail
      go_quiet (fail)
      obtain ⟨w3, hw3⟩ : ∃ w3, w3 = w2.drewN nq := ⟨_, rfl⟩
      rw [← hw3]
      have hp3 : Past w1 w3 := by rw [hw3]; exact hp2.drewN nq
      clear hw3 nq hp2
      have hb3 := hb1.past hp3
      have q1 : w3.cell? ⟨g, 1, none⟩ = some (.int .i64 (p : Int)) := hb3.cell 1 rfl
      have f1 := hb3.free 1
      go_upto_region 8 with fail
      obtain ⟨w4, hw4⟩ : ∃ w4, w4 = w3.setCell ⟨g, 1, none⟩ (.int .i64 ((p : Int) + 1)) := ⟨_, rfl⟩
      have hb4 : Blk w4 g 97 #[.slice (some ⟨b, o, none⟩) n k, .int .i64 ((p + 1 : Nat) : Int), .int .i64 Z] := by rw [hw4]; exact hb3.set 1 _
      have hrd4 : RdC w4 g (some ⟨b, o, none⟩) n := by rw [hw4]; exact (hrd1.past hp3 (Nat.le_refl _)).set _ (Nat.le_refl _)
      have ht4 : Turn g (g + 1) w w4 := by rw [hw4]; exact (ht1.trans (Turn.of_past hp3)).trans (Turn.set w3 g 1 _)
      have hc4 : w4.cell? ⟨b, o + p, none⟩ = some (.int .u8 x) := by rw [hw4]; exact (World.cell?_setCell_other w3 ⟨g, 1, none⟩ ⟨b, o + p, none⟩ _ (fun h => by have := congrArg Addr.block h; simp only at this; omega)).trans (hp3.keep hc1)
      rw [← hw4]
      clear hw4 hb1 hrd1 ht1 hp3 hb3 hc hc1
      have q0 : w4.cell? ⟨g, 0, none⟩ = some (.slice (some ⟨b, o, none⟩) n k) := hb4.cell 0 rfl
      have q1 : w4.cell? ⟨g, 1, none⟩ = some (.int .i64 ((p : Int) + 1)) := hb4.cell 1 rfl
      have hds : Src w4 g (some ⟨b, o, none⟩) n k := ⟨hrd4, hn, p + 1, Z, by omega, hZ0, hZ1, hb4⟩
      have U1 : (Z / 11 + x).tmod N = (Z / 11 + x) % N := Int.tmod_eq_emod_of_nonneg (by omega)
      have U2 : x.tmod N = x % N := Int.tmod_eq_emod_of_nonneg (by omega)
      have V1 : (Z / 11 + x) % N < N := Int.emod_lt_of_pos _ (by omega)
      have V2 : x % N < N := Int.emod_lt_of_pos _ (by omega)
      have V3 : 0 ≤ (Z / 11 + x) % N := Int.emod_nonneg _ (by omega)
      have V4 : 0 ≤ x % N := Int.emod_nonneg _ (by omega)
      by_cases h256 : N ≤ 256
      · by_cases hev : ((p : Int) + 1) % 2 = 0
        · go_wp2_with fail
          go_quiet (fail)
          obtain ⟨w5, hw5⟩ : ∃ w5, w5 = w4.drewN nq := ⟨_, rfl⟩
          rw [← hw5]
          have hp5 : Past w4 w5 := by rw [hw5]; exact (Past.refl w4).drewN nq
          clear hw5 nq
          go_wp2
          go_ret
          exact ⟨x % N, rfl, V4, .inl V2, hds.past hp5, ht4.trans (Turn.of_past hp5)⟩
        · go_wp2_with fail
          go_ret
          exact ⟨(Z / 11 + x) % N, rfl, V3, .inl V1, hds, ht4⟩
      · go_wp2_with fail
        go_ret
        exact ⟨(Z / 11 + x) % N, rfl, V3, .inl V1, hds, ht4⟩
    · have hlt2 : ¬ (p : Int) < (n : Int) := by omega
      have U1 : (Z / 11).tmod N = (Z / 11) % N := Int.tmod_eq_emod_of_nonneg (by omega)
      have V1 : (Z / 11) % N < N := Int.emod_lt_of_pos _ (by omega)
      have V3 : 0 ≤ (Z / 11) % N := Int.emod_nonneg _ (by omega)
      go_wp2_with fail
      go_quiet (fail)
      obtain ⟨w2, hw2⟩ : ∃ w2, w2 = w1.drewN nq := ⟨_, rfl⟩
      rw [← hw2]
      have hp2 : Past w1 w2 := by rw [hw2]; exact (Past.refl w1).drewN nq
      clear hw2 nq
      go_wp2_with fail
      go_ret
      exact ⟨(Z / 11) % N, rfl, V3, .inl V1, ⟨hrd1.past hp2 (Nat.le_refl _), hn, p, Z, hp, hZ0, hZ1, hb1.past hp2⟩, ht1.trans (Turn.of_past hp2)⟩
/-- A new source. -/
def NewSrc (w : World) (A : Option Addr) (n k : Nat) (e : Ending) (w' : World) : Prop :=
  ∃ g, e = .returned (.pointer (some ⟨g, 0, none⟩)) ∧ Src w' g A n k ∧ w.heap.size ≤ g ∧ Past w w'
set_option maxHeartbeats 1000000 in
theorem from_any (w : World) (A : Option Addr) (n k : Nat) (hx : RdC w w.heap.size A n) (hn : n ≤ 5000) :
    Calls Tryd.prog 54 #[.slice A n k] w (NewSrc w A n k) := by
  obtain ⟨w1, hw1⟩ : ∃ w1, w1 = w.alloc (.cells #[.slice A n k, .int .i64 0, .int .i64 24157] 97) := ⟨_, rfl⟩
  have hb1 : Blk w1 w.heap.size 97 #[.slice A n k, .int .i64 0, .int .i64 24157] := by rw [hw1]; exact Blk.new _ _ _
  have hp1 : Past w w1 := by rw [hw1]; exact (by repeat (first | exact Past.refl _ | assumption | refine Past.alloc ?_ _ | refine Past.drew ?_ | refine Past.drewN ?_ _ | refine Past.setCell ?_ (by first | (simp; done) | (simp <;> omega)) _ | refine Past.trans ?_ (past_over _ _) | refine Past.trans ?_ (by assumption)))
  go_enter Tryd.func54, Tryd.ntmps54
  go_upto_region 3 with fail
  rw [← hw1]
  clear hw1
  go_loopw [4] (fun i wr => ∃ (j : Nat) (z : Int), j ≤ n ∧ i = .int .i64 (j : Int) ∧ 0 ≤ z ∧ z < 2147483647 ∧ Blk wr w.heap.size 97 #[.slice A n k, .int .i64 0, .int .i64 z] ∧ Past w wr) (fun i _ => n - (intOf i).toNat)
  case atStart => exact ⟨0, 24157, Nat.zero_le _, rfl, by omega, by omega, hb1, hp1⟩
  case round =>
    obtain ⟨j, z, hj, rfl, z0, z1, hb, hp⟩ := hrel
    clear hb1 hp1
    have q2 : wr.cell? ⟨w.heap.size, 2, none⟩ = some (.int .i64 z) := hb.cell 2 rfl
    have f2 := hb.free 2
    have hsrc : Src wr w.heap.size A n k := ⟨hx.past hp (Nat.le_refl _), hn, 0, z, Nat.zero_le _, z0, z1, hb⟩
    by_cases hlt : j < n
    · have hlt2 : (j : Int) < (n : Int) := by omega
      by_cases h64 : (j : Int) < 64
      · obtain ⟨b, o, x, rfl, hc, x0, x1, hbg⟩ := (hx.past hp (Nat.le_refl _)) j hlt
        have T1 : (z * 43 + x).tmod 2147483647 = (z * 43 + x) % 2147483647 := Int.tmod_eq_emod_of_nonneg (by omega)
        go_wp2_with fail
        go_region
        have hz0 : 0 ≤ (z * 43 + x) % 2147483647 := by omega
        have hz1 : (z * 43 + x) % 2147483647 < 2147483647 := by omega
        have hb2 := (hb.set 2 (.int .i64 ((z * 43 + x) % 2147483647))).drew
        have hp2 := (hp.setCell (p := ⟨w.heap.size, 2, none⟩) (Nat.le_refl _) (.int .i64 ((z * 43 + x) % 2147483647))).drew
        generalize (z * 43 + x) % 2147483647 = Z at hz0 hz1 hb2 hp2 ⊢
        generalize (wr.setCell ⟨w.heap.size, 2, none⟩ (.int .i64 Z)).drew = w2 at hb2 hp2 ⊢
        go_wp2_with fail
        go_roundw
        case rel => exact ⟨j + 1, Z, by omega, by go_num, hz0, hz1, hb2, hp2⟩
        case measure => simp [intOf]; omega
      · go_wp2_with fail
        go_ret
        exact ⟨_, rfl, hsrc, Nat.le_refl _, hp⟩
    · have hlt2 : ¬ (j : Int) < (n : Int) := by omega
      go_wp2_with fail
      go_ret
      exact ⟨_, rfl, hsrc, Nat.le_refl _, hp⟩
end Go.Proofs.YtdcdjocjlicplaaDoor
