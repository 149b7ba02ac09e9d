/-
  Contracts: the draw of a variant and a text.
-/
import Derived.Test.YtapocfgajkkpdaaDrawP
import Derived.Test.YtapocfgajkkpdaaId
import Derived.Deep.RegionWith
import Derived.Laws.Concat
namespace Go.Proofs.Ytapocfgajkkpdaa
open Go.ChangeShapes Go.WideShapes Go.ChangeAt Go.RowKit Go.Joins

/-- A variant and a text that a draw hands back in a law. -/
def VarText (w : World) (e : Ending) (w' : World) : Prop :=
  ∃ p c h s tb, e = .returned (.tuple #[.agg #[.int .i64 p, .int .i64 c, .int .i64 h, .int .i64 s], .string tb]) ∧ vBd p c h s ∧ tb.size ≤ 1000 ∧ Past w w'
theorem idBd_size (p c h s : Int) (xs ys : List Int) : (idBd p c h s xs ys).size ≤ 200 := by
  unfold idBd
  split
  · rename_i hb
    have h1 := bits_bd hb
    have h2 := bitsRow_len (zs := xs ++ ys) (fun x hx => (List.mem_append.1 hx).elim (h1.2.2.2.1 x) (h1.2.2.2.2 x))
    rw [List.length_append] at h2
    rw [idOf, idS_size]
    omega
  · exact Nat.zero_le _
theorem past4' {w x : World} {v0 v1 v2 v3 : Value} (h : Past w x) : Past w ((((x.setCell ⟨w.heap.size, 0, none⟩ v0).setCell ⟨w.heap.size, 1, none⟩ v1).setCell ⟨w.heap.size, 2, none⟩ v2).setCell ⟨w.heap.size, 3, none⟩ v3) :=
  (((h.setCell (p := ⟨w.heap.size, 0, none⟩) (Nat.le_refl _) v0).setCell (p := ⟨w.heap.size, 1, none⟩) (Nat.le_refl _) v1).setCell (p := ⟨w.heap.size, 2, none⟩) (Nat.le_refl _) v2).setCell (p := ⟨w.heap.size, 3, none⟩) (Nat.le_refl _) v3
theorem Blk.cells4' {w : World} {b : Nat} {t : TypeId} {y0 y1 y2 y3 : Value} (h : Blk w b t #[y0, y1, y2, y3]) : (w.cell? ⟨b, 0, none⟩ = some y0 ∧ w.cell? ⟨b, 1, none⟩ = some y1 ∧ w.cell? ⟨b, 2, none⟩ = some y2 ∧ w.cell? ⟨b, 3, none⟩ = some y3) ∧ w.frozen? ⟨b, 0, none⟩ = false ∧ w.frozen? ⟨b, 1, none⟩ = false ∧ w.frozen? ⟨b, 2, none⟩ = false ∧ w.frozen? ⟨b, 3, none⟩ = false :=
  ⟨⟨h.cell 0 rfl, h.cell 1 rfl, h.cell 2 rfl, h.cell 3 rfl⟩, h.free 0, h.free 1, h.free 2, h.free 3⟩
def letX (Z : Nat) : ByteArray := (lettersB.extract Z 64).extract 0 1
theorem letX_le (Z : Nat) : (letX Z).size ≤ 64 := by
  have h1 : (letX Z).size ≤ (lettersB.extract Z 64).size := by
    rw [letX, ByteArray.size_extract]
    omega
  have h2 : (lettersB.extract Z 64).size ≤ 64 := by
    rw [ByteArray.size_extract, lettersB_size]
    omega
  omega
theorem letX_size (Z : Nat) : (letX Z).size ≤ 10000 := by
  have := letX_le Z
  omega
set_option maxRecDepth 100000 in
theorem letters_from {Z : Nat} (h : Z < 64) (w : World) : (Instr.slice 9 (.string lettersB) (some (.int .i64 (Z : Int))) none none).run Try.prog w = .ok (.string (lettersB.extract Z 64)) w := by
  have e := run_slice_string_l (P := Try.prog) (w := w) (t := 9) (by rfl) (s := lettersB) .i64 (Z : Int) (by omega) (by rw [lettersB_size]; omega)
  rw [Int.toNat_natCast, lettersB_size] at e
  exact e
set_option maxRecDepth 100000 in
theorem letter_one {Z : Nat} (h : Z < 64) (w : World) : (Instr.slice 9 (.string (lettersB.extract Z 64)) none (some (.int .i64 1)) none).run Try.prog w = .ok (.string (letX Z)) w := by
  have e := run_slice_string_h (P := Try.prog) (w := w) (t := 9) (by rfl) (s := lettersB.extract Z 64) .i64 1 (by omega) (by rw [ByteArray.size_extract, lettersB_size]; omega)
  exact e
theorem app_le {a b : ByteArray} {m : Nat} (ha : a.size ≤ m) (hb : b.size ≤ 64) (hm : m ≤ 200) : (a ++ b).size ≤ 10000 := by
  rw [ByteArray.size_append]
  omega
def selS (Z : Nat) : ByteArray := [(⟨#[65]⟩ : ByteArray), ⟨#[33]⟩, ⟨#[56]⟩, ⟨#[65, 65, 65, 65, 65, 65, 65, 65, 65, 65, 65, 65, 65, 65]⟩].getD Z ⟨#[]⟩
def arrS : Array Value := #[.string ⟨#[65]⟩, .string ⟨#[33]⟩, .string ⟨#[56]⟩, .string ⟨#[65, 65, 65, 65, 65, 65, 65, 65, 65, 65, 65, 65, 65, 65]⟩]
theorem selS_size {Z : Nat} (h : Z < 4) : (selS Z).size ≤ 14 := by
  rcases (by omega : Z = 0 ∨ Z = 1 ∨ Z = 2 ∨ Z = 3) with rfl | rfl | rfl | rfl <;> decide
theorem arrS_cell (wx : World) (t : TypeId) {Z : Nat} (h : Z < 4) : (wx.alloc (.cells #[.string ⟨#[65]⟩, .string ⟨#[33]⟩, .string ⟨#[56]⟩, .string ⟨#[65, 65, 65, 65, 65, 65, 65, 65, 65, 65, 65, 65, 65, 65]⟩] t)).cell? ⟨wx.heap.size, Z, none⟩ = some (.string (selS Z)) := by
  rcases (by omega : Z = 0 ∨ Z = 1 ∨ Z = 2 ∨ Z = 3) with rfl | rfl | rfl | rfl <;> exact (Blk.new wx t _).cell _ rfl
theorem ext_size (tb : ByteArray) (i j : Nat) : (tb.extract i j).size ≤ tb.size := by
  rw [ByteArray.size_extract]
  omega
theorem add_le {P : Program} (a b : ByteArray) (w : World) (ha : a.size ≤ 10000) (hb : b.size ≤ 10000) : (Op.stringOp .add a b).run P w = .ok (.string (a ++ b)) w := run_string_add_sum w a b (by omega)
set_option maxHeartbeats 4000000 in
set_option maxRecDepth 100000 in
theorem drawText_any (A : Option Addr) (n k : Nat) (w : World) (hx : RdC w w.heap.size A n) (hn : n ≤ 5000) :
    Calls Try.prog 44 #[.slice A n k] w (VarText w) := by
  obtain ⟨w0, hw0⟩ : ∃ w0, w0 = w.alloc (.cells #[.int .i64 0, .int .i64 0, .int .i64 0, .int .i64 0] 25) := ⟨_, rfl⟩
  have hR : Blk w0 w.heap.size 25 #[.int .i64 0, .int .i64 0, .int .i64 0, .int .i64 0] := by rw [hw0]; exact Blk.new _ _ _
  have hp0 : Past w w0 := by rw [hw0]; exact (by repeat (first | exact Past.refl _ | assumption | refine Past.alloc ?_ _ | refine Past.drew ?_ | refine Past.drewN ?_ _ | refine Past.setCell ?_ (by first | (simp; done) | (simp <;> omega)) _ | refine Past.trans ?_ (past_over _ _) | refine Past.trans ?_ (by assumption)))
  have hz0 := hR.lt
  go_enter Try.func44, Try.ntmps44
  go_upto_region 1 with fail
  rw [← hw0]
  clear hw0
  go_wp2_with fail
  (with_reducible refine (from_any _ _ _ _ (hx.past hp0 hp0.sz) hn).mono ?_)
  rintro e w1 ⟨g, rfl, hs1, hg1, hp1⟩
  have hR1 := hR.past hp1
  have zg := hs1.lt
  go_wp2_with fail
  (with_reducible refine (drawPair_any _ _ _ _ _ hs1).mono ?_)
  rintro e w2 ⟨p, c, h, s, b1, n1, l1, X1, b2, n2, l2, X2, rfl, hbd, q1, q2, m1, m2, g1, g2, h2⟩
  have hR2 := h2.blk hR1 (by omega)
  have hp2 : Past w w2 := h2.pastOf (hp0.trans hp1) (by omega)
  have hz2 := h2.sz
  have hs2 := h2.src
  clear h2 hR hR1 hp1 hs1
  go_upto_region 3 with fail
  obtain ⟨wu, hwu⟩ : ∃ wu, wu = w2.alloc (.cells #[.int .i64 p, .int .i64 c, .int .i64 h, .int .i64 s] 25) := ⟨_, rfl⟩
  have hVu : Blk wu w2.heap.size 25 #[.int .i64 p, .int .i64 c, .int .i64 h, .int .i64 s] := by rw [hwu]; exact Blk.new _ _ _
  have hpu : Past w2 wu := by rw [hwu]; exact (Past.refl w2).alloc _
  have zu : wu.heap.size = w2.heap.size + 1 := by rw [hwu]; simp
  obtain ⟨w3, hw3⟩ : ∃ w3, w3 = wu.alloc (.cells #[.slice (some ⟨b1, 0, none⟩) n1 l1, .slice (some ⟨b2, 0, none⟩) n2 l2] 43) := ⟨_, rfl⟩
  rw [← hwu, ← hw3]
  have hB : Blk w3 (w2.heap.size + 1) 43 #[.slice (some ⟨b1, 0, none⟩) n1 l1, .slice (some ⟨b2, 0, none⟩) n2 l2] := by rw [hw3]; exact Blk.at_ zu.symm
  have hpx : Past wu w3 := by rw [hw3]; exact (Past.refl wu).alloc _
  have hV := hVu.past hpx
  have hp23 := hpu.trans hpx
  have hs3 := hs2.past hp23
  have hR3 := hR2.past hp23
  have q13 := q1.past hp23
  have q23 := q2.past hp23
  have hp3 := hp2.trans hp23
  have zB := hB.lt
  obtain ⟨bV, hbV⟩ : ∃ b, b = w2.heap.size := ⟨_, rfl⟩
  rw [← hbV] at hV hB zu zB hz2 ⊢
  clear hw3 hwu hbV hVu hpu hpx hp23 hp2 hR2 hs2 q1 q2
  have c0 : w3.cell? ⟨bV, 0, none⟩ = some (.int .i64 p) := hV.cell 0 rfl
  have c1 : w3.cell? ⟨bV, 1, none⟩ = some (.int .i64 c) := hV.cell 1 rfl
  have c2 : w3.cell? ⟨bV, 2, none⟩ = some (.int .i64 h) := hV.cell 2 rfl
  have c3 : w3.cell? ⟨bV, 3, none⟩ = some (.int .i64 s) := hV.cell 3 rfl
  have c4 : w3.cell? ⟨bV + 1, 0, none⟩ = some (.slice (some ⟨b1, 0, none⟩) n1 l1) := hB.cell 0 rfl
  have c5 : w3.cell? ⟨bV + 1, 1, none⟩ = some (.slice (some ⟨b2, 0, none⟩) n2 l2) := hB.cell 1 rfl
  go_wp2_with fail
  (with_reducible refine (sBoardId_any _ _ _ _ _ _ _ _ _ _ _ _ _ _ _ q13 q23 (by omega) (by omega)).mono ?_)
  rintro e w4 ⟨rfl, hp4⟩
  have hsz := idBd_size p c h s X1 X2
  obtain ⟨tb, htb⟩ : ∃ tb, tb = idBd p c h s X1 X2 := ⟨_, rfl⟩
  rw [← htb] at hsz ⊢
  replace hV := hV.past hp4
  replace hR3 := hR3.past hp4
  replace hs3 := hs3.past hp4
  replace hp3 := hp3.trans hp4
  replace zB := Nat.lt_of_lt_of_le zB hp4.sz
  clear hp4 q13 q23 c0 c1 c2 c3 c4 c5 hB htb
  go_wp2_with fail
  (with_reducible refine (next_any _ _ _ _ _ _ hs3 (by omega)).mono ?_)
  rintro e w5 ⟨y, rfl, y0, y1, h5⟩
  replace hV := h5.blk hV (by omega)
  replace hR3 := h5.blk hR3 (by omega)
  replace hs3 := h5.src
  replace hp3 := h5.pastOf hp3 (by omega)
  replace zB := Nat.lt_of_lt_of_le zB h5.sz
  clear h5
  obtain ⟨Y, rfl⟩ := Int.eq_ofNat_of_zero_le y0
  have hY : Y ≤ tb.size := by omega
  go_wp2_with fail
  (with_reducible refine (next_any _ _ _ _ _ _ hs3 (by omega)).mono ?_)
  rintro e w6 ⟨x, rfl, x0, x1, h6⟩
  replace hV := h6.blk hV (by omega)
  replace hR3 := h6.blk hR3 (by omega)
  replace hs3 := h6.src
  replace hp3 := h6.pastOf hp3 (by omega)
  replace zB := Nat.lt_of_lt_of_le zB h6.sz
  clear h6 y1
  have hY1 : (Y : Int) ≤ (tb.size : Int) := by omega
  have sl1 := fun w => run_slice_string_h (P := Try.prog) (w := w) (t := 9) (by rfl) (s := tb) .i64 (Y : Int) (by omega) (by omega)
  have sl2 := fun w => run_slice_string_l (P := Try.prog) (w := w) (t := 9) (by rfl) (s := tb) .i64 (Y : Int) (by omega) (by omega)
  rw [Int.toNat_natCast] at sl1 sl2
  by_cases e0 : x = 0
  · subst e0
    go_upto_region 13 with fail
    have hVz : Blk w6 bV 25 #[.int .i64 p, .int .i64 c, .int .i64 h, .int .i64 s] := hV
    have hRz : Blk w6 w.heap.size 25 #[.int .i64 0, .int .i64 0, .int .i64 0, .int .i64 0] := hR3
    have hPz : Past w w6 := hp3
    have hSz : (tb.extract 0 Y).size ≤ 1000 := Nat.le_trans (ext_size tb 0 Y) (by omega)
    obtain ⟨tE, htE⟩ : ∃ tE, tE = tb.extract 0 Y := ⟨_, rfl⟩
    rw [← htE] at hSz ⊢
    clear htE
    obtain ⟨⟨v0, v1, v2, v3⟩, _, _, _, _⟩ := hVz.cells4'
    obtain ⟨⟨r0, r1, r2, r3⟩, rf0, rf1, rf2, rf3⟩ := hRz.cells4'
    obtain ⟨wE, hwE⟩ : ∃ x, x = (((w6.setCell ⟨w.heap.size, 0, none⟩ (.int .i64 p)).setCell ⟨w.heap.size, 1, none⟩ (.int .i64 c)).setCell ⟨w.heap.size, 2, none⟩ (.int .i64 h)).setCell ⟨w.heap.size, 3, none⟩ (.int .i64 s) := ⟨_, rfl⟩
    have hRE : Blk wE w.heap.size 25 #[.int .i64 p, .int .i64 c, .int .i64 h, .int .i64 s] := by rw [hwE]; exact hRz.put4
    have hPE : Past w wE := by rw [hwE]; exact past4' hPz
    clear hVz hRz hPz
    go_wp2_with fail
    rw [← hwE]
    clear hwE r0 r1 r2 r3 rf0 rf1 rf2 rf3 v0 v1 v2 v3
    obtain ⟨⟨r0, r1, r2, r3⟩, _, _, _, _⟩ := hRE.cells4'
    exact bodyPost_ret (v := .tuple #[.agg #[.int .i64 p, .int .i64 c, .int .i64 h, .int .i64 s], .string tE]) (by simp [r0, r1, r2, r3, results, Try.results44, go_sem]) rfl ⟨_, _, _, _, _, rfl, hbd, hSz, hPE⟩
  · by_cases e1 : x = 1
    · subst e1
      go_upto_region 9 with fail
      have zg6 : g ≠ w6.heap.size := by omega
      have hnx := fun wx (p : Past w6 wx) => next_any wx g A n k 4 (hs3.past p) (by decide)
      have sz1 := ext_size tb 0 Y
      have sz2 := ext_size tb Y tb.size
      obtain ⟨ta, hta⟩ : ∃ ta, ta = tb.extract 0 Y := ⟨_, rfl⟩
      obtain ⟨tc, htc⟩ : ∃ tc, tc = tb.extract Y tb.size := ⟨_, rfl⟩
      rw [← hta] at sl1 sz1
      rw [← htc] at sl2 sz2
      clear hta htc
      go_region_with (go_at_call 65; (with_reducible refine (hnx _ ?_).mono ?_); (repeat (first | exact Past.refl _ | refine Past.alloc ?_ _ | refine Past.drew ?_)); rintro e w9 ⟨z, rfl, z0, z1, hd⟩; obtain ⟨Z, rfl⟩ := Int.eq_ofNat_of_zero_le z0; have hZ4 : Z < 4 := (by omega); have z2 : (Z : Int) < 4 := (by omega); have hgen := fun wx => arrS_cell wx 9 hZ4; have hss := selS_size hZ4; have ad1 := fun w => add_le (P := Try.prog) ta (selS Z) w (by omega) (by omega); have ad2 := fun w => add_le (P := Try.prog) (ta ++ selS Z) tc w (by rw [ByteArray.size_append]; omega) (by omega); (try (have hA := hd.cell (p := ⟨w6.heap.size, Z, none⟩) (v := .string (selS Z)) (by first | exact hgen w6 | exact cellqd (hgen w6) | exact hgen w6.drew) (by simp only; omega))))
      · have hpa : Past w6 (w6.alloc (.cells #[.string ⟨#[65]⟩, .string ⟨#[33]⟩, .string ⟨#[56]⟩, .string ⟨#[65, 65, 65, 65, 65, 65, 65, 65, 65, 65, 65, 65, 65, 65]⟩] 9)).drew := (by repeat (first | exact Past.refl _ | refine Past.alloc ?_ _ | refine Past.drew ?_))
        have hV9 := hd.blk (hV.past hpa) (by omega)
        have hR9 := hd.blk (hR3.past hpa) (by omega)
        have hP9 : Past w w9 := hd.pastOf (hp3.trans hpa) (by omega)
        clear hA hgen hpa hd
        go_upto_region 13 with fail
        have hVz : Blk w9 bV 25 #[.int .i64 p, .int .i64 c, .int .i64 h, .int .i64 s] := hV9
        have hRz : Blk w9 w.heap.size 25 #[.int .i64 0, .int .i64 0, .int .i64 0, .int .i64 0] := hR9
        have hPz : Past w w9 := hP9
        have hSz : (ta ++ selS Z ++ tc).size ≤ 1000 := (by rw [ByteArray.size_append, ByteArray.size_append]; omega)
        obtain ⟨tE, htE⟩ : ∃ tE, tE = ta ++ selS Z ++ tc := ⟨_, rfl⟩
        rw [← htE] at hSz ⊢
        clear htE
        obtain ⟨⟨v0, v1, v2, v3⟩, _, _, _, _⟩ := hVz.cells4'
        obtain ⟨⟨r0, r1, r2, r3⟩, rf0, rf1, rf2, rf3⟩ := hRz.cells4'
        obtain ⟨wE, hwE⟩ : ∃ x, x = (((w9.setCell ⟨w.heap.size, 0, none⟩ (.int .i64 p)).setCell ⟨w.heap.size, 1, none⟩ (.int .i64 c)).setCell ⟨w.heap.size, 2, none⟩ (.int .i64 h)).setCell ⟨w.heap.size, 3, none⟩ (.int .i64 s) := ⟨_, rfl⟩
        have hRE : Blk wE w.heap.size 25 #[.int .i64 p, .int .i64 c, .int .i64 h, .int .i64 s] := by rw [hwE]; exact hRz.put4
        have hPE : Past w wE := by rw [hwE]; exact past4' hPz
        clear hVz hRz hPz
        go_wp2_with fail
        rw [← hwE]
        clear hwE r0 r1 r2 r3 rf0 rf1 rf2 rf3 v0 v1 v2 v3
        obtain ⟨⟨r0, r1, r2, r3⟩, _, _, _, _⟩ := hRE.cells4'
        exact bodyPost_ret (v := .tuple #[.agg #[.int .i64 p, .int .i64 c, .int .i64 h, .int .i64 s], .string tE]) (by simp [r0, r1, r2, r3, results, Try.results44, go_sem]) rfl ⟨_, _, _, _, _, rfl, hbd, hSz, hPE⟩
      · have hpa : Past w6 w6.drew := (by repeat (first | exact Past.refl _ | refine Past.alloc ?_ _ | refine Past.drew ?_))
        have hV9 := hd.blk (hV.past hpa) (by omega)
        have hR9 := hd.blk (hR3.past hpa) (by omega)
        have hP9 : Past w w9 := hd.pastOf (hp3.trans hpa) (by omega)
        clear hgen hpa hd
        go_upto_region 13 with fail
        obtain ⟨wz, hwz⟩ : ∃ x, x = (w9.alloc (.cells #[.string ⟨#[65]⟩, .string ⟨#[33]⟩, .string ⟨#[56]⟩, .string ⟨#[65, 65, 65, 65, 65, 65, 65, 65, 65, 65, 65, 65, 65, 65]⟩] 9)) := ⟨_, rfl⟩
        have hpz : Past w9 wz := by rw [hwz]; exact (Past.refl w9).alloc _
        rw [← hwz]
        clear hwz
        have hVz : Blk wz bV 25 #[.int .i64 p, .int .i64 c, .int .i64 h, .int .i64 s] := hV9.past hpz
        have hRz : Blk wz w.heap.size 25 #[.int .i64 0, .int .i64 0, .int .i64 0, .int .i64 0] := hR9.past hpz
        have hPz : Past w wz := hP9.trans hpz
        have hSz : (ta ++ selS Z ++ tc).size ≤ 1000 := (by rw [ByteArray.size_append, ByteArray.size_append]; omega)
        obtain ⟨tE, htE⟩ : ∃ tE, tE = ta ++ selS Z ++ tc := ⟨_, rfl⟩
        rw [← htE] at hSz ⊢
        clear htE
        obtain ⟨⟨v0, v1, v2, v3⟩, _, _, _, _⟩ := hVz.cells4'
        obtain ⟨⟨r0, r1, r2, r3⟩, rf0, rf1, rf2, rf3⟩ := hRz.cells4'
        obtain ⟨wE, hwE⟩ : ∃ x, x = (((wz.setCell ⟨w.heap.size, 0, none⟩ (.int .i64 p)).setCell ⟨w.heap.size, 1, none⟩ (.int .i64 c)).setCell ⟨w.heap.size, 2, none⟩ (.int .i64 h)).setCell ⟨w.heap.size, 3, none⟩ (.int .i64 s) := ⟨_, rfl⟩
        have hRE : Blk wE w.heap.size 25 #[.int .i64 p, .int .i64 c, .int .i64 h, .int .i64 s] := by rw [hwE]; exact hRz.put4
        have hPE : Past w wE := by rw [hwE]; exact past4' hPz
        clear hVz hRz hPz
        go_wp2_with fail
        rw [← hwE]
        clear hwE r0 r1 r2 r3 rf0 rf1 rf2 rf3 v0 v1 v2 v3
        obtain ⟨⟨r0, r1, r2, r3⟩, _, _, _, _⟩ := hRE.cells4'
        exact bodyPost_ret (v := .tuple #[.agg #[.int .i64 p, .int .i64 c, .int .i64 h, .int .i64 s], .string tE]) (by simp [r0, r1, r2, r3, results, Try.results44, go_sem]) rfl ⟨_, _, _, _, _, rfl, hbd, hSz, hPE⟩
    · by_cases e2 : x = 2
      · subst e2
        by_cases hYl : Y < tb.size
        · have hYl2 : (Y : Int) < (tb.size : Int) := by omega
          have hnx := fun wx (p : Past w6 wx) => next_any wx g A n k 64 (hs3.past p) (by decide)
          have sz1 := ext_size tb 0 Y
          have sl5 := fun w => run_slice_string_l (P := Try.prog) (w := w) (t := 9) (by rfl) (s := tb) .i64 ((Y : Int) + 1) (by omega) (by omega)
          have sz5 := ext_size tb ((Y : Int) + 1).toNat tb.size
          obtain ⟨ta, hta⟩ : ∃ ta, ta = tb.extract 0 Y := ⟨_, rfl⟩
          obtain ⟨tg, htg⟩ : ∃ tg, tg = tb.extract ((Y : Int) + 1).toNat tb.size := ⟨_, rfl⟩
          have W1 : IntKind.i64.wrap ((Y : Int) + 1) = (Y : Int) + 1 := IntWalk.i64_in _ (by omega)
          rw [← hta] at sl1 sz1
          rw [← htg] at sl5 sz5
          have hta9 : ta.size ≤ 10000 := by omega
          have htg9 : tg.size ≤ 10000 := by omega
          clear hta htg sl2
          go_upto_region 12 with fail
          go_region_with (first | (go_at_call 87; (with_reducible refine (l03Letters_any _).mono ?_); rintro e w8 ⟨rfl, rfl⟩) | (go_at_call 65; (with_reducible refine (hnx _ ?_).mono ?_); (repeat (first | exact Past.refl _ | refine Past.alloc ?_ _ | refine Past.drew ?_)); rintro e w9 ⟨z, rfl, z0, z1, hd⟩; obtain ⟨Z, rfl⟩ := Int.eq_ofNat_of_zero_le z0; have hZ4 : Z < 64 := (by omega); have sl3 := fun w => letters_from hZ4 w; have sl4 := fun w => letter_one hZ4 w; have ad1 := fun w => add_le (P := Try.prog) ta (letX Z) w hta9 (letX_size Z); have ad2 := fun w => add_le (P := Try.prog) (ta ++ letX Z) tg w (app_le sz1 (letX_le Z) hsz) htg9))
          have hpa : Past w6 w6.drew := (by repeat (first | exact Past.refl _ | refine Past.alloc ?_ _ | refine Past.drew ?_))
          have hV9 := hd.blk (hV.past hpa) (by omega)
          have hR9 := hd.blk (hR3.past hpa) (by omega)
          have hP9 : Past w w9 := hd.pastOf (hp3.trans hpa) (by omega)
          have hXl := letX_le Z
          clear hpa hd
          go_upto_region 13 with fail
          have hVz : Blk w9 bV 25 #[.int .i64 p, .int .i64 c, .int .i64 h, .int .i64 s] := hV9
          have hRz : Blk w9 w.heap.size 25 #[.int .i64 0, .int .i64 0, .int .i64 0, .int .i64 0] := hR9
          have hPz : Past w w9 := hP9
          have hSz : (ta ++ letX Z ++ tg).size ≤ 1000 := (by rw [ByteArray.size_append, ByteArray.size_append]; omega)
          obtain ⟨tE, htE⟩ : ∃ tE, tE = ta ++ letX Z ++ tg := ⟨_, rfl⟩
          rw [← htE] at hSz ⊢
          clear htE
          obtain ⟨⟨v0, v1, v2, v3⟩, _, _, _, _⟩ := hVz.cells4'
          obtain ⟨⟨r0, r1, r2, r3⟩, rf0, rf1, rf2, rf3⟩ := hRz.cells4'
          obtain ⟨wE, hwE⟩ : ∃ x, x = (((w9.setCell ⟨w.heap.size, 0, none⟩ (.int .i64 p)).setCell ⟨w.heap.size, 1, none⟩ (.int .i64 c)).setCell ⟨w.heap.size, 2, none⟩ (.int .i64 h)).setCell ⟨w.heap.size, 3, none⟩ (.int .i64 s) := ⟨_, rfl⟩
          have hRE : Blk wE w.heap.size 25 #[.int .i64 p, .int .i64 c, .int .i64 h, .int .i64 s] := by rw [hwE]; exact hRz.put4
          have hPE : Past w wE := by rw [hwE]; exact past4' hPz
          clear hVz hRz hPz
          go_wp2_with fail
          rw [← hwE]
          clear hwE r0 r1 r2 r3 rf0 rf1 rf2 rf3 v0 v1 v2 v3
          obtain ⟨⟨r0, r1, r2, r3⟩, _, _, _, _⟩ := hRE.cells4'
          exact bodyPost_ret (v := .tuple #[.agg #[.int .i64 p, .int .i64 c, .int .i64 h, .int .i64 s], .string tE]) (by simp [r0, r1, r2, r3, results, Try.results44, go_sem]) rfl ⟨_, _, _, _, _, rfl, hbd, hSz, hPE⟩
        · have hYl2 : ¬ (Y : Int) < (tb.size : Int) := by omega
          go_upto_region 13 with fail
          have hVz : Blk w6 bV 25 #[.int .i64 p, .int .i64 c, .int .i64 h, .int .i64 s] := hV
          have hRz : Blk w6 w.heap.size 25 #[.int .i64 0, .int .i64 0, .int .i64 0, .int .i64 0] := hR3
          have hPz : Past w w6 := hp3
          have hSz : (tb).size ≤ 1000 := (by omega)
          obtain ⟨tE, htE⟩ : ∃ tE, tE = tb := ⟨_, rfl⟩
          rw [← htE] at hSz ⊢
          clear htE
          obtain ⟨⟨v0, v1, v2, v3⟩, _, _, _, _⟩ := hVz.cells4'
          obtain ⟨⟨r0, r1, r2, r3⟩, rf0, rf1, rf2, rf3⟩ := hRz.cells4'
          obtain ⟨wE, hwE⟩ : ∃ x, x = (((w6.setCell ⟨w.heap.size, 0, none⟩ (.int .i64 p)).setCell ⟨w.heap.size, 1, none⟩ (.int .i64 c)).setCell ⟨w.heap.size, 2, none⟩ (.int .i64 h)).setCell ⟨w.heap.size, 3, none⟩ (.int .i64 s) := ⟨_, rfl⟩
          have hRE : Blk wE w.heap.size 25 #[.int .i64 p, .int .i64 c, .int .i64 h, .int .i64 s] := by rw [hwE]; exact hRz.put4
          have hPE : Past w wE := by rw [hwE]; exact past4' hPz
          clear hVz hRz hPz
          go_wp2_with fail
          rw [← hwE]
          clear hwE r0 r1 r2 r3 rf0 rf1 rf2 rf3 v0 v1 v2 v3
          obtain ⟨⟨r0, r1, r2, r3⟩, _, _, _, _⟩ := hRE.cells4'
          exact bodyPost_ret (v := .tuple #[.agg #[.int .i64 p, .int .i64 c, .int .i64 h, .int .i64 s], .string tE]) (by simp [r0, r1, r2, r3, results, Try.results44, go_sem]) rfl ⟨_, _, _, _, _, rfl, hbd, hSz, hPE⟩
      · go_upto_region 13 with fail
        have hVz : Blk w6 bV 25 #[.int .i64 p, .int .i64 c, .int .i64 h, .int .i64 s] := hV
        have hRz : Blk w6 w.heap.size 25 #[.int .i64 0, .int .i64 0, .int .i64 0, .int .i64 0] := hR3
        have hPz : Past w w6 := hp3
        have hSz : (tb).size ≤ 1000 := (by omega)
        obtain ⟨tE, htE⟩ : ∃ tE, tE = tb := ⟨_, rfl⟩
        rw [← htE] at hSz ⊢
        clear htE
        obtain ⟨⟨v0, v1, v2, v3⟩, _, _, _, _⟩ := hVz.cells4'
        obtain ⟨⟨r0, r1, r2, r3⟩, rf0, rf1, rf2, rf3⟩ := hRz.cells4'
        obtain ⟨wE, hwE⟩ : ∃ x, x = (((w6.setCell ⟨w.heap.size, 0, none⟩ (.int .i64 p)).setCell ⟨w.heap.size, 1, none⟩ (.int .i64 c)).setCell ⟨w.heap.size, 2, none⟩ (.int .i64 h)).setCell ⟨w.heap.size, 3, none⟩ (.int .i64 s) := ⟨_, rfl⟩
        have hRE : Blk wE w.heap.size 25 #[.int .i64 p, .int .i64 c, .int .i64 h, .int .i64 s] := by rw [hwE]; exact hRz.put4
        have hPE : Past w wE := by rw [hwE]; exact past4' hPz
        clear hVz hRz hPz
        go_wp2_with fail
        rw [← hwE]
        clear hwE r0 r1 r2 r3 rf0 rf1 rf2 rf3 v0 v1 v2 v3
        obtain ⟨⟨r0, r1, r2, r3⟩, _, _, _, _⟩ := hRE.cells4'
        exact bodyPost_ret (v := .tuple #[.agg #[.int .i64 p, .int .i64 c, .int .i64 h, .int .i64 s], .string tE]) (by simp [r0, r1, r2, r3, results, Try.results44, go_sem]) rfl ⟨_, _, _, _, _, rfl, hbd, hSz, hPE⟩
end Go.Proofs.Ytapocfgajkkpdaa
