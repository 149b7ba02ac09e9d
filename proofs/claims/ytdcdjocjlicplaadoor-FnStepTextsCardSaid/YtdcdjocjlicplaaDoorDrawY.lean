/-
  Contracts: the draw of a step for a text.
-/
import Derived.Test.YtdcdjocjlicplaaDoorDrawR
import Derived.Test.YtdcdjocjlicplaaDoorReadS
import Derived.Deep.DeepCutAuto
import Derived.Deep.RegionHeld3
namespace Go.Proofs.YtdcdjocjlicplaaDoor
open Go.ChangeShapes Go.WideShapes Go.ChangeAt Go.RowKit Go.Joins

/-- The world of the draw: the variant, the result (empty yet), the step in its block. -/
structure DrIn (w W : World) (g : Nat) (A : Option Addr) (n k : Nat) (gx : Nat) (p c h s f t d : Int) (x : Bool) : Prop where
  v : Blk W w.heap.size 25 #[.int .i64 p, .int .i64 c, .int .i64 h, .int .i64 s]
  r : Blk W (w.heap.size + 1) 31 #[.int .i64 0, .int .i64 0, .int .i64 0, .bool false]
  a : Blk W gx 31 #[.int .i64 f, .int .i64 t, .int .i64 d, .bool x]
  l : w.heap.size + 1 < gx
  z : g < w.heap.size
  q : Drew w g A n k W
section
variable {w W : World} {g : Nat} {A : Option Addr} {n k : Nat} {gx : Nat} {p c h s f t d : Int} {x : Bool}
theorem DrIn.next {W' : World} (H : DrIn w W g A n k gx p c h s f t d x) (hd : Drew W g A n k W') : DrIn w W' g A n k gx p c h s f t d x :=
  ⟨hd.blk H.v (by have := H.z; omega), hd.blk H.r (by have := H.z; omega), hd.blk H.a (by have := H.z; have := H.l; omega), H.l, H.z, H.q.trans hd⟩
theorem DrIn.past {W' : World} (H : DrIn w W g A n k gx p c h s f t d x) (hd : Past W W') : DrIn w W' g A n k gx p c h s f t d x :=
  ⟨H.v.past hd, H.r.past hd, H.a.past hd, H.l, H.z, H.q.past hd⟩
theorem DrIn.set0 (H : DrIn w W g A n k gx p c h s f t d x) (m : Int) : DrIn w (W.setCell ⟨gx, 0, none⟩ (.int .i64 m)) g A n k gx p c h s m t d x :=
  ⟨H.v.soff _ (by have := H.l; simp only; omega), H.r.soff _ (by have := H.l; simp only; omega), H.a.sset 0 _ rfl, H.l, H.z, H.q.set (p := ⟨gx, 0, none⟩) (by have := H.l; simp only; omega) (by have := H.l; have := H.z; simp only; omega) _⟩
theorem DrIn.set1 (H : DrIn w W g A n k gx p c h s f t d x) (m : Int) : DrIn w (W.setCell ⟨gx, 1, none⟩ (.int .i64 m)) g A n k gx p c h s f m d x :=
  ⟨H.v.soff _ (by have := H.l; simp only; omega), H.r.soff _ (by have := H.l; simp only; omega), H.a.sset 1 _ rfl, H.l, H.z, H.q.set (p := ⟨gx, 1, none⟩) (by have := H.l; simp only; omega) (by have := H.l; have := H.z; simp only; omega) _⟩
theorem DrIn.set2 (H : DrIn w W g A n k gx p c h s f t d x) (m : Int) : DrIn w (W.setCell ⟨gx, 2, none⟩ (.int .i64 m)) g A n k gx p c h s f t m x :=
  ⟨H.v.soff _ (by have := H.l; simp only; omega), H.r.soff _ (by have := H.l; simp only; omega), H.a.sset 2 _ rfl, H.l, H.z, H.q.set (p := ⟨gx, 2, none⟩) (by have := H.l; simp only; omega) (by have := H.l; have := H.z; simp only; omega) _⟩
theorem DrIn.set3 (H : DrIn w W g A n k gx p c h s f t d x) (m : Bool) : DrIn w (W.setCell ⟨gx, 3, none⟩ (.bool m)) g A n k gx p c h s f t d m :=
  ⟨H.v.soff _ (by have := H.l; simp only; omega), H.r.soff _ (by have := H.l; simp only; omega), H.a.sset 3 _ rfl, H.l, H.z, H.q.set (p := ⟨gx, 3, none⟩) (by have := H.l; simp only; omega) (by have := H.l; have := H.z; simp only; omega) _⟩
theorem DrIn.cells (H : DrIn w W g A n k gx p c h s f t d x) :
    (W.cell? ⟨w.heap.size, 0, none⟩ = some (.int .i64 p) ∧ W.cell? ⟨w.heap.size, 1, none⟩ = some (.int .i64 c) ∧ W.cell? ⟨w.heap.size, 2, none⟩ = some (.int .i64 h) ∧ W.cell? ⟨w.heap.size, 3, none⟩ = some (.int .i64 s)) ∧
    (W.cell? ⟨w.heap.size + 1, 0, none⟩ = some (.int .i64 0) ∧ W.cell? ⟨w.heap.size + 1, 1, none⟩ = some (.int .i64 0) ∧ W.cell? ⟨w.heap.size + 1, 2, none⟩ = some (.int .i64 0) ∧ W.cell? ⟨w.heap.size + 1, 3, none⟩ = some (.bool false)) ∧
    (W.frozen? ⟨w.heap.size + 1, 0, none⟩ = false ∧ W.frozen? ⟨w.heap.size + 1, 1, none⟩ = false ∧ W.frozen? ⟨w.heap.size + 1, 2, none⟩ = false ∧ W.frozen? ⟨w.heap.size + 1, 3, none⟩ = false) ∧
    (W.cell? ⟨gx, 0, none⟩ = some (.int .i64 f) ∧ W.cell? ⟨gx, 1, none⟩ = some (.int .i64 t) ∧ W.cell? ⟨gx, 2, none⟩ = some (.int .i64 d) ∧ W.cell? ⟨gx, 3, none⟩ = some (.bool x)) ∧
    (W.frozen? ⟨gx, 0, none⟩ = false ∧ W.frozen? ⟨gx, 1, none⟩ = false ∧ W.frozen? ⟨gx, 2, none⟩ = false ∧ W.frozen? ⟨gx, 3, none⟩ = false) :=
  ⟨⟨H.v.cell 0 rfl, H.v.cell 1 rfl, H.v.cell 2 rfl, H.v.cell 3 rfl⟩, ⟨H.r.cell 0 rfl, H.r.cell 1 rfl, H.r.cell 2 rfl, H.r.cell 3 rfl⟩, ⟨H.r.free 0, H.r.free 1, H.r.free 2, H.r.free 3⟩, ⟨H.a.cell 0 rfl, H.a.cell 1 rfl, H.a.cell 2 rfl, H.a.cell 3 rfl⟩, H.a.free 0, H.a.free 1, H.a.free 2, H.a.free 3⟩
theorem DrIn.out (H : DrIn w W g A n k gx p c h s f t d x) (u0 u1 u2 u3 : Value) :
    Drew w g A n k ((((W.setCell ⟨w.heap.size + 1, 0, none⟩ u0).setCell ⟨w.heap.size + 1, 1, none⟩ u1).setCell ⟨w.heap.size + 1, 2, none⟩ u2).setCell ⟨w.heap.size + 1, 3, none⟩ u3) :=
  have hz := H.z
  (((H.q.set (p := ⟨w.heap.size + 1, 0, none⟩) (Nat.le_succ _) (by simp only; omega) u0).set (p := ⟨w.heap.size + 1, 1, none⟩) (Nat.le_succ _) (by simp only; omega) u1).set (p := ⟨w.heap.size + 1, 2, none⟩) (Nat.le_succ _) (by simp only; omega) u2).set (p := ⟨w.heap.size + 1, 3, none⟩) (Nat.le_succ _) (by simp only; omega) u3
end
def NStp (w : World) (g : Nat) : Prop := Blk w g 31 #[.int .i64 0, .int .i64 0, .int .i64 0, .bool false]
theorem nStp_alloc (w : World) : NStp (w.alloc (.cells #[.int .i64 0, .int .i64 0, .int .i64 0, .bool false] 31)) w.heap.size := Blk.new _ _ _
theorem NStp.drew {w : World} {g : Nat} (h : NStp w g) : NStp w.drew g := h
theorem NStp.next {a b : World} {g gx : Nat} {A : Option Addr} {n k : Nat} (h : NStp a gx) (hd : Drew a g A n k b) (hs : gx ≠ g) : NStp b gx := hd.blk h hs
theorem NStp.all {w : World} {g : Nat} (h : NStp w g) : (w.cell? ⟨g, 0, none⟩ = some (.int .i64 0) ∧ w.cell? ⟨g, 1, none⟩ = some (.int .i64 0) ∧ w.cell? ⟨g, 2, none⟩ = some (.int .i64 0) ∧ w.cell? ⟨g, 3, none⟩ = some (.bool false)) ∧ w.frozen? ⟨g, 0, none⟩ = false ∧ w.frozen? ⟨g, 1, none⟩ = false ∧ w.frozen? ⟨g, 2, none⟩ = false ∧ w.frozen? ⟨g, 3, none⟩ = false :=
  ⟨⟨Blk.cell h 0 rfl, Blk.cell h 1 rfl, Blk.cell h 2 rfl, Blk.cell h 3 rfl⟩, Blk.free h 0, Blk.free h 1, Blk.free h 2, Blk.free h 3⟩
def SBox (W w : World) (g : Nat) (A : Option Addr) (n k gx : Nat) (f t d : Int) (x : Bool) : Prop := Blk w gx 31 #[.int .i64 f, .int .i64 t, .int .i64 d, .bool x] ∧ W.heap.size ≤ gx ∧ Drew W g A n k w
theorem SBox.new {W w : World} {g : Nat} {A : Option Addr} {n k : Nat} (f t d : Int) (x : Bool) (h : Drew W g A n k w) : SBox W (w.alloc (.cells #[.int .i64 f, .int .i64 t, .int .i64 d, .bool x] 31)) g A n k w.heap.size f t d x :=
  ⟨Blk.new _ _ _, h.sz, h.alloc _⟩
theorem SBox.set {W w : World} {g : Nat} {A : Option Addr} {n k gx : Nat} (nb : NStp w gx) (f t d : Int) (x : Bool) (hz : g < W.heap.size) (hg : W.heap.size ≤ gx) (h : Drew W g A n k w) :
    SBox W ((((w.setCell ⟨gx, 0, none⟩ (.int .i64 f)).setCell ⟨gx, 1, none⟩ (.int .i64 t)).setCell ⟨gx, 2, none⟩ (.int .i64 d)).setCell ⟨gx, 3, none⟩ (.bool x)) g A n k gx f t d x :=
  ⟨(((Blk.sset nb 0 _ rfl).sset 1 _ rfl).sset 2 _ rfl).sset 3 _ rfl, hg, (((h.set (p := ⟨gx, 0, none⟩) hg (by simp only; omega) _).set (p := ⟨gx, 1, none⟩) hg (by simp only; omega) _).set (p := ⟨gx, 2, none⟩) hg (by simp only; omega) _).set (p := ⟨gx, 3, none⟩) hg (by simp only; omega) _⟩
def StepDrawn (w : World) (g : Nat) (A : Option Addr) (n k : Nat) (e : Ending) (w' : World) : Prop := ∃ f t d x, e = .returned (.agg #[.int .i64 f, .int .i64 t, .int .i64 d, .bool x]) ∧ Drew w g A n k w'
theorem keep_dr {W w' : World} {g : Nat} {A : Option Addr} {n k : Nat} {S : World → Prop} (h : Drew W g A n k w') (f : ∀ x, Drew W g A n k x → S x) : S w' := f w' h
set_option maxHeartbeats 4000000 in
set_option maxRecDepth 100000 in
theorem drawPlain_any (w : World) (g : Nat) (A : Option Addr) (n k : Nat) (hs : Src w g A n k) (p c h s : Int) (hbd : vBd p c h s) :
    Calls Tryd.prog 58 #[.pointer (some ⟨g, 0, none⟩), .agg #[.int .i64 p, .int .i64 c, .int .i64 h, .int .i64 s]] w (StepDrawn w g A n k) := by
  have hg := hs.lt
  obtain ⟨b1, b2, b3, b4, b5⟩ := hbd
  have W1 : IntKind.i64.wrap (p + 1) = p + 1 := IntWalk.i64_in _ (by omega)
  obtain ⟨w0, hw0⟩ : ∃ w0 : World, w0 = (w.alloc (.cells #[.int .i64 p, .int .i64 c, .int .i64 h, .int .i64 s] 25)).alloc (.cells #[.int .i64 0, .int .i64 0, .int .i64 0, .bool false] 31) := ⟨_, rfl⟩
  have hp0 : Past w w0 := by rw [hw0]; exact (by repeat (first | exact Past.refl _ | assumption | refine Past.alloc ?_ _ | refine Past.drew ?_ | refine Past.drewN ?_ _ | refine Past.setCell ?_ (by first | (simp; done) | (simp <;> omega)) _ | refine Past.trans ?_ (past_over _ _) | refine Past.trans ?_ (by assumption)))
  have hV : Blk w0 w.heap.size 25 #[.int .i64 p, .int .i64 c, .int .i64 h, .int .i64 s] := by rw [hw0]; exact (Blk.new w _ _).past ((Past.refl _).alloc _)
  have hS : Blk w0 (w.heap.size + 1) 31 #[.int .i64 0, .int .i64 0, .int .i64 0, .bool false] := by rw [hw0]; exact Blk.at_ (by simp)
  have HD0 : Drew w0 g A n k w0 := Drew.refl (hs.past hp0)
  have hz0 := hS.lt
  have v0 : w0.cell? ⟨w.heap.size, 0, none⟩ = some (.int .i64 p) := hV.cell 0 rfl
  have v1 : w0.cell? ⟨w.heap.size, 1, none⟩ = some (.int .i64 c) := hV.cell 1 rfl
  have v2 : w0.cell? ⟨w.heap.size, 2, none⟩ = some (.int .i64 h) := hV.cell 2 rfl
  have v3 : w0.cell? ⟨w.heap.size, 3, none⟩ = some (.int .i64 s) := hV.cell 3 rfl
  go_enter Tryd.func58, Tryd.ntmps58
  go_upto_region 1 with fail
  rw [← hw0]
  clear hw0
  go_cut [5] (fun s5 wx => ∃ (gx : Nat) (f d : Int), s5 = .pointer (some ⟨gx, 0, none⟩) ∧ (0 ≤ f ∧ f ≤ 26) ∧ (1 ≤ d ∧ d ≤ 8) ∧ SBox w0 wx g A n k gx f 0 d false)
  case first =>
    go_region_held3 (fun w' => w'.cell? ⟨w.heap.size, 0, none⟩ = some (.int .i64 p) ∧ w'.cell? ⟨w.heap.size, 1, none⟩ = some (.int .i64 c) ∧ w'.cell? ⟨w.heap.size, 2, none⟩ = some (.int .i64 h) ∧ w'.cell? ⟨w.heap.size, 3, none⟩ = some (.int .i64 s) ∧ Drew w0 g A n k w') ((go_split_ands; refine keep_dr (W := w0) (g := g) (A := A) (n := n) (k := k) (S := fun w' => w'.cell? ⟨w.heap.size, 0, none⟩ = some (.int .i64 p) ∧ w'.cell? ⟨w.heap.size, 1, none⟩ = some (.int .i64 c) ∧ w'.cell? ⟨w.heap.size, 2, none⟩ = some (.int .i64 h) ∧ w'.cell? ⟨w.heap.size, 3, none⟩ = some (.int .i64 s) ∧ Drew w0 g A n k w') (by repeat (first | with_reducible exact HD0 | with_reducible assumption | (with_reducible refine Drew.drew ?_) | (with_reducible refine Drew.alloc ?_ _) | (with_reducible refine Drew.set ?_ (by first | omega | (simp <;> omega)) (by first | omega | (simp <;> omega)) _) | (with_reducible refine Drew.trans ?_ (by with_reducible assumption)))) (fun x hP => ⟨hP.cell v0 (by simp only; omega), hP.cell v1 (by simp only; omega), hP.cell v2 (by simp only; omega), hP.cell v3 (by simp only; omega), hP⟩))) (first | (have _ := hd1; go_at_call 74; (with_reducible refine (next_any _ g A n k _ (Drew.src (a := w0) (by repeat (first | with_reducible exact HD0 | with_reducible assumption | (with_reducible refine Drew.drew ?_) | (with_reducible refine Drew.alloc ?_ _) | (with_reducible refine Drew.set ?_ (by first | omega | (simp <;> omega)) (by first | omega | (simp <;> omega)) _) | (with_reducible refine Drew.trans ?_ (by with_reducible assumption))))) (by omega)).mono ?_); rintro e w9 ⟨zd, rfl, zd0, zd1, hd2⟩; have WD : IntKind.i64.wrap (1 + zd) = 1 + zd := IntWalk.i64_in _ (by omega); (try (have nb := NStp.next (by first | with_reducible assumption | with_reducible exact nStp_alloc _ | with_reducible exact (nStp_alloc _).drew) hd2 (by first | omega | (simp only [size_drew]; omega) | (simp <;> omega)); have nb1 := nb.all; obtain ⟨⟨n0, n1, n2, n3⟩, m0, m1, m2, m3⟩ := nb1)); have hs := Drew.sz hd2; (try simp only [size_drew] at hs); (try simp only [World.size_alloc] at hs)) | (go_at_call 74; (with_reducible refine (next_any _ g A n k _ (Drew.src (a := w0) (by repeat (first | with_reducible exact HD0 | with_reducible assumption | (with_reducible refine Drew.drew ?_) | (with_reducible refine Drew.alloc ?_ _) | (with_reducible refine Drew.set ?_ (by first | omega | (simp <;> omega)) (by first | omega | (simp <;> omega)) _) | (with_reducible refine Drew.trans ?_ (by with_reducible assumption))))) (by omega)).mono ?_); rintro e w8 ⟨zf, rfl, zf0, zf1, hd1⟩; (try (have nb := NStp.next (by first | with_reducible assumption | with_reducible exact nStp_alloc _ | with_reducible exact (nStp_alloc _).drew) hd1 (by first | omega | (simp only [size_drew]; omega) | (simp <;> omega)); have nb1 := nb.all; obtain ⟨⟨n0, n1, n2, n3⟩, m0, m1, m2, m3⟩ := nb1)); have hs := Drew.sz hd1; (try simp only [size_drew] at hs); (try simp only [World.size_alloc] at hs)))
    all_goals
      go_split_ands
      go_wp2_with fail
      go_meet
      first
      | (with_reducible refine ⟨_, zf, 1 + zd, rfl, ⟨by omega, by omega⟩, ⟨by omega, by omega⟩, SBox.set nb _ _ _ _ ?_ ?_ ?_⟩; omega; (first | omega | (simp <;> omega)); exact (by repeat (first | with_reducible exact HD0 | with_reducible assumption | (with_reducible refine Drew.drew ?_) | (with_reducible refine Drew.alloc ?_ _) | (with_reducible refine Drew.set ?_ (by first | omega | (simp <;> omega)) (by first | omega | (simp <;> omega)) _) | (with_reducible refine Drew.trans ?_ (by with_reducible assumption)))))
      | (with_reducible refine ⟨_, zf, 1 + zd, rfl, ⟨by omega, by omega⟩, ⟨by omega, by omega⟩, SBox.new _ _ _ _ ?_⟩; exact (by repeat (first | with_reducible exact HD0 | with_reducible assumption | (with_reducible refine Drew.drew ?_) | (with_reducible refine Drew.alloc ?_ _) | (with_reducible refine Drew.set ?_ (by first | omega | (simp <;> omega)) (by first | omega | (simp <;> omega)) _) | (with_reducible refine Drew.trans ?_ (by with_reducible assumption)))))
  case rest =>
    obtain ⟨gx, f, d, rfl, ⟨f0, f1⟩, ⟨d0, d1⟩, hB, hle, hD⟩ := hcut
    have H1 : DrIn w wc g A n k gx p c h s f 0 d false := ⟨hD.blk hV (by omega), hD.blk hS (by omega), hB, by omega, hg, Drew.after hp0 hD⟩
    clear hB hle hD hV hS HD0 hz0 v0 v1 v2 v3 hp0
    have W2 : IntKind.i64.wrap (f - d) = f - d := IntWalk.i64_in _ (by omega)
    go_upto_region 2 with fail
    go_cut [5] (fun s5 wx => s5 = .pointer (some ⟨gx, 0, none⟩) ∧ ∃ t, (-1 ≤ t ∧ t ≤ 26) ∧ DrIn w wx g A n k gx p c h s f t d false)
    case first =>
      obtain ⟨⟨c0, c1, c2, c3⟩, ⟨r0, r1, r2, r3⟩, ⟨e0, e1, e2, e3⟩, ⟨a0, a1, a2, a3⟩, g0, g1, g2, g3⟩ := H1.cells
      go_wp2_with fail
      go_meet
      case rel => exact ⟨rfl, max (-1) (f - d), by omega, H1.set1 _⟩
    case rest =>
      obtain ⟨rfl, t, ⟨t0, t1⟩, H2⟩ := hcut
      clear H1 W2
      go_upto_region 3 with fail
      go_cut [5] (fun s5 wx => s5 = .pointer (some ⟨gx, 0, none⟩) ∧ ∃ x, DrIn w wx g A n k gx p c h s f t d x)
      case first =>
        by_cases ht : 0 ≤ t
        · have hnx := next_any _ g A n k 4 H2.q.src (by decide)
          obtain ⟨⟨c0, c1, c2, c3⟩, ⟨r0, r1, r2, r3⟩, ⟨e0, e1, e2, e3⟩, ⟨a0, a1, a2, a3⟩, g0, g1, g2, g3⟩ := H2.cells
          go_wp2_with fail
          (with_reducible refine hnx.mono ?_)
          rintro e w3 ⟨z, rfl, z0, z1, hd⟩
          have H3 := H2.next hd
          clear c0 c1 c2 c3 r0 r1 r2 r3 e0 e1 e2 e3 a0 a1 a2 a3 g0 g1 g2 g3
          obtain ⟨⟨c0, c1, c2, c3⟩, ⟨r0, r1, r2, r3⟩, ⟨e0, e1, e2, e3⟩, ⟨a0, a1, a2, a3⟩, g0, g1, g2, g3⟩ := H3.cells
          go_wp2_with fail
          go_meet
          case rel => exact ⟨rfl, _, H3.set3 _⟩
        · 
          obtain ⟨⟨c0, c1, c2, c3⟩, ⟨r0, r1, r2, r3⟩, ⟨e0, e1, e2, e3⟩, ⟨a0, a1, a2, a3⟩, g0, g1, g2, g3⟩ := H2.cells
          go_wp2_with fail
          go_meet
          case rel => exact ⟨rfl, _, H2.set3 _⟩
      case rest =>
        obtain ⟨rfl, x, H3⟩ := hcut
        clear H2
        go_wp2_with fail
        (with_reducible refine (next_any _ g A n k 20 H3.q.src (by decide)).mono ?_)
        rintro e w4 ⟨z, rfl, z0, z1, hd⟩
        have H4 := H3.next hd
        clear H3 hd
        by_cases k0 : z = 0
        · subst k0
          have W5 : IntKind.i64.wrap (d + 1) = d + 1 := IntWalk.i64_in _ (by omega)
          obtain ⟨⟨c0, c1, c2, c3⟩, ⟨r0, r1, r2, r3⟩, ⟨e0, e1, e2, e3⟩, ⟨a0, a1, a2, a3⟩, g0, g1, g2, g3⟩ := H4.cells
          have HZ := H4.set2 (d + 1)
          have hlz := H4.l
          clear H4
          go_wp2_with fail
          exact bodyPost_ret (v := .agg #[.int .i64 f, .int .i64 t, .int .i64 (d + 1), .bool x]) (by simp [r0, r1, r2, r3, results, Tryd.results58, go_sem]) rfl ⟨_, _, _, _, rfl, HZ.out _ _ _ _⟩
        by_cases k1 : z = 1
        · subst k1
          obtain ⟨⟨c0, c1, c2, c3⟩, ⟨r0, r1, r2, r3⟩, ⟨e0, e1, e2, e3⟩, ⟨a0, a1, a2, a3⟩, g0, g1, g2, g3⟩ := H4.cells
          have HZ := H4.set3 true
          have hlz := H4.l
          clear H4
          go_wp2_with fail
          exact bodyPost_ret (v := .agg #[.int .i64 f, .int .i64 t, .int .i64 d, .bool true]) (by simp [r0, r1, r2, r3, results, Tryd.results58, go_sem]) rfl ⟨_, _, _, _, rfl, HZ.out _ _ _ _⟩
        by_cases k2 : z = 2
        · subst k2
          have hnx := fun wx (pp : Past w4 wx) => next_any wx g A n k 2 (H4.q.src.past pp) (by decide)
          have W6 : ∀ y : Int, 0 ≤ y → (y < 2 ∨ y = 0) → IntKind.i64.wrap (p + y) = p + y := fun y h0 h1 => IntWalk.i64_in _ (by omega)
          have HW := Lib.hid W6
          clear W6
          obtain ⟨⟨c0, c1, c2, c3⟩, ⟨r0, r1, r2, r3⟩, ⟨e0, e1, e2, e3⟩, ⟨a0, a1, a2, a3⟩, g0, g1, g2, g3⟩ := H4.cells
          go_upto_region 10 with fail
          go_region_with (go_at_call 74; (with_reducible refine (hnx _ ?_).mono ?_); (repeat (first | exact Past.refl _ | refine Past.drew ?_)); rintro e w5 ⟨y, rfl, y0, y1, hd⟩; have H5 := (H4.past (by exact (Past.refl w4).drew)).next hd; have WY := HW.out y y0 y1; obtain ⟨⟨c0, c1, c2, c3⟩, ⟨r0, r1, r2, r3⟩, ⟨e0, e1, e2, e3⟩, ⟨a0, a1, a2, a3⟩, g0, g1, g2, g3⟩ := H5.cells)
          all_goals
            have HZ := H5.set0 (p + y)
            have hlz := H5.l
            clear H4 H5
            go_wp2_with fail
            exact bodyPost_ret (v := .agg #[.int .i64 (p + y), .int .i64 t, .int .i64 d, .bool x]) (by simp [r0, r1, r2, r3, results, Tryd.results58, go_sem]) rfl ⟨_, _, _, _, rfl, HZ.out _ _ _ _⟩
        by_cases k3 : z = 3
        · subst k3
          obtain ⟨⟨c0, c1, c2, c3⟩, ⟨r0, r1, r2, r3⟩, ⟨e0, e1, e2, e3⟩, ⟨a0, a1, a2, a3⟩, g0, g1, g2, g3⟩ := H4.cells
          have HZ := H4.set1 (-1)
          have hlz := H4.l
          clear H4
          go_wp2_with fail
          exact bodyPost_ret (v := .agg #[.int .i64 f, .int .i64 (-1), .int .i64 d, .bool x]) (by simp [r0, r1, r2, r3, results, Tryd.results58, go_sem]) rfl ⟨_, _, _, _, rfl, HZ.out _ _ _ _⟩
        · 
          obtain ⟨⟨c0, c1, c2, c3⟩, ⟨r0, r1, r2, r3⟩, ⟨e0, e1, e2, e3⟩, ⟨a0, a1, a2, a3⟩, g0, g1, g2, g3⟩ := H4.cells
          have HZ := H4
          have hlz := H4.l
          clear H4
          go_wp2_with fail
          exact bodyPost_ret (v := .agg #[.int .i64 f, .int .i64 t, .int .i64 d, .bool x]) (by simp [r0, r1, r2, r3, results, Tryd.results58, go_sem]) rfl ⟨_, _, _, _, rfl, HZ.out _ _ _ _⟩

end Go.Proofs.YtdcdjocjlicplaaDoor
