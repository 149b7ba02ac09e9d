/-
  Contracts: the bits of a board.
-/
import Derived.Test.YtapocfgajkkpdaaSpan
import Derived.Test.YtapocfgajkkpdaaSideOf
import Derived.Deep.RegionHeld3
import Derived.Deep.DeepCutAuto
import Derived.Deep.AppendLies
import Derived.IntWalk
namespace Go.Proofs.Ytapocfgajkkpdaa
open Go.ChangeShapes Go.WideShapes Go.ChangeAt Go.RowKit Go.Joins

def bitsRow (xs : List Int) : List Int := xs.flatMap fun x => List.replicate x.toNat 1 ++ [0]
theorem bitsRow_app (xs ys : List Int) : bitsRow (xs ++ ys) = bitsRow xs ++ bitsRow ys := List.flatMap_append
theorem bitsRow_one (x : Int) : bitsRow [x] = List.replicate x.toNat 1 ++ [0] := by simp [bitsRow]
theorem bitsRow_take {zs : List Int} {j : Nat} {x : Int} (h : zs[j]? = some x) : bitsRow (zs.take (j + 1)) = (bitsRow (zs.take j) ++ List.replicate x.toNat 1) ++ [0] := by
  rw [List.take_add_one, h, Option.toList_some, bitsRow_app, bitsRow_one, List.append_assoc]
theorem bitsRow_len {zs : List Int} (h : ∀ x ∈ zs, 0 ≤ x ∧ x ≤ 15) : (bitsRow zs).length ≤ 16 * zs.length := by
  induction zs with
  | nil => simp [bitsRow]
  | cons x l ih =>
    have h1 := h x (by simp)
    have h2 := ih (fun y hy => h y (by simp [hy]))
    rw [show x :: l = [x] ++ l from rfl, bitsRow_app, bitsRow_one]
    simp only [List.length_append, List.length_replicate, List.length_cons, List.length_nil]
    omega
theorem take_bd {zs : List Int} (h : ∀ x ∈ zs, 0 ≤ x ∧ x ≤ 15) (j : Nat) : ∀ x ∈ zs.take j, 0 ≤ x ∧ x ≤ 15 := fun x hx => h x (List.mem_of_mem_take hx)
def bitsPre (xs ys : List Int) : Nat → List Int
  | 0 => []
  | 1 => bitsRow xs
  | _ => bitsRow (xs ++ ys)
def IntsRet (w : World) (L : List Int) (e : Ending) (w' : World) : Prop := ∃ A k, e = .returned (.slice A L.length k) ∧ OwI w.heap.size w' A L.length k L ∧ Past w w'
set_option maxHeartbeats 4000000 in
set_option maxRecDepth 100000 in
theorem bitsOf_any (b o d q n k m l : Nat) (xs ys : List Int) (w : World) (hx : RdI w (some ⟨b, o, none⟩) n xs) (hy : RdI w (some ⟨d, q, none⟩) m ys) (hn : n ≤ 25) (hm : m ≤ 25) (bx : ∀ x ∈ xs, 0 ≤ x ∧ x ≤ 15) (b_y : ∀ x ∈ ys, 0 ≤ x ∧ x ≤ 15) :
    Calls Try.prog 82 #[.agg #[.slice (some ⟨b, o, none⟩) n k, .slice (some ⟨d, q, none⟩) m l]] w (IntsRet w (bitsRow (xs ++ ys))) := by
  obtain ⟨i0, hi, hz0, hz1, hz2⟩ := info_parts infoI
  obtain ⟨w0, hw0⟩ : ∃ w0 : World, w0 = w.alloc (.cells #[.slice (some ⟨b, o, none⟩) n k, .slice (some ⟨d, q, none⟩) m l] 43) := ⟨_, rfl⟩
  have hp0 : Past w w0 := by rw [hw0]; exact (by repeat (first | exact Past.refl _ | assumption | refine Past.alloc ?_ _ | refine Past.drew ?_ | refine Past.drewN ?_ _ | refine Past.setCell ?_ (by first | (simp; done) | (simp <;> omega)) _ | refine Past.trans ?_ (past_over _ _) | refine Past.trans ?_ (by assumption)))
  have c0 : w0.cell? ⟨w.heap.size, 0, none⟩ = some (.slice (some ⟨b, o, none⟩) n k) := by rw [hw0]; simp [go_sem]
  have c1 : w0.cell? ⟨w.heap.size, 1, none⟩ = some (.slice (some ⟨d, q, none⟩) m l) := by rw [hw0]; simp [go_sem]
  go_enter Try.func82, Try.ntmps82
  go_upto_region 1 with fail
  rw [← hw0]
  clear hw0
  go_wp2_with fail
  have hB1 := Blk.new w0 28 #[.slice (some ⟨b, o, none⟩) n k, .slice (some ⟨d, q, none⟩) m l]
  have hb1 := (Past.refl w0).alloc (.cells #[.slice (some ⟨b, o, none⟩) n k, .slice (some ⟨d, q, none⟩) m l] 28)
  generalize w0.alloc (.cells #[.slice (some ⟨b, o, none⟩) n k, .slice (some ⟨d, q, none⟩) m l] 28) = w1 at hB1 hb1 ⊢
  have r0 := hB1.cell 0 rfl
  have r1 := hB1.cell 1 rfl
  have hx1 := hx.past (hp0.trans hb1)
  have hy1 := hy.past (hp0.trans hb1)
  clear hx hy c0 c1
  go_loopw [3, 14] (fun v i wr => ∃ t : Nat, t ≤ 2 ∧ i = .int .i64 (t : Int) ∧ NumsIn w1 wr v (bitsPre xs ys t)) (fun _ i _ => 2 - (intOf i).toNat)
  case atStart => exact ⟨0, Nat.zero_le _, rfl, NumsIn.nil w1⟩
  case round =>
    obtain ⟨t, ht, rfl, A', k', rfl, hown, hp⟩ := hrel
    by_cases hlt : t < 2
    · obtain ⟨b', o', n', k1, zs, hcell, hz, hn', hbz, HST, hpl⟩ : ∃ b' o' n' k1 zs, w1.cell? ⟨w0.heap.size, t, none⟩ = some (.slice (some ⟨b', o', none⟩) n' k1) ∧ RdI w1 (some ⟨b', o', none⟩) n' zs ∧ n' ≤ 25 ∧ (∀ x ∈ zs, 0 ≤ x ∧ x ≤ 15) ∧ Hid (bitsPre xs ys (t + 1) = bitsPre xs ys t ++ bitsRow zs) ∧ (bitsPre xs ys t).length ≤ 400 := by
        rcases (by omega : t = 0 ∨ t = 1) with rfl | rfl
        · exact ⟨b, o, n, k, xs, r0, hx1, hn, bx, Lib.hid rfl, by simp [bitsPre]⟩
        · exact ⟨d, q, m, l, ys, r1, hy1, hm, b_y, Lib.hid (bitsRow_app xs ys), by have := bitsRow_len bx; have := hx1.1; simp only [bitsPre]; omega⟩
      generalize bitsPre xs ys t = X at hown hpl HST ⊢
      have hlq := hp.keep hcell
      have t2 : (t : Int) < 2 := by omega
      go_wp2_with fail
      go_loopw [3, 20] (fun v i wi => ∃ j : Nat, j ≤ n' ∧ i = .int .i64 (j : Int) ∧ NumsIn w1 wi v (X ++ bitsRow (zs.take j))) (fun _ i _ => n' - (intOf i).toNat)
      case atStart => exact ⟨0, Nat.zero_le _, rfl, by rw [List.take_zero, show bitsRow [] = [] from rfl, List.append_nil]; exact ⟨A', k', rfl, hown, hp⟩⟩
      case round =>
        obtain ⟨j, hj, rfl, A2, k2, rfl, hown2, hp2⟩ := hrel
        clear hown hp hlq
        by_cases hltj : j < n'
        · obtain ⟨b2, o2, x, hA, hxj, hcx⟩ := (hz.past hp2).at_ hltj
          simp only [Option.some.injEq, Addr.mk.injEq] at hA
          obtain ⟨rfl, rfl, _⟩ := hA
          obtain ⟨x0, x15⟩ := hbz x (List.mem_of_getElem? hxj)
          obtain ⟨e0, rfl⟩ := Int.eq_ofNat_of_zero_le x0
          have HT := Lib.hid (bitsRow_take hxj)
          have hl2 : (bitsRow (zs.take j)).length ≤ 400 := by have h1 := bitsRow_len (take_bd hbz j); rw [List.length_take] at h1; omega
          rw [Int.toNat_natCast] at HT
          generalize bitsRow (zs.take j) = Y at hown2 hl2 HT ⊢
          clear hxj
          have hj2 : (j : Int) < (n' : Int) := by omega
          go_wp2_with fail
          go_loopw [3, 25] (fun v c wi => ∃ e : Nat, e ≤ e0 ∧ c = .int .i64 (e : Int) ∧ NumsIn w1 wi v ((X ++ Y) ++ List.replicate e 1)) (fun _ c _ => e0 - (intOf c).toNat)
          case atStart => exact ⟨0, Nat.zero_le _, rfl, by rw [List.replicate_zero, List.append_nil]; exact ⟨A2, k2, rfl, hown2, hp2⟩⟩
          case round =>
            obtain ⟨e, he, rfl, A3, k3, rfl, hown3, hp3⟩ := hrel
            clear hown2 hp2 hcx
            have hlen : ((X ++ Y) ++ List.replicate e 1).length ≤ 900 := by simp only [List.length_append, List.length_replicate]; omega
            by_cases hlte : e < e0
            · have he2 : (e : Int) < (e0 : Int) := by omega
              have HN := Lib.hid (show (X ++ Y) ++ List.replicate (e + 1) 1 = ((X ++ Y) ++ List.replicate e 1) ++ [1] from by simp only [List.replicate_succ', List.append_assoc])
              generalize (X ++ Y) ++ List.replicate e 1 = Z at hown3 hlen HN ⊢
              go_wp2_with (at_builtin; refine wpList_append_own _ rfl _ _ 28 rfl w1.heap.size 2 i0 (.int .i64 0) 1 8 Try.underlying28 hi hz0 hz1 hz2 rfl (by decide) _ Z.length (Z.map (Value.int .i64)) rfl (hown3.alloc _) ⟨wr.heap.size, 0, none⟩ 1 1 [.int .i64 1] rfl rfl (cell_one_new _ _ _) (by intro u hu; simp at hu; subst hu; rfl) (by unfold maxLen; omega) (by omega) (Nat.le_trans hp3.size (by simp)) ?_; intro v2 w5 hown5 hg5 hiff)
              go_roundw
              case rel => exact ⟨e + 1, by omega, by go_num, by rw [HN.out]; exact NumsIn.push (hown3.alloc _) (hp3.alloc _) hown5 hg5 (fun h => absurd (hiff.1 h).2 (by decide))⟩
              case measure => simp [intOf]; omega
            · obtain rfl : e = e0 := by omega
              have HN := Lib.hid (show X ++ bitsRow (zs.take (j + 1)) = ((X ++ Y) ++ List.replicate e 1) ++ [0] from by rw [HT.out]; simp only [List.append_assoc])
              generalize (X ++ Y) ++ List.replicate e 1 = Z at hown3 hlen HN ⊢
              go_wp2_with (at_builtin; refine wpList_append_own _ rfl _ _ 28 rfl w1.heap.size 2 i0 (.int .i64 0) 1 8 Try.underlying28 hi hz0 hz1 hz2 rfl (by decide) _ Z.length (Z.map (Value.int .i64)) rfl (hown3.alloc _) ⟨wr.heap.size, 0, none⟩ 1 1 [.int .i64 0] rfl rfl (cell_one_new _ _ _) (by intro u hu; simp at hu; subst hu; rfl) (by unfold maxLen; omega) (by omega) (Nat.le_trans hp3.size (by simp)) ?_; intro v2 w5 hown5 hg5 hiff)
              go_roundw
              case rel => exact ⟨j + 1, by omega, by go_num, by rw [HN.out]; exact NumsIn.push (hown3.alloc _) (hp3.alloc _) hown5 hg5 (fun h => absurd (hiff.1 h).2 (by decide))⟩
              case measure => simp [intOf]; omega
        · obtain rfl : j = n' := by omega
          have HE := Lib.hid (show bitsPre xs ys (t + 1) = X ++ bitsRow (zs.take j) from by rw [HST.out, List.take_of_length_le (by have := hz.1; omega)])
          go_wp2
          go_roundw
          case rel => exact ⟨t + 1, by omega, by go_num, by rw [HE.out]; exact ⟨A2, k2, rfl, hown2, hp2⟩⟩
          case measure => simp [intOf]; omega
    · obtain rfl : t = 2 := by omega
      rw [show bitsPre xs ys 2 = bitsRow (xs ++ ys) from rfl] at hown ⊢
      go_wp2
      go_ret
      exact ⟨A', k', rfl, hown.less (hp0.trans hb1).sz, (hp0.trans hb1).trans hp⟩
/-- Numbers collected in a row of the call's own, beside another row of its own (at g) that stays. -/
def NumsBy (w0 : World) (g N : Nat) (zs : List Int) (wi : World) (v : Value) (L : List Int) : Prop :=
  ∃ A k, v = .slice A L.length k ∧ OwI w0.heap.size wi A L.length k L ∧ Past w0 wi ∧ ¬ blk A g ∧ g < wi.heap.size ∧ RdI wi (some ⟨g, 0, none⟩) N zs
theorem NumsBy.push {w0 w w' : World} {g N k g' cap H : Nat} {zs L : List Int} {A : Option Addr} {x : Int} (ho : OwI w0.heap.size w A L.length k L) (hp : Past w0 w) (hn : ¬ blk A g) (hl : g < w.heap.size) (hz : RdI w (some ⟨g, 0, none⟩) N zs)
    (h5 : w'.ownsRow w0.heap.size 2 1 (.slice (some ⟨g', 0, none⟩) (L.length + 1) cap) (L.length + 1) (L.map (Value.int .i64) ++ [.int .i64 x])) (hg : w.grownBy w' (Value.slice A L.length k).ownBlock) (hat : (Value.slice A L.length k).ownBlock = some g' ∨ g' = H) (hH : w.heap.size = H) :
    NumsBy w0 g N zs w' (.slice (some ⟨g', 0, none⟩) (L.length + 1) cap) (L ++ [x]) := by
  have hne : some g ≠ (Value.slice A L.length k).ownBlock := by
    cases A with
    | none => simp [Value.ownBlock]
    | some a => intro e; simp only [Value.ownBlock, Option.some.injEq] at e; exact hn ⟨a, rfl, e.symm⟩
  refine ⟨some ⟨g', 0, none⟩, cap, by rw [List.length_append]; rfl, ?_, past_grown hp ho (Nat.le_refl _) hg, ?_, Nat.lt_of_lt_of_le hl hg.size, ?_⟩
  · rw [show (L ++ [x]).length = L.length + 1 from by simp]
    have h6 := h5
    rw [show L.map (Value.int .i64) ++ [Value.int .i64 x] = (L ++ [x]).map (Value.int .i64) from by simp] at h6
    exact h6
  · intro hb
    have e := blk_some.1 hb
    rcases hat with h | h
    · exact hne (by rw [h, e])
    · omega
  · refine ⟨hz.1, fun hN => ?_⟩
    obtain ⟨b, o, e, hc⟩ := hz.2 hN
    refine ⟨b, o, e, fun j y hj => ?_⟩
    simp only [Option.some.injEq, Addr.mk.injEq] at e
    rw [hg.cell_far ⟨b, o + j, none⟩ (by simp only; omega) (by simp only; rw [← e.1]; exact hne)]
    exact hc j y hj
set_option maxHeartbeats 4000000 in
set_option maxRecDepth 100000 in
theorem l03Bits_any (b o d q n k m l : Nat) (xs ys : List Int) (w : World) (hx : RdI w (some ⟨b, o, none⟩) n xs) (hy : RdI w (some ⟨d, q, none⟩) m ys) (hn : n ≤ 25) (hm : m ≤ 25) (hm0 : 0 < m) (bx : ∀ x ∈ xs, 0 ≤ x ∧ x ≤ 15) (b_y : ∀ x ∈ ys, 0 ≤ x ∧ x ≤ 15) :
    Calls Try.prog 84 #[.agg #[.slice (some ⟨b, o, none⟩) n k, .slice (some ⟨d, q, none⟩) m l]] w (IntsRet w (bitsRow (xs ++ ys))) := by
  obtain ⟨i0, hi, hz0, hz1, hz2⟩ := info_parts infoI
  obtain ⟨w0, hw0⟩ : ∃ w0 : World, w0 = w.alloc (.cells #[.slice (some ⟨b, o, none⟩) n k, .slice (some ⟨d, q, none⟩) m l] 43) := ⟨_, rfl⟩
  have hp0 : Past w w0 := by rw [hw0]; exact (by repeat (first | exact Past.refl _ | assumption | refine Past.alloc ?_ _ | refine Past.drew ?_ | refine Past.drewN ?_ _ | refine Past.setCell ?_ (by first | (simp; done) | (simp <;> omega)) _ | refine Past.trans ?_ (past_over _ _) | refine Past.trans ?_ (by assumption)))
  have c0 : w0.cell? ⟨w.heap.size, 0, none⟩ = some (.slice (some ⟨b, o, none⟩) n k) := by rw [hw0]; simp [go_sem]
  have c1 : w0.cell? ⟨w.heap.size, 1, none⟩ = some (.slice (some ⟨d, q, none⟩) m l) := by rw [hw0]; simp [go_sem]
  have hx0 := hx.past hp0
  have hy0 := hy.past hp0
  clear hx hy
  go_enter Try.func84, Try.ntmps84
  go_upto_region 1 with fail
  rw [← hw0]
  clear hw0
  go_upto_region 2 with fail
  have HO := NumsIn.empty w0 2 rfl
  have hb1 := (Past.refl w0).alloc (.cells #[] 2)
  have hw01 : w0.heap.size < (w0.alloc (.cells #[] 2)).heap.size := by simp
  generalize w0.alloc (.cells #[] 2) = w1 at HO hb1 hw01 ⊢
  have d0 := hb1.keep c0
  have d1 := hb1.keep c1
  have hx1 := hx0.past hb1
  have hy1 := hy0.past hb1
  clear hx0 hy0 c0 c1
  have HC := Lib.hid (show ∀ j u, (ys.map (Value.int .i64))[j]? = some u → w1.cell? ((⟨d, q, none⟩ : Addr).add j) = some u from by
    intro j u hj
    rw [List.getElem?_map] at hj
    cases hyj : ys[j]? with
    | none => rw [hyj] at hj; cases hj
    | some y =>
      rw [hyj] at hj
      simp only [Option.map_some, Option.some.injEq] at hj
      subst hj
      have hjm : j < m := by have := (List.getElem?_eq_some_iff.1 hyj).1; have := hy1.1; omega
      obtain ⟨b', o', y', e, hy', hc⟩ := hy1.at_ hjm
      rw [hyj] at hy'
      simp only [Option.some.injEq, Addr.mk.injEq] at e hy'
      obtain ⟨rfl, rfl, _⟩ := e
      subst hy'
      rw [add_plain]
      exact hc)
  go_cut [4] (fun v wx => ∃ g kk, v = .slice (some ⟨g, 0, none⟩) (n + m) kk ∧ OwI w1.heap.size wx (some ⟨g, 0, none⟩) (n + m) kk (xs ++ ys) ∧ Past w1 wx)
  case first =>
    go_region_held3 (fun w' => w'.cell? ⟨w.heap.size, 0, none⟩ = some (.slice (some ⟨b, o, none⟩) n k) ∧ w'.cell? ⟨w.heap.size, 1, none⟩ = some (.slice (some ⟨d, q, none⟩) m l) ∧ Past (w1) w') (first | (go_split_ands; refine ⟨?_, ?_, ?_⟩ <;> first | assumption | (refine Past.keep hb2 ?_; assumption) | (refine Past.keepz hb2 ⟨_, by assumption⟩ ?_; assumption) | (refine Past.trans ?_ hb2; first | assumption | exact Past.drew (Past.refl _) | exact Past.drew (by assumption)) | (refine Past.drew ?_; assumption)) | (refine ⟨?_, ?_, Past.drew (Past.refl _)⟩ <;> first | assumption | (simp; done))) (first | (go_at_call 108; (with_reducible refine (own_any _ _ _ _ _ _ (hx1.past (by repeat (first | exact Past.refl _ | assumption | refine Past.alloc ?_ _ | refine Past.drew ?_ | refine Past.drewN ?_ _ | refine Past.setCell ?_ (by first | (simp; done) | (simp <;> omega)) _ | refine Past.trans ?_ (past_over _ _) | refine Past.trans ?_ (by assumption)))) (by omega)).mono ?_); rintro e w2 ⟨g1, k1, rfl, ho1, hb2⟩) | (refine step_append_lies _ rfl (.tmp 10) (.tmp 12) 28 rfl w1.heap.size 2 i0 (.int .i64 0) 1 8 Try.underlying28 hi hz0 hz1 hz2 rfl (by decide) (.slice (some ⟨g1, 0, none⟩) n k1) n (xs.map (Value.int .i64)) (by simp [Act.eval]) ho1 ⟨d, q, none⟩ m l (ys.map (Value.int .i64)) (by simp [Act.eval]) (by rw [List.length_map, hy1.1, Nat.mul_one]) (fun j u hj => (show Past w1 w2 from (by repeat (first | exact Past.refl _ | assumption | refine Past.alloc ?_ _ | refine Past.drew ?_ | refine Past.drewN ?_ _ | refine Past.setCell ?_ (by first | (simp; done) | (simp <;> omega)) _ | refine Past.trans ?_ (past_over _ _) | refine Past.trans ?_ (by assumption)))).keep (HC.out j u hj)) (by intro u hu; simp only [List.mem_map] at hu; obtain ⟨_, _, rfl⟩ := hu; rfl) hm0 (by unfold maxLen; omega) (by omega) (show Past w1 w2 from (by repeat (first | exact Past.refl _ | assumption | refine Past.alloc ?_ _ | refine Past.drew ?_ | refine Past.drewN ?_ _ | refine Past.setCell ?_ (by first | (simp; done) | (simp <;> omega)) _ | refine Past.trans ?_ (past_over _ _) | refine Past.trans ?_ (by assumption)))).sz _ rfl ?_; intro g5 k5 w5 hown5 hg5 hat hlt; have hb2 := past_grown (show Past w1 w2 from (by repeat (first | exact Past.refl _ | assumption | refine Past.alloc ?_ _ | refine Past.drew ?_ | refine Past.drewN ?_ _ | refine Past.setCell ?_ (by first | (simp; done) | (simp <;> omega)) _ | refine Past.trans ?_ (past_over _ _) | refine Past.trans ?_ (by assumption)))) ho1 (Nat.le_refl _) hg5))
    go_wp2
    go_meet
    exact ⟨g5, k5, rfl, by rw [← List.map_append] at hown5; exact hown5, hb2⟩
  case rest =>
    obtain ⟨g, kk, rfl, ho, hp2⟩ := hcut
    have HO2 := HO.past hp2
    have hz : RdI wc (some ⟨g, 0, none⟩) (n + m) (xs ++ ys) := ho.rd
    have hbz : ∀ x ∈ xs ++ ys, 0 ≤ x ∧ x ≤ 15 := fun x hx => (List.mem_append.1 hx).elim (bx x) (b_y x)
    have eg := own_at ho
    have h01 : w0.heap.size < w1.heap.size := hw01
    have hP0 := hp0
    clear HO ho d0 d1 hx1 hy1 bx b_y HC hp0 hb1 hp2
    obtain ⟨N, hN⟩ : ∃ N, n + m = N := ⟨_, rfl⟩
    have hN50 : N ≤ 50 := by omega
    rw [hN] at hz ⊢
    clear hN
    obtain ⟨zs, hzs⟩ : ∃ zs, xs ++ ys = zs := ⟨_, rfl⟩
    rw [hzs] at hz hbz
    have HZS := Lib.hid hzs
    clear hzs
    have hg0 : w1.heap.size ≤ g ∧ g < wc.heap.size := eg
    have HO3 : NumsBy w0 g N zs wc (.slice (some ⟨w0.heap.size, 0, none⟩) 0 0) [] := by
      obtain ⟨A, k3, hv3, ho3, hp3⟩ := HO2
      simp only [List.length_nil, Value.slice.injEq, true_and] at hv3
      obtain ⟨rfl, rfl⟩ := hv3
      exact ⟨_, _, rfl, ho3, hp3, fun hb => by have := blk_some.1 hb; omega, hg0.2, hz⟩
    clear HO2 hz
    go_wp2_with fail
    go_loopw [3, 5] (fun v i wi => ∃ j : Nat, j ≤ N ∧ i = .int .i64 (j : Int) ∧ NumsBy w0 g N zs wi v (bitsRow (zs.take j))) (fun _ i _ => N - (intOf i).toNat)
    case atStart => exact ⟨0, Nat.zero_le _, rfl, by rw [List.take_zero, show bitsRow [] = [] from rfl]; exact HO3⟩
    case round =>
      obtain ⟨j, hj, rfl, A2, k2, rfl, hown2, hp2, hn2, hl2, hz2⟩ := hrel
      clear HO3
      by_cases hltj : j < N
      · obtain ⟨b2, o2, x, hA, hxj, hcx⟩ := hz2.at_ hltj
        simp only [Option.some.injEq, Addr.mk.injEq] at hA
        obtain ⟨rfl, rfl, _⟩ := hA
        obtain ⟨x0, x15⟩ := hbz x (List.mem_of_getElem? hxj)
        obtain ⟨e0, rfl⟩ := Int.eq_ofNat_of_zero_le x0
        have HT := Lib.hid (bitsRow_take hxj)
        have hlen2 : (bitsRow (zs.take j)).length ≤ 800 := by have h1 := bitsRow_len (take_bd hbz j); rw [List.length_take] at h1; omega
        rw [Int.toNat_natCast] at HT
        generalize bitsRow (zs.take j) = Y at hown2 hlen2 HT ⊢
        have HXJ := Lib.hid hxj
        clear hxj hcx
        have hj2 : (j : Int) < (N : Int) := by omega
        go_wp2_with fail
        go_loopw [3, 6] (fun v c wi => ∃ e : Nat, e ≤ e0 ∧ c = .int .i64 (e : Int) ∧ NumsBy w0 g N zs wi v (Y ++ List.replicate e 1)) (fun _ c _ => e0 - (intOf c).toNat)
        case atStart => exact ⟨0, Nat.zero_le _, rfl, by rw [List.replicate_zero, List.append_nil]; exact ⟨A2, k2, rfl, hown2, hp2, hn2, hl2, hz2⟩⟩
        case round =>
          obtain ⟨e, he, rfl, A3, k3, rfl, hown3, hp3, hn3, hl3, hz3⟩ := hrel
          clear hown2 hp2 hn2 hl2 hz2
          obtain ⟨b3, o3, x3, hA3, hxj3, hcx3⟩ := hz3.at_ hltj
          simp only [Option.some.injEq, Addr.mk.injEq] at hA3
          obtain ⟨rfl, rfl, _⟩ := hA3
          obtain rfl := Option.some.inj (hxj3.symm.trans HXJ.out)
          clear hxj3
          rw [Nat.zero_add] at hcx3
          have hlen : (Y ++ List.replicate e 1).length ≤ 900 := by simp only [List.length_append, List.length_replicate]; omega
          have hz4 := hz3.alloc (.cells #[.int .i64 1] 2)
          have hz5 := hz3.alloc (.cells #[.int .i64 0] 2)
          by_cases hlte : e < e0
          · have he2 : (e : Int) < (e0 : Int) := by omega
            have HN := Lib.hid (show Y ++ List.replicate (e + 1) 1 = (Y ++ List.replicate e 1) ++ [1] from by simp only [List.replicate_succ', List.append_assoc])
            generalize Y ++ List.replicate e 1 = Z at hown3 hlen HN ⊢
            go_wp2_with (at_builtin; refine wpList_append_lies _ rfl _ _ 28 rfl w0.heap.size 2 i0 (.int .i64 0) 1 8 Try.underlying28 hi hz0 hz1 hz2 rfl (by decide) _ Z.length (Z.map (Value.int .i64)) rfl (hown3.alloc _) ⟨wr.heap.size, 0, none⟩ 1 1 [.int .i64 1] rfl rfl (cell_one_new _ _ _) (by intro u hu; simp at hu; subst hu; rfl) (by decide) (by unfold maxLen; omega) (by omega) (Nat.le_trans hp3.size (by simp)) _ rfl ?_; intro g5 k5 w5 hown5 hg5 hat hlt5)
            go_roundw
            case rel => exact ⟨e + 1, by omega, by go_num, by rw [HN.out]; exact NumsBy.push (hown3.alloc _) (hp3.alloc _) hn3 (by simp only [World.size_alloc]; omega) hz4 hown5 hg5 hat rfl⟩
            case measure => simp [intOf]; omega
          · obtain rfl : e = e0 := by omega
            have HN := Lib.hid (show bitsRow (zs.take (j + 1)) = (Y ++ List.replicate e 1) ++ [0] from HT.out)
            generalize Y ++ List.replicate e 1 = Z at hown3 hlen HN ⊢
            go_wp2_with (at_builtin; refine wpList_append_lies _ rfl _ _ 28 rfl w0.heap.size 2 i0 (.int .i64 0) 1 8 Try.underlying28 hi hz0 hz1 hz2 rfl (by decide) _ Z.length (Z.map (Value.int .i64)) rfl (hown3.alloc _) ⟨wr.heap.size, 0, none⟩ 1 1 [.int .i64 0] rfl rfl (cell_one_new _ _ _) (by intro u hu; simp at hu; subst hu; rfl) (by decide) (by unfold maxLen; omega) (by omega) (Nat.le_trans hp3.size (by simp)) _ rfl ?_; intro g5 k5 w5 hown5 hg5 hat hlt5)
            go_roundw
            case rel => exact ⟨j + 1, by omega, by go_num, by rw [HN.out]; exact NumsBy.push (hown3.alloc _) (hp3.alloc _) hn3 (by simp only [World.size_alloc]; omega) hz5 hown5 hg5 hat rfl⟩
            case measure => simp [intOf]; omega
      · obtain rfl : j = N := by omega
        rw [List.take_of_length_le (by have := hz2.1; omega)] at hown2 ⊢
        go_wp2
        go_ret
        rw [HZS.out]
        exact ⟨A2, k2, rfl, OwI.less (base' := w.heap.size) hown2 hP0.sz, hP0.trans hp2⟩
def bbL (p c h s : Int) (xs ys : List Int) : List Int := if bOk p c h s xs ys = true then bitsRow (xs ++ ys) else []
theorem bits_bd {p c h s : Int} {xs ys : List Int} (hb : bOk p c h s xs ys = true) : xs.length ≤ 25 ∧ ys.length ≤ 25 ∧ 0 < ys.length ∧ (∀ x ∈ xs, 0 ≤ x ∧ x ≤ 15) ∧ (∀ x ∈ ys, 0 ≤ x ∧ x ≤ 15) := by
  obtain ⟨p1, c1, _, _, ⟨l1, z1, s1⟩, l2, z2, s2⟩ := bFacts hb
  exact ⟨by omega, by omega, by omega, le15 z1 s1 c1.2, le15 z2 s2 c1.2⟩
theorem bbL_le (p c h s : Int) (xs ys : List Int) : (bbL p c h s xs ys).length ≤ 1000 := by
  unfold bbL
  split
  · rename_i hb
    obtain ⟨l1, l2, _, b1, b2⟩ := bits_bd hb
    have h1 := bitsRow_len b1
    have h2 := bitsRow_len b2
    rw [bitsRow_app, List.length_append]
    omega
  · simp
theorem boardBits (p c h s : Int) (b o d q n k m l : Nat) (xs ys : List Int) (w : World) (hx : RdI w (some ⟨b, o, none⟩) n xs) (hy : RdI w (some ⟨d, q, none⟩) m ys) (hn : n ≤ 1048576) (hm : m ≤ 1048576) :
    Calls Try.prog 43 #[.agg #[.int .i64 p, .int .i64 c, .int .i64 h, .int .i64 s], .agg #[.slice (some ⟨b, o, none⟩) n k, .slice (some ⟨d, q, none⟩) m l]] w (IntsRet w (bbL p c h s xs ys)) := by
  cases hb : bOk p c h s xs ys
  · rw [show bbL p c h s xs ys = [] from by simp [bbL, hb]]
    go_enter Try.func43, Try.ntmps43
    go_wp2_with (go_at_call 31; (with_reducible refine (isBoard_any _ _ _ _ _ _ _ _ _ _ _ _ _ (hx.past (by repeat (first | exact Past.refl _ | assumption | refine Past.alloc ?_ _ | refine Past.drew ?_ | refine Past.drewN ?_ _ | refine Past.setCell ?_ (by first | (simp; done) | (simp <;> omega)) _ | refine Past.trans ?_ (past_over _ _) | refine Past.trans ?_ (by assumption)))) (hy.past (by repeat (first | exact Past.refl _ | assumption | refine Past.alloc ?_ _ | refine Past.drew ?_ | refine Past.drewN ?_ _ | refine Past.setCell ?_ (by first | (simp; done) | (simp <;> omega)) _ | refine Past.trans ?_ (past_over _ _) | refine Past.trans ?_ (by assumption)))) hn hm).mono ?_); rintro e w1 ⟨rfl, hb1⟩; obtain ⟨hc1, hf1, _⟩ := hb1.cells; have hz1_0 : w.heap.size < w1.heap.size := Past.lt hb1 (by first | omega | (simp <;> omega)); have hz1_1 : w.heap.size + 1 < w1.heap.size := Past.lt hb1 (by first | omega | (simp <;> omega)))
    go_ret
    first
    | exact ⟨none, 0, rfl, World.ownsRow_nil _ _ _ _, (by repeat (first | exact Past.refl _ | assumption | refine Past.alloc ?_ _ | refine Past.drew ?_ | refine Past.drewN ?_ _ | refine Past.setCell ?_ (by first | (simp; done) | (simp <;> omega)) _ | refine Past.trans ?_ (past_over _ _) | refine Past.trans ?_ (by assumption)))⟩
    | exact ⟨some ⟨w1.heap.size, 0, none⟩, 0, rfl, World.ownsRow_lit w1 #[] 0 (Nat.le_trans (by first | omega | (simp <;> omega)) hb1.size) (Nat.zero_le _) rfl, (by repeat (first | exact Past.refl _ | assumption | refine Past.alloc ?_ _ | refine Past.drew ?_ | refine Past.drewN ?_ _ | refine Past.setCell ?_ (by first | (simp; done) | (simp <;> omega)) _ | refine Past.trans ?_ (past_over _ _) | refine Past.trans ?_ (by assumption)))⟩
  · rw [show bbL p c h s xs ys = bitsRow (xs ++ ys) from by simp [bbL, hb]]
    obtain ⟨l1, l2, l3, b1, b2⟩ := bits_bd hb
    have e1 := hx.1
    have e2 := hy.1
    go_enter Try.func43, Try.ntmps43
    go_wp2_with (first | (go_at_call 31; (with_reducible refine (isBoard_any _ _ _ _ _ _ _ _ _ _ _ _ _ (hx.past (by repeat (first | exact Past.refl _ | assumption | refine Past.alloc ?_ _ | refine Past.drew ?_ | refine Past.drewN ?_ _ | refine Past.setCell ?_ (by first | (simp; done) | (simp <;> omega)) _ | refine Past.trans ?_ (past_over _ _) | refine Past.trans ?_ (by assumption)))) (hy.past (by repeat (first | exact Past.refl _ | assumption | refine Past.alloc ?_ _ | refine Past.drew ?_ | refine Past.drewN ?_ _ | refine Past.setCell ?_ (by first | (simp; done) | (simp <;> omega)) _ | refine Past.trans ?_ (past_over _ _) | refine Past.trans ?_ (by assumption)))) hn hm).mono ?_); rintro e w1 ⟨rfl, hb1⟩; obtain ⟨hc1, hf1, _⟩ := hb1.cells; have hz1_0 : w.heap.size < w1.heap.size := Past.lt hb1 (by first | omega | (simp <;> omega)); have hz1_1 : w.heap.size + 1 < w1.heap.size := Past.lt hb1 (by first | omega | (simp <;> omega))) | (go_at_call 82; (with_reducible refine (bitsOf_any _ _ _ _ _ _ _ _ _ _ _ (hx.past (by repeat (first | exact Past.refl _ | assumption | refine Past.alloc ?_ _ | refine Past.drew ?_ | refine Past.drewN ?_ _ | refine Past.setCell ?_ (by first | (simp; done) | (simp <;> omega)) _ | refine Past.trans ?_ (past_over _ _) | refine Past.trans ?_ (by assumption)))) (hy.past (by repeat (first | exact Past.refl _ | assumption | refine Past.alloc ?_ _ | refine Past.drew ?_ | refine Past.drewN ?_ _ | refine Past.setCell ?_ (by first | (simp; done) | (simp <;> omega)) _ | refine Past.trans ?_ (past_over _ _) | refine Past.trans ?_ (by assumption)))) (by omega) (by omega)  b1 b2).mono ?_); rintro e w2 ⟨A', k', rfl, hown, hb2⟩; obtain ⟨hc2, hf2, _⟩ := hb2.cells))
    go_ret
    exact ⟨A', k', rfl, OwI.less hown (by first | omega | (simp <;> omega)), (by repeat (first | exact Past.refl _ | assumption | refine Past.alloc ?_ _ | refine Past.drew ?_ | refine Past.drewN ?_ _ | refine Past.setCell ?_ (by first | (simp; done) | (simp <;> omega)) _ | refine Past.trans ?_ (past_over _ _) | refine Past.trans ?_ (by assumption)))⟩
end Go.Proofs.Ytapocfgajkkpdaa
