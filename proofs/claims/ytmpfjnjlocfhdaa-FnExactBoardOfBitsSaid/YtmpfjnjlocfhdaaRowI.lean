/-
  Contracts of the laws' comparison, marks and looks, at rows of numbers in a span.
-/
import Derived.Test.YtmpfjnjlocfhdaaSpan
namespace Go.Proofs.Ytmpfjnjlocfhdaa
open Go.ChangeShapes Go.WideShapes Go.ChangeAt Go.RowKit Go.Joins

section
variable {lo hi : Nat} {w w' : World} {A : Option Addr} {n k : Nat} {L : List Int}
theorem markRowI (h : RowIn lo hi w A n k L) (K : Int) (h0 : 0 ≤ K) (h1 : K ≤ 1000000) (hn : n ≤ 10000000) :
    Calls Try.prog 29 #[.slice A n k, .int .i64 K] w fun e w' => e = .returned (.int .i64 (K + (n : Int))) ∧ RowIn lo hi w' A n k (marks K n) ∧ Turn lo hi w w' :=
  (markInts lo A n k L K w h.1 h0 (by omega) (by omega)).mono fun _ _ ⟨he, h2, hM⟩ => ⟨he, ⟨h2, h.2⟩, hM.more h.2⟩
theorem heldRowI {K : Int} (h : RowIn lo hi w A n k (marks K n)) (h0 : 0 ≤ K) (h1 : K ≤ 1000000) (hn : n ≤ 10000000) :
    Calls Try.prog 30 #[.slice A n k, .int .i64 K] w fun e w' => e = .returned (.int .i64 (K + (n : Int))) ∧ w = w' := heldInts A n k K w h.rd h0 (by omega) (by omega)
theorem eqRowI {lo' hi' k' : Nat} {A' : Option Addr} (h : RowIn lo hi w A n k L) (h' : RowIn lo' hi' w A' n k' L) (hn : n ≤ 1048576) :
    Calls Try.prog 24 #[.slice A n k, .slice A' n k'] w fun e w' => e = .returned (.bool true) ∧ Past w w' := eqInts _ _ _ _ _ _ _ h.rd h'.rd hn
end
end Go.Proofs.Ytmpfjnjlocfhdaa
