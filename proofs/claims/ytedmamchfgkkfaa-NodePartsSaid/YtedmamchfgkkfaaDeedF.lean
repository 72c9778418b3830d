/- The reference of layer 22 walked: SameDeed. -/
import Derived.Test.YtedmamchfgkkfaaDeedE
namespace Go.Proofs.Ytedmamchfgkkfaa
open Go.RowKit
set_option maxRecDepth 100000
set_option maxHeartbeats 2000000

theorem ref_sameDeed (k id n k2 id2 n2 : Int) (A B : Option Addr) (c d : Nat) (xs ys : List UInt8) (w : World) (hl : xs.length ≤ 281474976710656) (hx : Rd w A (xs.map bv)) (hy : Rd w B (ys.map bv)) :
    Calls Try.prog 23 #[deedV k id n A xs.length c, deedV k2 id2 n2 B ys.length d] w (RetBl (decide (k = k2 ∧ id = id2 ∧ n = n2 ∧ xs = ys)) w) := by
  have HX := Lib.hid hx
  have HY := Lib.hid hy
  clear hx hy
  by_cases h1 : k = k2
  case neg =>
    have b1 : (k == k2) = false := by simpa using h1
    have HC := Lib.hid (show false = decide (k = k2 ∧ id = id2 ∧ n = n2 ∧ xs = ys) by simp [h1])
    clear h1
    go_enter Try.func23, Try.ntmps23
    go_wp2_with fail
    go_ret
    exact RetBl.mk HC.out (((Bl.refl w).alloc _).alloc _)
  by_cases h2 : id = id2
  case neg =>
    have b1 : (k == k2) = true := by simpa using h1
    have b2 : (id == id2) = false := by simpa using h2
    have HC := Lib.hid (show false = decide (k = k2 ∧ id = id2 ∧ n = n2 ∧ xs = ys) by simp [h2])
    clear h1 h2
    go_enter Try.func23, Try.ntmps23
    go_wp2_with fail
    go_ret
    exact RetBl.mk HC.out (((Bl.refl w).alloc _).alloc _)
  by_cases h3 : n = n2
  case neg =>
    have b1 : (k == k2) = true := by simpa using h1
    have b2 : (id == id2) = true := by simpa using h2
    have b3 : (n == n2) = false := by simpa using h3
    have HC := Lib.hid (show false = decide (k = k2 ∧ id = id2 ∧ n = n2 ∧ xs = ys) by simp [h3])
    clear h1 h2 h3
    go_enter Try.func23, Try.ntmps23
    go_wp2_with fail
    go_ret
    exact RetBl.mk HC.out (((Bl.refl w).alloc _).alloc _)
  have b1 : (k == k2) = true := by simpa using h1
  have b2 : (id == id2) = true := by simpa using h2
  have b3 : (n == n2) = true := by simpa using h3
  have HC := Lib.hid (show decide (xs = ys) = decide (k = k2 ∧ id = id2 ∧ n = n2 ∧ xs = ys) by simp [h1, h2, h3])
  clear h1 h2 h3
  go_enter Try.func23, Try.ntmps23
  go_wp2_with (first | (go_at_call 19; go_must (refine (same_calls A B c d xs ys _ hl (HX.out.bl (((Bl.refl w).alloc _).alloc _)) (HY.out.bl (((Bl.refl w).alloc _).alloc _))).mono ?_); rintro e w1 ⟨rfl, hdr⟩))
  go_ret
  exact RetBl.mk HC.out ((((Bl.refl w).alloc _).alloc _).trans (hdr.below _))
end Go.Proofs.Ytedmamchfgkkfaa
