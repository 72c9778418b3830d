/- The reference of layer 18 walked: Same. -/
import Derived.Test.YtedmamchfgkkfaaNodeB
import Derived.Test.YtedmamchfgkkfaaDeedA
namespace Go.Proofs.Ytedmamchfgkkfaa
open Go.RowKit
set_option maxRecDepth 100000
set_option maxHeartbeats 2000000

theorem ref_nodeSame (k k2 : Int) (A B I A2 B2 I2 : Option Addr) (xs vs xs2 vs2 : List ByteArray) (ns ns2 : List Int) (c d ci c2 d2 ci2 : Nat) (w : World) (hx : xs.length ≤ 281474976710656) (hv : vs.length ≤ 281474976710656) (hn : ns.length ≤ 281474976710656)
    (rx : Rd w A (xs.map sv)) (rv : Rd w B (vs.map sv)) (rn : Rd w I (ns.map iv)) (rx2 : Rd w A2 (xs2.map sv)) (rv2 : Rd w B2 (vs2.map sv)) (rn2 : Rd w I2 (ns2.map iv)) :
    Calls Try.prog 40 #[nodeV k A xs.length c B vs.length d I ns.length ci, nodeV k2 A2 xs2.length c2 B2 vs2.length d2 I2 ns2.length ci2] w (RetBl (decide (k = k2 ∧ xs = xs2 ∧ vs = vs2 ∧ ns = ns2)) w) := by
  have RX := Lib.hid rx
  have RV := Lib.hid rv
  have RN := Lib.hid rn
  have RX2 := Lib.hid rx2
  have RV2 := Lib.hid rv2
  have RN2 := Lib.hid rn2
  clear rx rv rn rx2 rv2 rn2
  by_cases h0 : k = k2
  case neg =>
    have b0 : (k == k2) = false := by simpa using h0
    have HC := Lib.hid (show false = decide (k = k2 ∧ xs = xs2 ∧ vs = vs2 ∧ ns = ns2) by simp [h0])
    clear h0
    go_enter Try.func40, Try.ntmps40
    go_wp2_with fail
    go_ret
    exact RetBl.mk HC.out (((Bl.refl w).alloc _).alloc _)
  have b0 : (k == k2) = true := by simpa using h0
  by_cases h1 : xs = xs2
  case neg =>
    have HC := Lib.hid (show false = decide (k = k2 ∧ xs = xs2 ∧ vs = vs2 ∧ ns = ns2) by simp [h1])
    have HQ := Lib.hid (decide_eq_false h1)
    clear h0 h1
    go_enter Try.func40, Try.ntmps40
    go_wp2_with fail
    refine (texts_calls A A2 c c2 xs xs2 _ hx (RX.out.bl (((Bl.refl w).alloc _).alloc _)) (RX2.out.bl (((Bl.refl w).alloc _).alloc _))).mono ?_
    rintro e w1 ⟨rfl, n1, rfl⟩
    rw [HQ.out]
    go_wp2_with fail
    go_ret
    exact RetBl.mk HC.out ((((Bl.refl w).alloc _).alloc _).drewN n1)
  have HQ := Lib.hid (decide_eq_true h1)
  by_cases h2 : vs = vs2
  case neg =>
    have HC := Lib.hid (show false = decide (k = k2 ∧ xs = xs2 ∧ vs = vs2 ∧ ns = ns2) by simp [h2])
    have HQ2 := Lib.hid (decide_eq_false h2)
    clear h0 h1 h2
    go_enter Try.func40, Try.ntmps40
    go_wp2_with fail
    refine (texts_calls A A2 c c2 xs xs2 _ hx (RX.out.bl (((Bl.refl w).alloc _).alloc _)) (RX2.out.bl (((Bl.refl w).alloc _).alloc _))).mono ?_
    rintro e w1 ⟨rfl, n1, rfl⟩
    rw [HQ.out]
    go_wp2_with fail
    refine (texts_calls B B2 d d2 vs vs2 _ hv (RV.out.bl ((((Bl.refl w).alloc _).alloc _).drewN n1)) (RV2.out.bl ((((Bl.refl w).alloc _).alloc _).drewN n1))).mono ?_
    rintro e w2 ⟨rfl, n2, rfl⟩
    rw [HQ2.out]
    go_wp2_with fail
    go_ret
    exact RetBl.mk HC.out ((((Bl.refl w).alloc _).alloc _).drewN (n1 + n2))
  have HQ2 := Lib.hid (decide_eq_true h2)
  have HC := Lib.hid (show decide (ns = ns2) = decide (k = k2 ∧ xs = xs2 ∧ vs = vs2 ∧ ns = ns2) by simp [h0, h1, h2])
  clear h0 h1 h2
  go_enter Try.func40, Try.ntmps40
  go_wp2_with fail
  refine (texts_calls A A2 c c2 xs xs2 _ hx (RX.out.bl (((Bl.refl w).alloc _).alloc _)) (RX2.out.bl (((Bl.refl w).alloc _).alloc _))).mono ?_
  rintro e w1 ⟨rfl, n1, rfl⟩
  rw [HQ.out]
  go_wp2_with fail
  refine (texts_calls B B2 d d2 vs vs2 _ hv (RV.out.bl ((((Bl.refl w).alloc _).alloc _).drewN n1)) (RV2.out.bl ((((Bl.refl w).alloc _).alloc _).drewN n1))).mono ?_
  rintro e w2 ⟨rfl, n2, rfl⟩
  rw [HQ2.out]
  go_wp2_with fail
  refine (ints_calls I I2 ci ci2 ns ns2 _ hn (RN.out.bl ((((Bl.refl w).alloc _).alloc _).drewN (n1 + n2))) (RN2.out.bl ((((Bl.refl w).alloc _).alloc _).drewN (n1 + n2)))).mono ?_
  rintro e w3 ⟨rfl, n3, rfl⟩
  go_wp2_with fail
  go_ret
  exact RetBl.mk HC.out ((((Bl.refl w).alloc _).alloc _).drewN (n1 + n2 + n3))
end Go.Proofs.Ytedmamchfgkkfaa
