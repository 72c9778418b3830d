/- Layer 22 (deed) and its reference walked: May, Changes. -/
import Derived.Test.YtedmamchfgkkfaaRefWide
namespace Go.Proofs.Ytedmamchfgkkfaa
open Go.RowKit
set_option maxRecDepth 100000
set_option maxHeartbeats 2000000

/-- Which deeds may be: the kind, the Id, N, how many bytes. -/
def deedMay (k id n : Int) (m : Nat) : Bool := decide (1 ≤ k ∧ k ≤ 9 ∧ 0 ≤ n ∧ n ≤ 65536 ∧ (k = 5 ∨ n = 0) ∧ (k = 2 ∨ k = 3 ∨ k = 4 ∨ k = 5 ∨ id = 0) ∧ (k = 1 ∨ k = 9 ∨ m = 0))
def deedChanges (k id n : Int) (m : Nat) : Bool := deedMay k id n m && decide (k = 1 ∨ k = 2 ∨ k = 7 ∨ k = 9)
def RetBl (b : Bool) (w : World) (e : Ending) (w' : World) : Prop := e = .returned (.bool b) ∧ Bl w w'
theorem RetBl.mk {b b' : Bool} {w w' : World} (h : b' = b) (hw : Bl w w') : RetBl b w (.returned (.bool b')) w' := ⟨by rw [h], hw⟩
abbrev deedV (k id n : Int) (A : Option Addr) (m c : Nat) : Value := .agg #[.int .u8 k, .int .u64 id, .int .i64 n, .slice A m c]

theorem deed_May (k id n : Int) (A : Option Addr) (m c : Nat) (w : World) (hm : m ≤ 281474976710656) :
    Calls Try.prog 15 #[deedV k id n A m c] w (RetBl (deedMay k id n m) w) := by
  go_enter Try.func15, Try.ntmps15
  go_wp2_with fail
  all_goals
    go_ret
    refine RetBl.mk ?_ ((Bl.refl w).alloc _)
    try simp only [beq_iff_eq, beq_eq_false_iff_ne, bne_iff_ne, bne_eq_false_iff_eq, ne_eq] at *
    rw [Bool.eq_iff_iff]
    simp only [deedMay, decide_eq_true_eq]
    try simp
    try omega
theorem ref_deedMay (k id n : Int) (A : Option Addr) (m c : Nat) (w : World) (hm : m ≤ 281474976710656) :
    Calls Try.prog 16 #[deedV k id n A m c] w (RetBl (deedMay k id n m) w) := by
  go_enter Try.func16, Try.ntmps16
  go_wp2_with fail
  all_goals
    go_ret
    refine RetBl.mk ?_ ((Bl.refl w).alloc _)
    try simp only [beq_iff_eq, beq_eq_false_iff_ne, bne_iff_ne, bne_eq_false_iff_eq, ne_eq, Bool.not_eq_false', Bool.not_eq_true'] at *
    rw [Bool.eq_iff_iff]
    simp only [deedMay, decide_eq_true_eq]
    try simp
    try omega
theorem deed_Changes (k id n : Int) (A : Option Addr) (m c : Nat) (w : World) (hm : m ≤ 281474976710656) :
    Calls Try.prog 17 #[deedV k id n A m c] w (RetBl (deedChanges k id n m) w) := by
  by_cases hk : k = 1 ∨ k = 2 ∨ k = 7 ∨ k = 9
  · have HC := Lib.hid (show deedMay k id n m = deedChanges k id n m by unfold deedChanges; rw [decide_eq_true hk, Bool.and_true])
    rcases hk with rfl | rfl | rfl | rfl
    all_goals
      go_enter Try.func17, Try.ntmps17
      go_wp2_with (first | (go_at_call 15; go_must (refine (deed_May _ id n A m c _ hm).mono ?_); rintro e w1 ⟨rfl, hbl⟩))
      go_ret
      exact RetBl.mk HC.out (((Bl.refl w).alloc _).trans hbl)
  · have HC := Lib.hid (show false = deedChanges k id n m by unfold deedChanges; rw [decide_eq_false hk, Bool.and_false])
    have b1 : (k == 1) = false := by rw [beq_eq_false_iff_ne]; omega
    have b2 : (k == 2) = false := by rw [beq_eq_false_iff_ne]; omega
    have b7 : (k == 7) = false := by rw [beq_eq_false_iff_ne]; omega
    have b9 : (k == 9) = false := by rw [beq_eq_false_iff_ne]; omega
    clear hk
    go_enter Try.func17, Try.ntmps17
    go_wp2_with fail
    go_ret
    exact RetBl.mk HC.out ((Bl.refl w).alloc _)
theorem ref_deedChanges (k id n : Int) (A : Option Addr) (m c : Nat) (w : World) (hm : m ≤ 281474976710656) :
    Calls Try.prog 18 #[deedV k id n A m c] w (RetBl (deedChanges k id n m) w) := by
  cases hb : deedMay k id n m
  · have HB := Lib.hid hb
    have HC := Lib.hid (show false = deedChanges k id n m by unfold deedChanges; rw [hb, Bool.false_and])
    clear hb
    go_enter Try.func18, Try.ntmps18
    go_wp2_with (first | (go_at_call 16; go_must (refine (ref_deedMay _ id n A m c _ hm).mono ?_); rintro e w1 ⟨rfl, hbl⟩; rw [HB.out]))
    go_ret
    exact RetBl.mk HC.out (((Bl.refl w).alloc _).trans hbl)
  · have HB := Lib.hid hb
    have HC := Lib.hid (show decide (k = 1 ∨ k = 2 ∨ k = 7 ∨ k = 9) = deedChanges k id n m by unfold deedChanges; rw [hb, Bool.true_and])
    clear hb
    go_enter Try.func18, Try.ntmps18
    go_wp2_with (first | (go_at_call 16; go_must (refine (ref_deedMay _ id n A m c _ hm).mono ?_); rintro e w1 ⟨rfl, hbl⟩; rw [HB.out]))
    all_goals
      go_ret
      refine RetBl.mk (Eq.trans ?_ HC.out) (((Bl.refl w).alloc _).trans hbl)
      try simp only [beq_iff_eq, beq_eq_false_iff_ne, bne_iff_ne, bne_eq_false_iff_eq, ne_eq, Bool.not_eq_false', Bool.not_eq_true'] at *
      rw [Bool.eq_iff_iff]
      simp only [decide_eq_true_eq]
      try simp
      try omega
end Go.Proofs.Ytedmamchfgkkfaa
