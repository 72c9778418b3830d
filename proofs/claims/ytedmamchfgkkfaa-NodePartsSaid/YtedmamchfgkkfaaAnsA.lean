/- Layer 22 (deed) and its reference walked: which answers may be, and whether two are the same. -/
import Derived.Test.YtedmamchfgkkfaaDeedA
namespace Go.Proofs.Ytedmamchfgkkfaa
open Go.RowKit
set_option maxRecDepth 100000
set_option maxHeartbeats 2000000

/-- Which answers may be: the fault, N, how many bytes, how many Ids. -/
def ansMay (e n : Int) (nb ni : Nat) : Bool := decide (0 ≤ e ∧ e ≤ 13 ∧ 0 ≤ n ∧ nb ≤ 65536 ∧ ni ≤ 65536)
abbrev ansV (e id n : Int) (A : Option Addr) (m c : Nat) (I : Option Addr) (k d : Nat) (more : Bool) : Value := .agg #[.int .i64 e, .int .u64 id, .int .i64 n, .slice A m c, .slice I k d, .bool more]
theorem ans_may (e id n : Int) (A I : Option Addr) (m c k d : Nat) (more : Bool) (w : World) (hm : m ≤ 281474976710656) (hk : k ≤ 281474976710656) :
    Calls Try.prog 67 #[ansV e id n A m c I k d more] w (RetBl (ansMay e n m k) w) := by
  go_enter Try.func67, Try.ntmps67
  go_wp2_with fail
  all_goals
    go_ret
    refine RetBl.mk ?_ ((Bl.refl w).alloc _)
    try simp only [beq_iff_eq, beq_eq_false_iff_ne, bne_iff_ne, bne_eq_false_iff_eq, ne_eq, Bool.not_eq_false', Bool.not_eq_true'] at *
    rw [Bool.eq_iff_iff]
    simp only [ansMay, decide_eq_true_eq]
    try simp
    try omega
theorem ref_ansMay (e id n : Int) (A I : Option Addr) (m c k d : Nat) (more : Bool) (w : World) (hm : m ≤ 281474976710656) (hk : k ≤ 281474976710656) :
    Calls Try.prog 70 #[ansV e id n A m c I k d more] w (RetBl (ansMay e n m k) w) := by
  go_enter Try.func70, Try.ntmps70
  go_wp2_with fail
  all_goals
    go_ret
    refine RetBl.mk ?_ ((Bl.refl w).alloc _)
    try simp only [beq_iff_eq, beq_eq_false_iff_ne, bne_iff_ne, bne_eq_false_iff_eq, ne_eq, Bool.not_eq_false', Bool.not_eq_true'] at *
    rw [Bool.eq_iff_iff]
    simp only [ansMay, decide_eq_true_eq]
    try simp
    try omega
theorem by_equal (A B : Option Addr) (c d : Nat) (xs ys : List UInt8) (w : World) (_hl : xs.length ≤ 281474976710656) (hx : Rd w A (xs.map bv)) (hy : Rd w B (ys.map bv)) :
    Calls Try.prog 72 #[.slice A xs.length c, .slice B ys.length d] w (RetDr (decide (xs = ys)) w) := by
  have c1 := conv_bytes (P := Try.prog) w 24 5 9 Try.underlying24 Try.underlying5 Try.underlying9 A c xs hx
  have c2 := conv_bytes (P := Try.prog) w 24 5 9 Try.underlying24 Try.underlying5 Try.underlying9 B d ys hy
  clear hx hy
  go_enter Try.func72, Try.ntmps72
  go_wp2_with fail
  go_ret
  exact RetDr.mk (by rw [Bool.eq_iff_iff]; simp) (Dr.refl w)
theorem sl_equal (A B : Option Addr) (c d : Nat) (xs ys : List Nat) (w : World) (hl : xs.length ≤ 281474976710656) (hx : Rd w A (xs.map wv)) (hy : Rd w B (ys.map wv)) :
    Calls Try.prog 73 #[.slice A xs.length c, .slice B ys.length d] w (RetDr (decide (xs = ys)) w) := by
  have HX := Lib.hid hx
  have HY := Lib.hid hy
  clear hx hy
  by_cases hlen : xs.length = ys.length
  · have H2 := Lib.hid hlen
    have h2 : ((xs.length : Int) != (ys.length : Int)) = false := by rw [bne_eq_false_iff_eq]; omega
    clear hlen
    go_enter Try.func73, Try.ntmps73
    go_wp2_with fail
    go_loopw [5, 13] (fun _ i wr => ∃ k : Nat, k ≤ xs.length ∧ i = .int .i64 k ∧ Hid (Dr w wr) ∧ Hid (xs.take k = ys.take k)) (fun _ i _ => xs.length - (intOf i).toNat)
    case atStart => exact ⟨0, by omega, rfl, Dr.refl w, rfl⟩
    case round =>
      obtain ⟨k, hk, rfl, HD, HEQ⟩ := hrel
      by_cases hlt : k < xs.length
      · obtain ⟨x, hx⟩ := get_some xs k hlt
        obtain ⟨y, hy⟩ := get_some ys k (by have := H2.out; omega)
        obtain ⟨b, o, rfl, hcx⟩ := (HX.out.dr HD.out).get hx
        obtain ⟨b', o', rfl, hcy⟩ := (HY.out.dr HD.out).get hy
        have hlt2 : k < ys.length := by have := H2.out; omega
        have HS := Lib.hid (take_same hx hy HEQ.out)
        have HN := Lib.hid (take_other hx hy)
        clear hx hy HEQ
        simp only [wv] at hcx hcy
        by_cases hxy : x = y
        · have hb : ((x : Int) != (y : Int)) = false := by subst hxy; simp
          have HXY := Lib.hid hxy
          clear hxy HN
          go_wp2_with fail
          go_quiet (fail)
          go_wp2_with fail
          go_roundw
          case rel => exact ⟨k + 1, by omega, by go_num, HD.out.drewN _, HS.out HXY.out⟩
          case measure => simp [intOf]; omega
        · have hb : ((x : Int) != (y : Int)) = true := by rw [bne_iff_ne]; omega
          have HXY := Lib.hid hxy
          clear hxy HS
          go_wp2_with fail
          go_quiet (fail)
          go_wp2_with fail
          go_ret
          exact RetDr.mk (decide_eq_false (HN.out HXY.out)).symm (HD.out.drewN _)
      · have HE : Hid (xs = ys) := by
          have h1 := HEQ.out
          rw [List.take_of_length_le (by omega), List.take_of_length_le (by have := H2.out; omega)] at h1
          exact h1
        go_wp2_with fail
        go_ret
        exact RetDr.mk (decide_eq_true HE.out).symm HD.out
  · have h2 : ((xs.length : Int) != (ys.length : Int)) = true := by rw [bne_iff_ne]; omega
    have HN := Lib.hid (show ¬ xs = ys from fun h => hlen (by rw [h]))
    clear hlen
    go_enter Try.func73, Try.ntmps73
    go_wp2_with fail
    go_ret
    exact RetDr.mk (decide_eq_false HN.out).symm (Dr.refl w)

theorem ans_same (e id n e2 id2 n2 : Int) (more more2 : Bool) (A B I J : Option Addr) (c d ci di : Nat) (xs ys : List UInt8) (us vs : List Nat) (w : World) (hl : xs.length ≤ 281474976710656) (hlu : us.length ≤ 281474976710656) (hx : Rd w A (xs.map bv)) (hy : Rd w B (ys.map bv)) (hu : Rd w I (us.map wv)) (hv : Rd w J (vs.map wv)) :
    Calls Try.prog 28 #[ansV e id n A xs.length c I us.length ci more, ansV e2 id2 n2 B ys.length d J vs.length di more2] w (RetBl (decide (e = e2 ∧ id = id2 ∧ n = n2 ∧ more = more2 ∧ xs = ys ∧ us = vs)) w) := by
  have HX := Lib.hid hx
  have HY := Lib.hid hy
  have HU := Lib.hid hu
  have HV := Lib.hid hv
  clear hx hy hu hv
  by_cases h0 : e = e2
  case neg =>
    have b0 : (e == e2) = false := by simpa using h0
    have HC := Lib.hid (show false = decide (e = e2 ∧ id = id2 ∧ n = n2 ∧ more = more2 ∧ xs = ys ∧ us = vs) by simp [h0])
    clear h0
    go_enter Try.func28, Try.ntmps28
    go_wp2_with fail
    go_ret
    exact RetBl.mk HC.out (((Bl.refl w).alloc _).alloc _)
  by_cases h1 : id = id2
  case neg =>
    have b0 : (e == e2) = true := by simpa using h0
    have b1 : (id == id2) = false := by simpa using h1
    have HC := Lib.hid (show false = decide (e = e2 ∧ id = id2 ∧ n = n2 ∧ more = more2 ∧ xs = ys ∧ us = vs) by simp [h1])
    clear h0 h1
    go_enter Try.func28, Try.ntmps28
    go_wp2_with fail
    go_ret
    exact RetBl.mk HC.out (((Bl.refl w).alloc _).alloc _)
  by_cases h2 : n = n2
  case neg =>
    have b0 : (e == e2) = true := by simpa using h0
    have b1 : (id == id2) = true := by simpa using h1
    have b2 : (n == n2) = false := by simpa using h2
    have HC := Lib.hid (show false = decide (e = e2 ∧ id = id2 ∧ n = n2 ∧ more = more2 ∧ xs = ys ∧ us = vs) by simp [h2])
    clear h0 h1 h2
    go_enter Try.func28, Try.ntmps28
    go_wp2_with fail
    go_ret
    exact RetBl.mk HC.out (((Bl.refl w).alloc _).alloc _)
  by_cases h3 : more = more2
  case neg =>
    have b0 : (e == e2) = true := by simpa using h0
    have b1 : (id == id2) = true := by simpa using h1
    have b2 : (n == n2) = true := by simpa using h2
    have b3 : (more == more2) = false := by simpa using h3
    have HC := Lib.hid (show false = decide (e = e2 ∧ id = id2 ∧ n = n2 ∧ more = more2 ∧ xs = ys ∧ us = vs) by simp [h3])
    clear h0 h1 h2 h3
    go_enter Try.func28, Try.ntmps28
    go_wp2_with fail
    go_ret
    exact RetBl.mk HC.out (((Bl.refl w).alloc _).alloc _)
  have b0 : (e == e2) = true := by simpa using h0
  have b1 : (id == id2) = true := by simpa using h1
  have b2 : (n == n2) = true := by simpa using h2
  have b3 : (more == more2) = true := by simpa using h3
  by_cases h4 : xs = ys
  case neg =>
    have HC := Lib.hid (show false = decide (e = e2 ∧ id = id2 ∧ n = n2 ∧ more = more2 ∧ xs = ys ∧ us = vs) by simp [h4])
    have HQ := Lib.hid (decide_eq_false h4)
    clear h0 h1 h2 h3 h4
    go_enter Try.func28, Try.ntmps28
    go_wp2_with (first | (go_at_call 72; go_must (refine (by_equal A B c d xs ys _ hl (HX.out.bl (((Bl.refl w).alloc _).alloc _)) (HY.out.bl (((Bl.refl w).alloc _).alloc _))).mono ?_); rintro e w1 ⟨rfl, hdr⟩; rw [HQ.out]))
    go_ret
    exact RetBl.mk HC.out ((((Bl.refl w).alloc _).alloc _).trans (hdr.below _))
  have HC := Lib.hid (show decide (us = vs) = decide (e = e2 ∧ id = id2 ∧ n = n2 ∧ more = more2 ∧ xs = ys ∧ us = vs) by simp [h0, h1, h2, h3, h4])
  have HQ := Lib.hid (decide_eq_true h4)
  clear h0 h1 h2 h3 h4
  go_enter Try.func28, Try.ntmps28
  go_wp2_with fail
  refine (by_equal A B c d xs ys _ hl (HX.out.bl (((Bl.refl w).alloc _).alloc _)) (HY.out.bl (((Bl.refl w).alloc _).alloc _))).mono ?_
  rintro e w1 ⟨rfl, n1, rfl⟩
  rw [HQ.out]
  go_wp2_with fail
  refine (sl_equal I J ci di us vs _ hlu (HU.out.bl ((((Bl.refl w).alloc _).alloc _).drewN n1)) (HV.out.bl ((((Bl.refl w).alloc _).alloc _).drewN n1))).mono ?_
  rintro e w2 ⟨rfl, n2, rfl⟩
  go_wp2_with fail
  go_ret
  exact RetBl.mk HC.out ((((Bl.refl w).alloc _).alloc _).drewN (n1 + n2))
theorem ref_ansSame (e id n e2 id2 n2 : Int) (more more2 : Bool) (A B I J : Option Addr) (c d ci di : Nat) (xs ys : List UInt8) (us vs : List Nat) (w : World) (hl : xs.length ≤ 281474976710656) (hlu : us.length ≤ 281474976710656) (hx : Rd w A (xs.map bv)) (hy : Rd w B (ys.map bv)) (hu : Rd w I (us.map wv)) (hv : Rd w J (vs.map wv)) :
    Calls Try.prog 29 #[ansV e id n A xs.length c I us.length ci more, ansV e2 id2 n2 B ys.length d J vs.length di more2] w (RetBl (decide (e = e2 ∧ id = id2 ∧ n = n2 ∧ more = more2 ∧ xs = ys ∧ us = vs)) w) := by
  have HX := Lib.hid hx
  have HY := Lib.hid hy
  have HU := Lib.hid hu
  have HV := Lib.hid hv
  clear hx hy hu hv
  by_cases h0 : e = e2
  case neg =>
    have b0 : (e == e2) = false := by simpa using h0
    have HC := Lib.hid (show false = decide (e = e2 ∧ id = id2 ∧ n = n2 ∧ more = more2 ∧ xs = ys ∧ us = vs) by simp [h0])
    clear h0
    go_enter Try.func29, Try.ntmps29
    go_wp2_with fail
    go_ret
    exact RetBl.mk HC.out (((Bl.refl w).alloc _).alloc _)
  by_cases h1 : id = id2
  case neg =>
    have b0 : (e == e2) = true := by simpa using h0
    have b1 : (id == id2) = false := by simpa using h1
    have HC := Lib.hid (show false = decide (e = e2 ∧ id = id2 ∧ n = n2 ∧ more = more2 ∧ xs = ys ∧ us = vs) by simp [h1])
    clear h0 h1
    go_enter Try.func29, Try.ntmps29
    go_wp2_with fail
    go_ret
    exact RetBl.mk HC.out (((Bl.refl w).alloc _).alloc _)
  by_cases h2 : n = n2
  case neg =>
    have b0 : (e == e2) = true := by simpa using h0
    have b1 : (id == id2) = true := by simpa using h1
    have b2 : (n == n2) = false := by simpa using h2
    have HC := Lib.hid (show false = decide (e = e2 ∧ id = id2 ∧ n = n2 ∧ more = more2 ∧ xs = ys ∧ us = vs) by simp [h2])
    clear h0 h1 h2
    go_enter Try.func29, Try.ntmps29
    go_wp2_with fail
    go_ret
    exact RetBl.mk HC.out (((Bl.refl w).alloc _).alloc _)
  by_cases h3 : more = more2
  case neg =>
    have b0 : (e == e2) = true := by simpa using h0
    have b1 : (id == id2) = true := by simpa using h1
    have b2 : (n == n2) = true := by simpa using h2
    have b3 : (more == more2) = false := by simpa using h3
    have HC := Lib.hid (show false = decide (e = e2 ∧ id = id2 ∧ n = n2 ∧ more = more2 ∧ xs = ys ∧ us = vs) by simp [h3])
    clear h0 h1 h2 h3
    go_enter Try.func29, Try.ntmps29
    go_wp2_with fail
    go_ret
    exact RetBl.mk HC.out (((Bl.refl w).alloc _).alloc _)
  have b0 : (e == e2) = true := by simpa using h0
  have b1 : (id == id2) = true := by simpa using h1
  have b2 : (n == n2) = true := by simpa using h2
  have b3 : (more == more2) = true := by simpa using h3
  by_cases h4 : xs = ys
  case neg =>
    have HC := Lib.hid (show false = decide (e = e2 ∧ id = id2 ∧ n = n2 ∧ more = more2 ∧ xs = ys ∧ us = vs) by simp [h4])
    have HQ := Lib.hid (decide_eq_false h4)
    clear h0 h1 h2 h3 h4
    go_enter Try.func29, Try.ntmps29
    go_wp2_with (first | (go_at_call 19; go_must (refine (same_calls A B c d xs ys _ hl (HX.out.bl (((Bl.refl w).alloc _).alloc _)) (HY.out.bl (((Bl.refl w).alloc _).alloc _))).mono ?_); rintro e w1 ⟨rfl, hdr⟩; rw [HQ.out]))
    go_ret
    exact RetBl.mk HC.out ((((Bl.refl w).alloc _).alloc _).trans (hdr.below _))
  have HC := Lib.hid (show decide (us = vs) = decide (e = e2 ∧ id = id2 ∧ n = n2 ∧ more = more2 ∧ xs = ys ∧ us = vs) by simp [h0, h1, h2, h3, h4])
  have HQ := Lib.hid (decide_eq_true h4)
  clear h0 h1 h2 h3 h4
  go_enter Try.func29, Try.ntmps29
  go_wp2_with fail
  refine (same_calls A B c d xs ys _ hl (HX.out.bl (((Bl.refl w).alloc _).alloc _)) (HY.out.bl (((Bl.refl w).alloc _).alloc _))).mono ?_
  rintro e w1 ⟨rfl, n1, rfl⟩
  rw [HQ.out]
  go_wp2_with fail
  refine (words_calls I J ci di us vs _ hlu (HU.out.bl ((((Bl.refl w).alloc _).alloc _).drewN n1)) (HV.out.bl ((((Bl.refl w).alloc _).alloc _).drewN n1))).mono ?_
  rintro e w2 ⟨rfl, n2, rfl⟩
  go_wp2_with fail
  go_ret
  exact RetBl.mk HC.out ((((Bl.refl w).alloc _).alloc _).drewN (n1 + n2))
end Go.Proofs.Ytedmamchfgkkfaa
