/- What the references share (stookref00) walked: Same, Ints, Words, Texts. -/
import Derived.Test.YtedmamchfgkkfaaLebB
namespace Go.Proofs.Ytedmamchfgkkfaa
open Go.RowKit
set_option maxRecDepth 100000
set_option maxHeartbeats 1000000

def RetDr (b : Bool) (w : World) (e : Ending) (w' : World) : Prop := e = .returned (.bool b) ∧ Dr w w'
theorem RetDr.mk {b b' : Bool} {w w' : World} (h : b' = b) (hw : Dr w w') : RetDr b w (.returned (.bool b')) w' := ⟨by rw [h], hw⟩
theorem take_same {α : Type} {xs ys : List α} {k : Nat} {x y : α} (hx : xs[k]? = some x) (hy : ys[k]? = some y) (h : xs.take k = ys.take k) (e : x = y) : xs.take (k + 1) = ys.take (k + 1) := by
  rw [List.take_add_one, List.take_add_one, hx, hy, h, e]
theorem take_other {α : Type} {xs ys : List α} {k : Nat} {x y : α} (hx : xs[k]? = some x) (hy : ys[k]? = some y) (h : ¬ x = y) : ¬ xs = ys := by
  intro e
  rw [e, hy] at hx
  exact h (Option.some.inj hx).symm

theorem same_calls (A B : Option Addr) (c d : Nat) (xs ys : List UInt8) (w : World) (hl : xs.length ≤ 281474976710656) (hx : Rd w A (xs.map bv)) (hy : Rd w B (ys.map bv)) :
    Calls Try.prog 19 #[.slice A xs.length c, .slice B ys.length d] w (RetDr (decide (xs = ys)) w) := by
  have HX := Lib.hid hx
  have HY := Lib.hid hy
  clear hx hy
  by_cases hlen : xs.length = ys.length
  · have H2 := Lib.hid hlen
    have h2 : ((xs.length : Int) != (ys.length : Int)) = false := by rw [bne_eq_false_iff_eq]; omega
    clear hlen
    go_enter Try.func19, Try.ntmps19
    go_wp2_with fail
    go_loopw [5] (fun i wr => ∃ k : Nat, k ≤ xs.length ∧ i = .int .i64 k ∧ Hid (Dr w wr) ∧ Hid (xs.take k = ys.take k)) (fun i _ => xs.length - (intOf i).toNat)
    case atStart => exact ⟨0, by omega, rfl, Dr.refl w, rfl⟩
    case round =>
      obtain ⟨k, hk, rfl, HD, HEQ⟩ := hrel
      by_cases hlt : k < xs.length
      · obtain ⟨x, hx⟩ := get_some xs k hlt
        obtain ⟨y, hy⟩ := get_some ys k (by have := H2.out; omega)
        obtain ⟨b, o, rfl, hcx⟩ := (HX.out.dr HD.out).get hx
        obtain ⟨b', o', rfl, hcy⟩ := (HY.out.dr HD.out).get hy
        have hlt2 : k < ys.length := by have := H2.out; omega
        have HS := Lib.hid (take_same hx hy HEQ.out)
        have HN := Lib.hid (take_other hx hy)
        clear hx hy HEQ
        simp only [bv] at hcx hcy
        by_cases hxy : x = y
        · have hb : ((x.toNat : Int) != (y.toNat : Int)) = false := by subst hxy; simp
          have HXY := Lib.hid hxy
          clear hxy HN
          go_wp2_with fail
          go_quiet (fail)
          go_wp2_with fail
          go_roundw
          case rel => exact ⟨k + 1, by omega, by go_num, HD.out.drewN _, HS.out HXY.out⟩
          case measure => simp [intOf]; omega
        · have hb : ((x.toNat : Int) != (y.toNat : Int)) = true := by rw [bne_iff_ne]; intro e; exact hxy (UInt8.toNat_inj.1 (by omega))
          have HXY := Lib.hid hxy
          clear hxy HS
          go_wp2_with fail
          go_quiet (fail)
          go_wp2_with fail
          go_ret
          exact RetDr.mk (decide_eq_false (HN.out HXY.out)).symm (HD.out.drewN _)
      · have HE : Hid (xs = ys) := by
          have h1 := HEQ.out
          rw [List.take_of_length_le (by omega), List.take_of_length_le (by have := H2.out; omega)] at h1
          exact h1
        go_wp2_with fail
        go_ret
        exact RetDr.mk (decide_eq_true HE.out).symm HD.out
  · have h2 : ((xs.length : Int) != (ys.length : Int)) = true := by rw [bne_iff_ne]; omega
    have HN := Lib.hid (show ¬ xs = ys from fun h => hlen (by rw [h]))
    clear hlen
    go_enter Try.func19, Try.ntmps19
    go_wp2_with fail
    go_ret
    exact RetDr.mk (decide_eq_false HN.out).symm (Dr.refl w)

theorem ints_calls (A B : Option Addr) (c d : Nat) (xs ys : List Int) (w : World) (hl : xs.length ≤ 281474976710656) (hx : Rd w A (xs.map iv)) (hy : Rd w B (ys.map iv)) :
    Calls Try.prog 86 #[.slice A xs.length c, .slice B ys.length d] w (RetDr (decide (xs = ys)) w) := by
  have HX := Lib.hid hx
  have HY := Lib.hid hy
  clear hx hy
  by_cases hlen : xs.length = ys.length
  · have H2 := Lib.hid hlen
    have h2 : ((xs.length : Int) != (ys.length : Int)) = false := by rw [bne_eq_false_iff_eq]; omega
    clear hlen
    go_enter Try.func86, Try.ntmps86
    go_wp2_with fail
    go_loopw [5] (fun i wr => ∃ k : Nat, k ≤ xs.length ∧ i = .int .i64 k ∧ Hid (Dr w wr) ∧ Hid (xs.take k = ys.take k)) (fun i _ => xs.length - (intOf i).toNat)
    case atStart => exact ⟨0, by omega, rfl, Dr.refl w, rfl⟩
    case round =>
      obtain ⟨k, hk, rfl, HD, HEQ⟩ := hrel
      by_cases hlt : k < xs.length
      · obtain ⟨x, hx⟩ := get_some xs k hlt
        obtain ⟨y, hy⟩ := get_some ys k (by have := H2.out; omega)
        obtain ⟨b, o, rfl, hcx⟩ := (HX.out.dr HD.out).get hx
        obtain ⟨b', o', rfl, hcy⟩ := (HY.out.dr HD.out).get hy
        have hlt2 : k < ys.length := by have := H2.out; omega
        have HS := Lib.hid (take_same hx hy HEQ.out)
        have HN := Lib.hid (take_other hx hy)
        clear hx hy HEQ
        simp only [iv] at hcx hcy
        by_cases hxy : x = y
        · have hb : (x != y) = false := by subst hxy; simp
          have HXY := Lib.hid hxy
          clear hxy HN
          go_wp2_with fail
          go_quiet (fail)
          go_wp2_with fail
          go_roundw
          case rel => exact ⟨k + 1, by omega, by go_num, HD.out.drewN _, HS.out HXY.out⟩
          case measure => simp [intOf]; omega
        · have hb : (x != y) = true := by rw [bne_iff_ne]; exact hxy
          have HXY := Lib.hid hxy
          clear hxy HS
          go_wp2_with fail
          go_quiet (fail)
          go_wp2_with fail
          go_ret
          exact RetDr.mk (decide_eq_false (HN.out HXY.out)).symm (HD.out.drewN _)
      · have HE : Hid (xs = ys) := by
          have h1 := HEQ.out
          rw [List.take_of_length_le (by omega), List.take_of_length_le (by have := H2.out; omega)] at h1
          exact h1
        go_wp2_with fail
        go_ret
        exact RetDr.mk (decide_eq_true HE.out).symm HD.out
  · have h2 : ((xs.length : Int) != (ys.length : Int)) = true := by rw [bne_iff_ne]; omega
    have HN := Lib.hid (show ¬ xs = ys from fun h => hlen (by rw [h]))
    clear hlen
    go_enter Try.func86, Try.ntmps86
    go_wp2_with fail
    go_ret
    exact RetDr.mk (decide_eq_false HN.out).symm (Dr.refl w)

theorem words_calls (A B : Option Addr) (c d : Nat) (xs ys : List Nat) (w : World) (hl : xs.length ≤ 281474976710656) (hx : Rd w A (xs.map wv)) (hy : Rd w B (ys.map wv)) :
    Calls Try.prog 74 #[.slice A xs.length c, .slice B ys.length d] w (RetDr (decide (xs = ys)) w) := by
  have HX := Lib.hid hx
  have HY := Lib.hid hy
  clear hx hy
  by_cases hlen : xs.length = ys.length
  · have H2 := Lib.hid hlen
    have h2 : ((xs.length : Int) != (ys.length : Int)) = false := by rw [bne_eq_false_iff_eq]; omega
    clear hlen
    go_enter Try.func74, Try.ntmps74
    go_wp2_with fail
    go_loopw [5] (fun i wr => ∃ k : Nat, k ≤ xs.length ∧ i = .int .i64 k ∧ Hid (Dr w wr) ∧ Hid (xs.take k = ys.take k)) (fun i _ => xs.length - (intOf i).toNat)
    case atStart => exact ⟨0, by omega, rfl, Dr.refl w, rfl⟩
    case round =>
      obtain ⟨k, hk, rfl, HD, HEQ⟩ := hrel
      by_cases hlt : k < xs.length
      · obtain ⟨x, hx⟩ := get_some xs k hlt
        obtain ⟨y, hy⟩ := get_some ys k (by have := H2.out; omega)
        obtain ⟨b, o, rfl, hcx⟩ := (HX.out.dr HD.out).get hx
        obtain ⟨b', o', rfl, hcy⟩ := (HY.out.dr HD.out).get hy
        have hlt2 : k < ys.length := by have := H2.out; omega
        have HS := Lib.hid (take_same hx hy HEQ.out)
        have HN := Lib.hid (take_other hx hy)
        clear hx hy HEQ
        simp only [wv] at hcx hcy
        by_cases hxy : x = y
        · have hb : ((x : Int) != (y : Int)) = false := by subst hxy; simp
          have HXY := Lib.hid hxy
          clear hxy HN
          go_wp2_with fail
          go_quiet (fail)
          go_wp2_with fail
          go_roundw
          case rel => exact ⟨k + 1, by omega, by go_num, HD.out.drewN _, HS.out HXY.out⟩
          case measure => simp [intOf]; omega
        · have hb : ((x : Int) != (y : Int)) = true := by rw [bne_iff_ne]; omega
          have HXY := Lib.hid hxy
          clear hxy HS
          go_wp2_with fail
          go_quiet (fail)
          go_wp2_with fail
          go_ret
          exact RetDr.mk (decide_eq_false (HN.out HXY.out)).symm (HD.out.drewN _)
      · have HE : Hid (xs = ys) := by
          have h1 := HEQ.out
          rw [List.take_of_length_le (by omega), List.take_of_length_le (by have := H2.out; omega)] at h1
          exact h1
        go_wp2_with fail
        go_ret
        exact RetDr.mk (decide_eq_true HE.out).symm HD.out
  · have h2 : ((xs.length : Int) != (ys.length : Int)) = true := by rw [bne_iff_ne]; omega
    have HN := Lib.hid (show ¬ xs = ys from fun h => hlen (by rw [h]))
    clear hlen
    go_enter Try.func74, Try.ntmps74
    go_wp2_with fail
    go_ret
    exact RetDr.mk (decide_eq_false HN.out).symm (Dr.refl w)

theorem texts_calls (A B : Option Addr) (c d : Nat) (xs ys : List ByteArray) (w : World) (hl : xs.length ≤ 281474976710656) (hx : Rd w A (xs.map sv)) (hy : Rd w B (ys.map sv)) :
    Calls Try.prog 85 #[.slice A xs.length c, .slice B ys.length d] w (RetDr (decide (xs = ys)) w) := by
  have HX := Lib.hid hx
  have HY := Lib.hid hy
  clear hx hy
  by_cases hlen : xs.length = ys.length
  · have H2 := Lib.hid hlen
    have h2 : ((xs.length : Int) != (ys.length : Int)) = false := by rw [bne_eq_false_iff_eq]; omega
    clear hlen
    go_enter Try.func85, Try.ntmps85
    go_wp2_with fail
    go_loopw [5] (fun i wr => ∃ k : Nat, k ≤ xs.length ∧ i = .int .i64 k ∧ Hid (Dr w wr) ∧ Hid (xs.take k = ys.take k)) (fun i _ => xs.length - (intOf i).toNat)
    case atStart => exact ⟨0, by omega, rfl, Dr.refl w, rfl⟩
    case round =>
      obtain ⟨k, hk, rfl, HD, HEQ⟩ := hrel
      by_cases hlt : k < xs.length
      · obtain ⟨x, hx⟩ := get_some xs k hlt
        obtain ⟨y, hy⟩ := get_some ys k (by have := H2.out; omega)
        obtain ⟨b, o, rfl, hcx⟩ := (HX.out.dr HD.out).get hx
        obtain ⟨b', o', rfl, hcy⟩ := (HY.out.dr HD.out).get hy
        have hlt2 : k < ys.length := by have := H2.out; omega
        have HS := Lib.hid (take_same hx hy HEQ.out)
        have HN := Lib.hid (take_other hx hy)
        clear hx hy HEQ
        simp only [sv] at hcx hcy
        by_cases hxy : x = y
        · have hb : (!x.toList == y.toList) = false := by subst hxy; simp
          have HXY := Lib.hid hxy
          clear hxy HN
          go_wp2_with fail
          go_quiet (fail)
          go_wp2_with fail
          go_roundw
          case rel => exact ⟨k + 1, by omega, by go_num, HD.out.drewN _, HS.out HXY.out⟩
          case measure => simp [intOf]; omega
        · have hb : (!x.toList == y.toList) = true := by simp only [Bool.not_eq_true', beq_eq_false_iff_ne]; exact fun e => hxy (str_inj e)
          have HXY := Lib.hid hxy
          clear hxy HS
          go_wp2_with fail
          go_quiet (fail)
          go_wp2_with fail
          go_ret
          exact RetDr.mk (decide_eq_false (HN.out HXY.out)).symm (HD.out.drewN _)
      · have HE : Hid (xs = ys) := by
          have h1 := HEQ.out
          rw [List.take_of_length_le (by omega), List.take_of_length_le (by have := H2.out; omega)] at h1
          exact h1
        go_wp2_with fail
        go_ret
        exact RetDr.mk (decide_eq_true HE.out).symm HD.out
  · have h2 : ((xs.length : Int) != (ys.length : Int)) = true := by rw [bne_iff_ne]; omega
    have HN := Lib.hid (show ¬ xs = ys from fun h => hlen (by rw [h]))
    clear hlen
    go_enter Try.func85, Try.ntmps85
    go_wp2_with fail
    go_ret
    exact RetDr.mk (decide_eq_false HN.out).symm (Dr.refl w)
end Go.Proofs.Ytedmamchfgkkfaa
