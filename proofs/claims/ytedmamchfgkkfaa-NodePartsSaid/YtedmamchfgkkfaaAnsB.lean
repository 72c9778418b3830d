/- Layer 22 (deed) walked: slices.Grow and slices.Concat of rows of bytes. -/
import Derived.Test.YtedmamchfgkkfaaAnsA
import Derived.Test.YtedmamchfgkkfaaLib6
import Derived.Test.YtedmamchfgkkfaaRefLebB
namespace Go.Proofs.Ytedmamchfgkkfaa
open Go.RowKit
set_option maxRecDepth 100000
set_option maxHeartbeats 2000000

def RetOwn0 (w : World) (e : Ending) (w' : World) : Prop := ∃ v, e = .returned v ∧ App w' w.heap.size 5 1 v 0 [] ∧ Bl w w'
theorem grow_bytes (n : Nat) (w : World) (hn : n ≤ 281474976710656) :
    Calls Try.prog 96 #[.slice none 0 0, .int .i64 n] w (RetOwn0 w) := by
  rcases Nat.eq_zero_or_pos n with rfl | h0
  · go_enter Try.func96, Try.ntmps96
    go_wp2_with fail
    go_ret
    exact ⟨_, rfl, App.nil _ _ _ _, Bl.refl w⟩
  · go_enter Try.func96, Try.ntmps96
    go_wp2_with (first
      | (at_builtin; go_must (refine append_zeros rfl _ _ 24 3 5 (.int .u8 0) 1 1 rfl Try.underlying24 Try.underlying3 Try.infoU8 rfl (by decide) w.heap.size n h0 (by rfl) (by rfl) (by omega) (by omega) (Nat.le_refl _) ?_); intro w1 cap cs hown hbl hcap))
    go_ret
    exact ⟨_, rfl, by simpa using hown.cut 0 cap (Nat.zero_le _) (Nat.le_refl _) (Nat.zero_le _), hbl⟩

/-- A row of bytes as it lies in memory: where, its bytes, its room. -/
abbrev BRow := Option Addr × List UInt8 × Nat
def brv (r : BRow) : Value := .slice r.1 r.2.1.length r.2.2
def bsum (rs : List BRow) : List UInt8 := rs.flatMap (·.2.1)
theorem bsum_snoc (rs : List BRow) (r : BRow) : bsum (rs ++ [r]) = bsum rs ++ r.2.1 := by simp [bsum]
theorem bsum_take (rs : List BRow) (k : Nat) (r : BRow) (h : rs[k]? = some r) : bsum (rs.take (k + 1)) = bsum (rs.take k) ++ r.2.1 := by rw [List.take_add_one, h]; exact bsum_snoc _ _
theorem bsum_le (rs : List BRow) (k : Nat) : (bsum (rs.take k)).length ≤ (bsum rs).length := by
  have : bsum rs = bsum (rs.take k) ++ bsum (rs.drop k) := by unfold bsum; rw [← List.flatMap_append, List.take_append_drop]
  rw [this, List.length_append]; omega
theorem concat_rows (G : Option Addr) (c : Nat) (rs : List BRow) (w : World) (hk : rs.length ≤ 1000) (hs : (bsum rs).length ≤ 140737488355328) (hg : Rd w G (rs.map brv)) (hr : ∀ r ∈ rs, Rd w r.1 (r.2.1.map bv)) :
    Calls Try.prog 68 #[.slice G rs.length c] w (RetBytes (bsum rs) w) := by
  have HG := Lib.hid hg
  have HR := Lib.hid hr
  have HS := Lib.hid hs
  clear hg hr hs
  go_enter Try.func68, Try.ntmps68
  go_wp2_with fail
  go_loopw [3, 5, 11] (fun s _ i wr => ∃ k : Nat, k ≤ rs.length ∧ i = .int .i64 k ∧ s = .int .i64 ((bsum (rs.take k)).length : Nat) ∧ wr = w) (fun _ _ i _ => rs.length - (intOf i).toNat)
  case atStart => exact ⟨0, by omega, rfl, by simp [bsum], rfl⟩
  case round =>
    obtain ⟨k, hk2, rfl, rfl, hwr⟩ := hrel
    have hwr2 := hwr.symm
    clear hwr
    subst hwr2
    by_cases hlt : k < rs.length
    · obtain ⟨r, hr⟩ := get_some rs k hlt
      obtain ⟨b, o, rfl, hc⟩ := HG.out.get hr
      have HT := Lib.hid (bsum_take rs k r hr)
      have hle := bsum_le rs (k + 1)
      rw [HT.out, List.length_append] at hle
      have hs0 := HS.out
      clear hr
      simp only [brv] at hc
      go_wp2_with fail
      go_roundw
      case rel => exact ⟨k + 1, by omega, by go_num, by rw [HT.out, List.length_append]; go_num, trivial⟩
      case measure => simp [intOf]; omega
    · obtain rfl : k = rs.length := by omega
      rw [List.take_length]
      have hs0 := HS.out
      go_wp2_with fail
      refine (grow_bytes (bsum rs).length _ (by omega)).mono ?_
      rintro e w1 ⟨v1, rfl, hown1, hbl1⟩
      have HB1 := Lib.hid hbl1
      clear hbl1
      go_wp2_with fail
      go_loopw [6, 8, 27] (fun out _ i wq => ∃ k : Nat, k ≤ rs.length ∧ i = .int .i64 k ∧ App wq w.heap.size 5 1 out (bsum (rs.take k)).length ((bsum (rs.take k)).map bv) ∧ Hid (Bl w wq)) (fun _ _ i _ => rs.length - (intOf i).toNat)
      case atStart => exact ⟨0, by omega, rfl, by simpa [bsum] using hown1, HB1.out⟩
      case round =>
        obtain ⟨k, hk2, rfl, hown, HB⟩ := hrel
        by_cases hlt : k < rs.length
        · obtain ⟨r, hr⟩ := get_some rs k hlt
          obtain ⟨b, o, rfl, hc⟩ := (HG.out.bl HB.out).get hr
          have HT := Lib.hid (bsum_take rs k r hr)
          have hle := bsum_le rs (k + 1)
          rw [HT.out, List.length_append] at hle
          have HRR := Lib.hid ((HR.out r (List.mem_of_getElem? hr)).bl HB.out)
          have hsz := HB.out.size
          clear hr
          simp only [brv] at hc
          go_wp2_with (at_builtin; go_must (refine append_row rfl _ _ 24 5 (.int .u8 0) 1 1 rfl Try.underlying24 Try.infoU8 rfl (by decide) w.heap.size hown (by rfl) (by rfl) HRR.out (by simp) (bv_one _) (by omega) (by omega) hsz ?_); intro v5 w5 hown5 hgr5 hat5)
          go_roundw
          case rel => exact ⟨k + 1, by omega, by go_num, by rw [HT.out, List.length_append, List.map_append]; exact hown5, HB.out.grown hgr5 (fun q hq => hown.ge q hq)⟩
          case measure => simp [intOf]; omega
        · obtain rfl : k = rs.length := by omega
          rw [List.take_length] at hown
          go_wp2_with fail
          go_ret
          exact RetBytes.mk hown HB.out
end Go.Proofs.Ytedmamchfgkkfaa
