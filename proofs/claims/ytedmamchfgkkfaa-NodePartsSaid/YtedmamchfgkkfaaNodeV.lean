/- Layer 18 (node) walked: slices.Clone, Grow and Concat of rows of texts and of ints (printed by gen_concat.py). -/
import Derived.Test.YtedmamchfgkkfaaNodeT
import Derived.Test.YtedmamchfgkkfaaNodeS
import Derived.Test.YtedmamchfgkkfaaAnsB
set_option linter.unusedVariables false
set_option linter.unusedSimpArgs false
namespace Go.Proofs.Ytedmamchfgkkfaa
open Go.RowKit
set_option maxRecDepth 100000
set_option maxHeartbeats 2000000

def RetI (xs : List Int) (w : World) (e : Ending) (w' : World) : Prop :=
  ∃ v, e = .returned v ∧ App w' w.heap.size 3 1 v xs.length (xs.map iv) ∧ Bl w w'
theorem RetI.mk {xs : List Int} {w w' : World} {v : Value} (h : App w' w.heap.size 3 1 v xs.length (xs.map iv)) (hb : Bl w w') : RetI xs w (.returned v) w' := ⟨v, rfl, h, hb⟩
def RetOwn0I (w : World) (e : Ending) (w' : World) : Prop := ∃ v, e = .returned v ∧ App w' w.heap.size 3 1 v 0 [] ∧ Bl w w'
theorem grow_I (n : Nat) (w : World) (hn : n ≤ 8796093022208) :
    Calls Try.prog 98 #[.slice none 0 0, .int .i64 n] w (RetOwn0I w) := by
  rcases Nat.eq_zero_or_pos n with rfl | h0
  · go_enter Try.func98, Try.ntmps98
    go_wp2_with fail
    go_ret
    exact ⟨_, rfl, App.nil _ _ _ _, Bl.refl w⟩
  · go_enter Try.func98, Try.ntmps98
    go_wp2_with (first
      | (at_builtin; go_must (refine append_zeros rfl _ _ 50 3 3 (.int .i64 0) 1 8 rfl Try.underlying50 Try.underlying3 Try.infoInt rfl (by decide) w.heap.size n h0 (by rfl) (by rfl) (by omega) (by omega) (Nat.le_refl _) ?_); intro w1 cap cs hown hbl hcap))
    go_ret
    exact ⟨_, rfl, by simpa using hown.cut 0 cap (Nat.zero_le _) (Nat.le_refl _) (Nat.zero_le _), hbl⟩

/-- A row of bytes as it lies in memory: where, its bytes, its room. -/
abbrev RowI := Option Addr × List Int × Nat
def rowvI (r : RowI) : Value := .slice r.1 r.2.1.length r.2.2
def sumI (rs : List RowI) : List Int := rs.flatMap (·.2.1)
theorem sumI_snoc (rs : List RowI) (r : RowI) : sumI (rs ++ [r]) = sumI rs ++ r.2.1 := by simp [sumI]
theorem sumI_take (rs : List RowI) (k : Nat) (r : RowI) (h : rs[k]? = some r) : sumI (rs.take (k + 1)) = sumI (rs.take k) ++ r.2.1 := by rw [List.take_add_one, h]; exact sumI_snoc _ _
theorem sumI_le (rs : List RowI) (k : Nat) : (sumI (rs.take k)).length ≤ (sumI rs).length := by
  have : sumI rs = sumI (rs.take k) ++ sumI (rs.drop k) := by unfold sumI; rw [← List.flatMap_append, List.take_append_drop]
  rw [this, List.length_append]; omega
theorem concat_I (G : Option Addr) (c : Nat) (rs : List RowI) (w : World) (hk : rs.length ≤ 1000) (hs : (sumI rs).length ≤ 8796093022208) (hg : Rd w G (rs.map rowvI)) (hr : ∀ r ∈ rs, Rd w r.1 (r.2.1.map iv)) :
    Calls Try.prog 91 #[.slice G rs.length c] w (RetI (sumI rs) w) := by
  have HG := Lib.hid hg
  have HR := Lib.hid hr
  have HS := Lib.hid hs
  clear hg hr hs
  go_enter Try.func91, Try.ntmps91
  go_wp2_with fail
  go_loopw [3, 5, 11] (fun s _ i wr => ∃ k : Nat, k ≤ rs.length ∧ i = .int .i64 k ∧ s = .int .i64 ((sumI (rs.take k)).length : Nat) ∧ wr = w) (fun _ _ i _ => rs.length - (intOf i).toNat)
  case atStart => exact ⟨0, by omega, rfl, by simp [sumI], rfl⟩
  case round =>
    obtain ⟨k, hk2, rfl, rfl, hwr⟩ := hrel
    have hwr2 := hwr.symm
    clear hwr
    subst hwr2
    by_cases hlt : k < rs.length
    · obtain ⟨r, hr⟩ := get_some rs k hlt
      obtain ⟨b, o, rfl, hc⟩ := HG.out.get hr
      have HT := Lib.hid (sumI_take rs k r hr)
      have hle := sumI_le rs (k + 1)
      rw [HT.out, List.length_append] at hle
      have hs0 := HS.out
      clear hr
      simp only [rowvI] at hc
      go_wp2_with fail
      go_roundw
      case rel => exact ⟨k + 1, by omega, by go_num, by rw [HT.out, List.length_append]; go_num, trivial⟩
      case measure => simp [intOf]; omega
    · obtain rfl : k = rs.length := by omega
      rw [List.take_length]
      have hs0 := HS.out
      go_wp2_with fail
      refine (grow_I (sumI rs).length _ (by omega)).mono ?_
      rintro e w1 ⟨v1, rfl, hown1, hbl1⟩
      have HB1 := Lib.hid hbl1
      clear hbl1
      go_wp2_with fail
      go_loopw [6, 8, 27] (fun out _ i wq => ∃ k : Nat, k ≤ rs.length ∧ i = .int .i64 k ∧ App wq w.heap.size 3 1 out (sumI (rs.take k)).length ((sumI (rs.take k)).map iv) ∧ Hid (Bl w wq)) (fun _ _ i _ => rs.length - (intOf i).toNat)
      case atStart => exact ⟨0, by omega, rfl, by simpa [sumI] using hown1, HB1.out⟩
      case round =>
        obtain ⟨k, hk2, rfl, hown, HB⟩ := hrel
        by_cases hlt : k < rs.length
        · obtain ⟨r, hr⟩ := get_some rs k hlt
          obtain ⟨b, o, rfl, hc⟩ := (HG.out.bl HB.out).get hr
          have HT := Lib.hid (sumI_take rs k r hr)
          have hle := sumI_le rs (k + 1)
          rw [HT.out, List.length_append] at hle
          have HRR := Lib.hid ((HR.out r (List.mem_of_getElem? hr)).bl HB.out)
          have hsz := HB.out.size
          clear hr
          simp only [rowvI] at hc
          go_wp2_with (at_builtin; go_must (refine append_row rfl _ _ 50 3 (.int .i64 0) 1 8 rfl Try.underlying50 Try.infoInt rfl (by decide) w.heap.size hown (by rfl) (by rfl) HRR.out (by simp) (iv_one _) (by omega) (by omega) hsz ?_); intro v5 w5 hown5 hgr5 hat5)
          go_roundw
          case rel => exact ⟨k + 1, by omega, by go_num, by rw [HT.out, List.length_append, List.map_append]; exact hown5, HB.out.grown hgr5 (fun q hq => hown.ge q hq)⟩
          case measure => simp [intOf]; omega
        · obtain rfl : k = rs.length := by omega
          rw [List.take_length] at hown
          go_wp2_with fail
          go_ret
          exact RetI.mk hown HB.out
def RetS (xs : List ByteArray) (w : World) (e : Ending) (w' : World) : Prop :=
  ∃ v, e = .returned v ∧ App w' w.heap.size 9 1 v xs.length (xs.map sv) ∧ Bl w w'
theorem RetS.mk {xs : List ByteArray} {w w' : World} {v : Value} (h : App w' w.heap.size 9 1 v xs.length (xs.map sv)) (hb : Bl w w') : RetS xs w (.returned v) w' := ⟨v, rfl, h, hb⟩
def RetOwn0S (w : World) (e : Ending) (w' : World) : Prop := ∃ v, e = .returned v ∧ App w' w.heap.size 9 1 v 0 [] ∧ Bl w w'
theorem grow_S (n : Nat) (w : World) (hn : n ≤ 8796093022208) :
    Calls Try.prog 99 #[.slice none 0 0, .int .i64 n] w (RetOwn0S w) := by
  rcases Nat.eq_zero_or_pos n with rfl | h0
  · go_enter Try.func99, Try.ntmps99
    go_wp2_with fail
    go_ret
    exact ⟨_, rfl, App.nil _ _ _ _, Bl.refl w⟩
  · go_enter Try.func99, Try.ntmps99
    go_wp2_with (first
      | (at_builtin; go_must (refine append_zeros rfl _ _ 49 3 9 (.string .empty) 1 16 rfl Try.underlying49 Try.underlying3 Try.infoStr rfl (by decide) w.heap.size n h0 (by rfl) (by rfl) (by omega) (by omega) (Nat.le_refl _) ?_); intro w1 cap cs hown hbl hcap))
    go_ret
    exact ⟨_, rfl, by simpa using hown.cut 0 cap (Nat.zero_le _) (Nat.le_refl _) (Nat.zero_le _), hbl⟩

/-- A row of bytes as it lies in memory: where, its bytes, its room. -/
abbrev RowS := Option Addr × List ByteArray × Nat
def rowvS (r : RowS) : Value := .slice r.1 r.2.1.length r.2.2
def sumS (rs : List RowS) : List ByteArray := rs.flatMap (·.2.1)
theorem sumS_snoc (rs : List RowS) (r : RowS) : sumS (rs ++ [r]) = sumS rs ++ r.2.1 := by simp [sumS]
theorem sumS_take (rs : List RowS) (k : Nat) (r : RowS) (h : rs[k]? = some r) : sumS (rs.take (k + 1)) = sumS (rs.take k) ++ r.2.1 := by rw [List.take_add_one, h]; exact sumS_snoc _ _
theorem sumS_le (rs : List RowS) (k : Nat) : (sumS (rs.take k)).length ≤ (sumS rs).length := by
  have : sumS rs = sumS (rs.take k) ++ sumS (rs.drop k) := by unfold sumS; rw [← List.flatMap_append, List.take_append_drop]
  rw [this, List.length_append]; omega
theorem concat_S (G : Option Addr) (c : Nat) (rs : List RowS) (w : World) (hk : rs.length ≤ 1000) (hs : (sumS rs).length ≤ 8796093022208) (hg : Rd w G (rs.map rowvS)) (hr : ∀ r ∈ rs, Rd w r.1 (r.2.1.map sv)) :
    Calls Try.prog 92 #[.slice G rs.length c] w (RetS (sumS rs) w) := by
  have HG := Lib.hid hg
  have HR := Lib.hid hr
  have HS := Lib.hid hs
  clear hg hr hs
  go_enter Try.func92, Try.ntmps92
  go_wp2_with fail
  go_loopw [3, 5, 11] (fun s _ i wr => ∃ k : Nat, k ≤ rs.length ∧ i = .int .i64 k ∧ s = .int .i64 ((sumS (rs.take k)).length : Nat) ∧ wr = w) (fun _ _ i _ => rs.length - (intOf i).toNat)
  case atStart => exact ⟨0, by omega, rfl, by simp [sumS], rfl⟩
  case round =>
    obtain ⟨k, hk2, rfl, rfl, hwr⟩ := hrel
    have hwr2 := hwr.symm
    clear hwr
    subst hwr2
    by_cases hlt : k < rs.length
    · obtain ⟨r, hr⟩ := get_some rs k hlt
      obtain ⟨b, o, rfl, hc⟩ := HG.out.get hr
      have HT := Lib.hid (sumS_take rs k r hr)
      have hle := sumS_le rs (k + 1)
      rw [HT.out, List.length_append] at hle
      have hs0 := HS.out
      clear hr
      simp only [rowvS] at hc
      go_wp2_with fail
      go_roundw
      case rel => exact ⟨k + 1, by omega, by go_num, by rw [HT.out, List.length_append]; go_num, trivial⟩
      case measure => simp [intOf]; omega
    · obtain rfl : k = rs.length := by omega
      rw [List.take_length]
      have hs0 := HS.out
      go_wp2_with fail
      refine (grow_S (sumS rs).length _ (by omega)).mono ?_
      rintro e w1 ⟨v1, rfl, hown1, hbl1⟩
      have HB1 := Lib.hid hbl1
      clear hbl1
      go_wp2_with fail
      go_loopw [6, 8, 27] (fun out _ i wq => ∃ k : Nat, k ≤ rs.length ∧ i = .int .i64 k ∧ App wq w.heap.size 9 1 out (sumS (rs.take k)).length ((sumS (rs.take k)).map sv) ∧ Hid (Bl w wq)) (fun _ _ i _ => rs.length - (intOf i).toNat)
      case atStart => exact ⟨0, by omega, rfl, by simpa [sumS] using hown1, HB1.out⟩
      case round =>
        obtain ⟨k, hk2, rfl, hown, HB⟩ := hrel
        by_cases hlt : k < rs.length
        · obtain ⟨r, hr⟩ := get_some rs k hlt
          obtain ⟨b, o, rfl, hc⟩ := (HG.out.bl HB.out).get hr
          have HT := Lib.hid (sumS_take rs k r hr)
          have hle := sumS_le rs (k + 1)
          rw [HT.out, List.length_append] at hle
          have HRR := Lib.hid ((HR.out r (List.mem_of_getElem? hr)).bl HB.out)
          have hsz := HB.out.size
          clear hr
          simp only [rowvS] at hc
          go_wp2_with (at_builtin; go_must (refine append_row rfl _ _ 49 9 (.string .empty) 1 16 rfl Try.underlying49 Try.infoStr rfl (by decide) w.heap.size hown (by rfl) (by rfl) HRR.out (by simp) (sv_one _) (by omega) (by omega) hsz ?_); intro v5 w5 hown5 hgr5 hat5)
          go_roundw
          case rel => exact ⟨k + 1, by omega, by go_num, by rw [HT.out, List.length_append, List.map_append]; exact hown5, HB.out.grown hgr5 (fun q hq => hown.ge q hq)⟩
          case measure => simp [intOf]; omega
        · obtain rfl : k = rs.length := by omega
          rw [List.take_length] at hown
          go_wp2_with fail
          go_ret
          exact RetS.mk hown HB.out
end Go.Proofs.Ytedmamchfgkkfaa
