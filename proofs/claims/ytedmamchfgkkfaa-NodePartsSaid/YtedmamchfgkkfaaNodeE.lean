/- Layer 18 (node) walked: which nodes are right. -/
import Derived.Test.YtedmamchfgkkfaaNodeC
import Derived.Test.YtedmamchfgkkfaaNodeD
set_option linter.unusedVariables false
set_option linter.unusedSimpArgs false
namespace Go.Proofs.Ytedmamchfgkkfaa
open Go.RowKit
set_option maxRecDepth 100000
set_option maxHeartbeats 2000000

theorem node_right (k : Int) (A B I : Option Addr) (keys vals : List ByteArray) (kids : List Int) (c d ci : Nat) (leaf inner : Nat) (w : World) (hk : keys.length ≤ 281474976710656) (hv : vals.length ≤ 281474976710656) (hn : kids.length ≤ 281474976710656) (hl : leaf ≤ 1000) (hi : inner ≤ 1000)
    (rk : Rd w A (keys.map sv)) (rv : Rd w B (vals.map sv)) (rn : Rd w I (kids.map iv)) :
    Calls Try.prog 78 #[nodeV k A keys.length c B vals.length d I kids.length ci, .int .i64 leaf, .int .i64 inner] w (RetBl (nodeRight k keys vals kids leaf inner) w) := by
  have RK := Lib.hid rk
  have RV := Lib.hid rv
  have RN := Lib.hid rn
  have HO := Lib.hid (Ob.new w #[.int .u8 k, .slice A keys.length c, .slice B vals.length d, .slice I kids.length ci] 52)
  have HW := Lib.hid ((Bl.refl w).alloc (.cells #[.int .u8 k, .slice A keys.length c, .slice B vals.length d, .slice I kids.length ci] 52))
  clear rk rv rn
  go_enter Try.func78, Try.ntmps78
  go_wp2_with fail
  generalize w.alloc (.cells #[.int .u8 k, .slice A keys.length c, .slice B vals.length d, .slice I kids.length ci] 52) = u at HO HW ⊢
  obtain ⟨o0, o1, o2, o3, _⟩ := Ob.all4 HO.out
  go_loopw [7, 8, 16] (fun _ _ i wr => ∃ j : Nat, j ≤ keys.length ∧ i = .int .i64 j ∧ Hid (∀ q, q < j → keyOK keys q = true) ∧ wr = u) (fun _ _ i _ => keys.length - (intOf i).toNat)
  case atStart => exact ⟨0, by omega, rfl, fun q hq => by omega, rfl⟩
  case round =>
    obtain ⟨j, hj, rfl, HQ, hwr⟩ := hrel
    have hwr2 := hwr.symm
    clear hwr
    subst hwr2
    by_cases hlt : j < keys.length
    · obtain ⟨x, hx⟩ := get_some keys j hlt
      obtain ⟨b, o, rfl, hc⟩ := (RK.out.bl HW.out).get hx
      simp only [sv] at hc
      rcases keyOK_cases hx with ⟨hf, h1⟩ | ⟨hf, h1⟩ | ⟨y, h0, hy, hf, h1, h2, h3⟩ | ⟨rfl, hf, h1, h2⟩ | ⟨y, h0, hy, hf, h1, h2, h3⟩
      · have HF := Lib.hid (keysOK_bad hlt hf)
        clear hf hx
        go_wp2_with fail
        go_ret
        refine RetBl.mk ?_ HW.out
        unfold nodeRight; rw [HF.out]; rfl
      · have HF := Lib.hid (keysOK_bad hlt hf)
        clear hf hx
        go_wp2_with fail
        go_ret
        refine RetBl.mk ?_ HW.out
        unfold nodeRight; rw [HF.out]; rfl
      · have HF := Lib.hid (keysOK_bad hlt hf)
        obtain ⟨b', o', e', hc'⟩ := (RK.out.bl HW.out).get hy
        cases e'
        simp only [sv] at hc'
        have hjw : ((j : Int) - 1) = ((j - 1 : Nat) : Int) := by omega
        have hcmp : Op.bytesLess y.toList x.toList = false := h3
        clear hf hx hy h3
        go_wp2_with fail
        go_ret
        refine RetBl.mk ?_ HW.out
        unfold nodeRight; rw [HF.out]; rfl
      · have HF := Lib.hid hf
        clear hf hx
        rw [Nat.add_zero] at hc
        go_wp2_with fail
        go_roundw
        case rel => exact ⟨0 + 1, by omega, by go_num, fun q hq => by obtain rfl : q = 0 := by omega
                                                                      exact HF.out, trivial⟩
        case measure => simp [intOf]; omega
      · have HF := Lib.hid hf
        obtain ⟨b', o', e', hc'⟩ := (RK.out.bl HW.out).get hy
        cases e'
        simp only [sv] at hc'
        have hjw : ((j : Int) - 1) = ((j - 1 : Nat) : Int) := by omega
        have hcmp : Op.bytesLess y.toList x.toList = true := h3
        clear hf hx hy h3
        go_wp2_with fail
        go_roundw
        case rel =>
          refine ⟨j + 1, by omega, by go_num, fun q hq => ?_, trivial⟩
          rcases Nat.lt_or_ge q j with h | h
          · exact HQ.out q h
          · obtain rfl : q = j := by omega
            exact HF.out
        case measure => simp [intOf]; omega
    · obtain rfl : j = keys.length := by omega
      have HF := Lib.hid (keysOK_good HQ.out)
      clear HQ
      by_cases h1 : k = 1
      · subst h1
        go_wp2_with fail
        go_loopw [10, 51] (fun _ i wr => ∃ j : Nat, j ≤ vals.length ∧ i = .int .i64 j ∧ Hid (∀ v ∈ vals.take j, v.size ≤ 40) ∧ wr = u) (fun _ i _ => vals.length - (intOf i).toNat)
        case atStart => exact ⟨0, by omega, rfl, fun v hv => by simp at hv, rfl⟩
        case round =>
          obtain ⟨j, hj, rfl, HQ, hwr⟩ := hrel
          have hwr2 := hwr.symm
          clear hwr
          subst hwr2
          by_cases hlt : j < vals.length
          · obtain ⟨x, hx⟩ := get_some vals j hlt
            obtain ⟨b, o, rfl, hc⟩ := (RV.out.bl HW.out).get hx
            simp only [sv] at hc
            by_cases h40 : x.size ≤ 40
            · have HT := Lib.hid (show vals.take (j + 1) = vals.take j ++ [x] by rw [List.take_add_one, hx]; rfl)
              clear hx
              go_wp2_with fail
              go_roundw
              case rel =>
                refine ⟨j + 1, by omega, by go_num, fun v hv => ?_, trivial⟩
                rw [HT.out] at hv
                rcases List.mem_append.1 hv with hv | hv
                · exact HQ.out v hv
                · simp at hv; subst hv; exact h40
              case measure => simp [intOf]; omega
            · have HB := Lib.hid (show valsOK vals = false by unfold valsOK; rw [List.all_eq_false]; exact ⟨x, List.mem_of_getElem? hx, by simpa using h40⟩)
              clear hx
              go_wp2_with fail
              go_ret
              refine RetBl.mk ?_ HW.out
              unfold nodeRight; rw [HB.out]; simp
          · obtain rfl : j = vals.length := by omega
            have HV := Lib.hid (show valsOK vals = true by
              unfold valsOK
              rw [List.all_eq_true]
              intro v hv
              have h := HQ.out
              rw [List.take_length] at h
              simpa using h v hv)
            have HN := Lib.hid (show decide (keys.length ≤ leaf ∧ vals.length = keys.length ∧ kids.length = 0) = nodeRight 1 keys vals kids leaf inner by unfold nodeRight; rw [HF.out, HV.out]; simp)
            clear HQ
            go_wp2_with fail
            all_goals
              go_ret
              refine RetBl.mk (Eq.trans ?_ HN.out) HW.out
              try simp only [beq_iff_eq, beq_eq_false_iff_ne, bne_iff_ne, bne_eq_false_iff_eq, ne_eq, Bool.not_eq_false', Bool.not_eq_true'] at *
              rw [Bool.eq_iff_iff]
              simp only [decide_eq_true_eq, beq_iff_eq, Bool.false_eq_true, reduceCtorEq, false_iff, true_iff]
              first | omega | (simp; done) | (simp; omega) | (simp [*]; done)
      · by_cases h2 : k = 2
        · subst h2
          clear h1
          go_wp2_with fail
          go_loopw [12, 84] (fun _ i wr => ∃ j : Nat, j ≤ kids.length ∧ i = .int .i64 j ∧ Hid (∀ v ∈ kids.take j, 2 ≤ v ∧ v < 65536) ∧ wr = u) (fun _ i _ => kids.length - (intOf i).toNat)
          case atStart => exact ⟨0, by omega, rfl, fun v hv => by simp at hv, rfl⟩
          case round =>
            obtain ⟨j, hj, rfl, HQ, hwr⟩ := hrel
            have hwr2 := hwr.symm
            clear hwr
            subst hwr2
            by_cases hlt : j < kids.length
            · obtain ⟨x, hx⟩ := get_some kids j hlt
              obtain ⟨b, o, rfl, hc⟩ := (RN.out.bl HW.out).get hx
              simp only [iv] at hc
              by_cases hr : 2 ≤ x ∧ x < 65536
              · have HT := Lib.hid (show kids.take (j + 1) = kids.take j ++ [x] by rw [List.take_add_one, hx]; rfl)
                clear hx
                obtain ⟨hr1, hr2⟩ := hr
                go_wp2_with fail
                go_roundw
                case rel =>
                  refine ⟨j + 1, by omega, by go_num, fun v hv => ?_, trivial⟩
                  rw [HT.out] at hv
                  rcases List.mem_append.1 hv with hv | hv
                  · exact HQ.out v hv
                  · simp at hv; subst hv; exact ⟨hr1, hr2⟩
                case measure => simp [intOf]; omega
              · have HB := Lib.hid (show nodeRight 2 keys vals kids leaf inner = false by
                  have : kidsOK kids = false := by unfold kidsOK; rw [List.all_eq_false]; exact ⟨x, List.mem_of_getElem? hx, by simpa using hr⟩
                  unfold nodeRight; rw [this]; simp)
                clear hx
                rcases (by omega : x < 2 ∨ (2 ≤ x ∧ 65536 ≤ x)) with h | ⟨h, h'⟩
                all_goals
                  clear hr
                  go_wp2_with fail
                  go_ret
                  exact RetBl.mk HB.out.symm HW.out
            · obtain rfl : j = kids.length := by omega
              have HV := Lib.hid (show kidsOK kids = true by
                unfold kidsOK
                rw [List.all_eq_true]
                intro v hv
                have h := HQ.out
                rw [List.take_length] at h
                simpa using h v hv)
              have HN := Lib.hid (show decide (1 ≤ keys.length ∧ keys.length ≤ inner ∧ kids.length = keys.length + 1 ∧ vals.length = 0) = nodeRight 2 keys vals kids leaf inner by unfold nodeRight; rw [HF.out, HV.out]; simp)
              clear HQ
              go_wp2_with fail
              all_goals
                go_ret
                refine RetBl.mk (Eq.trans ?_ HN.out) HW.out
                try simp only [beq_iff_eq, beq_eq_false_iff_ne, bne_iff_ne, bne_eq_false_iff_eq, ne_eq, Bool.not_eq_false', Bool.not_eq_true'] at *
                rw [Bool.eq_iff_iff]
                simp only [decide_eq_true_eq, beq_iff_eq, Bool.false_eq_true, reduceCtorEq, false_iff, true_iff]
                first | omega | (simp; done) | (simp; omega) | (simp [*]; done)
        · have b1 : (k == 1) = false := by simpa using h1
          have b2 : (k == 2) = false := by simpa using h2
          have HN := Lib.hid (show false = nodeRight k keys vals kids leaf inner by unfold nodeRight; simp [h1, h2])
          clear h1 h2
          go_wp2_with fail
          go_ret
          exact RetBl.mk HN.out HW.out
end Go.Proofs.Ytedmamchfgkkfaa
