/- The reference of layer 18 walked: which nodes are right; May, Wide of both. -/
import Derived.Test.YtedmamchfgkkfaaNodeE
set_option linter.unusedVariables false
set_option linter.unusedSimpArgs false
namespace Go.Proofs.Ytedmamchfgkkfaa
open Go.RowKit
set_option maxRecDepth 100000
set_option maxHeartbeats 4000000

theorem nodeRight_bad {k : Int} {keys vals : List ByteArray} {kids : List Int} {leaf inner : Nat} (h : keysOK keys = false ∨ valsOK vals = false ∨ kidsOK kids = false) : nodeRight k keys vals kids leaf inner = false := by
  unfold nodeRight
  rcases h with h | h | h
  · rw [h]; rfl
  · cases vals with
    | nil => cases h
    | cons v l => rw [h]; simp
  · cases kids with
    | nil => cases h
    | cons v l => rw [h]; simp
theorem ref_nodeRight (k : Int) (A B I : Option Addr) (keys vals : List ByteArray) (kids : List Int) (c d ci : Nat) (leaf inner : Nat) (w : World) (hk : keys.length ≤ 281474976710656) (hv : vals.length ≤ 281474976710656) (hn : kids.length ≤ 281474976710656) (hl : leaf ≤ 1000) (hi : inner ≤ 1000)
    (rk : Rd w A (keys.map sv)) (rv : Rd w B (vals.map sv)) (rn : Rd w I (kids.map iv)) :
    Calls Try.prog 79 #[nodeV k A keys.length c B vals.length d I kids.length ci, .int .i64 leaf, .int .i64 inner] w (RetBl (nodeRight k keys vals kids leaf inner) w) := by
  have RK := Lib.hid rk
  have RV := Lib.hid rv
  have RN := Lib.hid rn
  have HO := Lib.hid (Ob.new w #[.int .u8 k, .slice A keys.length c, .slice B vals.length d, .slice I kids.length ci] 52)
  have HW := Lib.hid ((Bl.refl w).alloc (.cells #[.int .u8 k, .slice A keys.length c, .slice B vals.length d, .slice I kids.length ci] 52))
  clear rk rv rn
  go_enter Try.func79, Try.ntmps79
  go_wp2_with fail
  generalize w.alloc (.cells #[.int .u8 k, .slice A keys.length c, .slice B vals.length d, .slice I kids.length ci] 52) = u at HO HW ⊢
  obtain ⟨z0, z1, z2, z3, _⟩ := Ob.all4 HO.out
  go_loopw [7] (fun i wr => ∃ j : Nat, j ≤ keys.length ∧ i = .int .i64 j ∧ Hid (∀ q, q < j → keyOK keys q = true) ∧ Hid (Dr u wr)) (fun i _ => keys.length - (intOf i).toNat)
  case atStart => exact ⟨0, by omega, rfl, fun q hq => by omega, Dr.refl u⟩
  case round =>
    obtain ⟨j, hj, rfl, HQ, HD⟩ := hrel
    obtain ⟨v, rfl⟩ : ∃ v : World, v = wr := ⟨_, rfl⟩
    have HWn := Lib.hid (HW.out.trans (HD.out.below _))
    obtain ⟨o0, o1, o2, o3, _⟩ := Ob.all4 (HO.out.bl (HD.out.below _))
    clear z0 z1 z2 z3
    by_cases hlt : j < keys.length
    · obtain ⟨x, hx⟩ := get_some keys j hlt
      obtain ⟨b, o, rfl, hc⟩ := (RK.out.bl HWn.out).get hx
      simp only [sv] at hc
      rcases keyOK_cases hx with ⟨hf, h1⟩ | ⟨hf, h1⟩ | ⟨y, h0, hy, hf, h1, h2, h3⟩ | ⟨rfl, hf, h1, h2⟩ | ⟨y, h0, hy, hf, h1, h2, h3⟩
      · have HF := Lib.hid (nodeRight_bad (k := k) (vals := vals) (kids := kids) (leaf := leaf) (inner := inner) (.inl (keysOK_bad hlt hf)))
        clear hf hx
        go_wp2_with fail
        have i1 : (x.size : Int) < 1 := by omega
        go_quiet (fail)
        go_wp2_with fail
        go_ret
        exact RetBl.mk HF.out.symm (HWn.out.drewN _)
      · have HF := Lib.hid (nodeRight_bad (k := k) (vals := vals) (kids := kids) (leaf := leaf) (inner := inner) (.inl (keysOK_bad hlt hf)))
        clear hf hx
        go_wp2_with fail
        have i1 : ¬ (x.size : Int) < 1 := by omega
        have i2 : (x.size : Int) > 40 := by omega
        go_quiet (fail)
        go_wp2_with fail
        go_ret
        exact RetBl.mk HF.out.symm (HWn.out.drewN _)
      · have HF := Lib.hid (nodeRight_bad (k := k) (vals := vals) (kids := kids) (leaf := leaf) (inner := inner) (.inl (keysOK_bad hlt hf)))
        obtain ⟨b', o', e', hc'⟩ := (RK.out.bl HWn.out).get hy
        cases e'
        simp only [sv] at hc'
        obtain ⟨m, rfl⟩ : ∃ m, j = m + 1 := ⟨j - 1, by omega⟩
        rw [Nat.add_sub_cancel] at hc'
        have hcmp : Op.bytesLess y.toList x.toList = false := h3
        clear hf hx hy h3
        go_wp2_with fail
        have i1 : ¬ (x.size : Int) < 1 := by omega
        have i2 : ¬ (x.size : Int) > 40 := by omega
        have i3 : ((m : Int) + 1) > 0 := by omega
        go_quiet (fail)
        go_wp2_with fail
        go_ret
        exact RetBl.mk HF.out.symm (HWn.out.drewN _)
      · have HF := Lib.hid hf
        clear hf hx
        rw [Nat.add_zero] at hc
        go_wp2_with fail
        have i1 : ¬ (x.size : Int) < 1 := by omega
        have i2 : ¬ (x.size : Int) > 40 := by omega
        go_quiet (fail)
        go_wp2_with fail
        go_roundw
        case rel => exact ⟨0 + 1, by omega, by go_num, fun q hq => by { have e : q = 0 := (by omega); subst e; exact HF.out }, HD.out.drewN _⟩
        case measure => simp [intOf]; omega
      · have HF := Lib.hid hf
        obtain ⟨b', o', e', hc'⟩ := (RK.out.bl HWn.out).get hy
        cases e'
        simp only [sv] at hc'
        obtain ⟨m, rfl⟩ : ∃ m, j = m + 1 := ⟨j - 1, by omega⟩
        rw [Nat.add_sub_cancel] at hc'
        have hcmp : Op.bytesLess y.toList x.toList = true := h3
        clear hf hx hy h3
        go_wp2_with fail
        have i1 : ¬ (x.size : Int) < 1 := by omega
        have i2 : ¬ (x.size : Int) > 40 := by omega
        have i3 : ((m : Int) + 1) > 0 := by omega
        go_quiet (fail)
        go_wp2_with fail
        go_roundw
        case rel =>
          refine ⟨m + 1 + 1, by omega, by go_num, fun q hq => ?_, HD.out.drewN _⟩
          rcases Nat.lt_or_ge q (m + 1) with h | h
          · exact HQ.out q h
          · obtain rfl : q = m + 1 := by omega
            exact HF.out
        case measure => simp [intOf]; omega
    · obtain rfl : j = keys.length := by omega
      have HF := Lib.hid (keysOK_good HQ.out)
      clear HQ
      go_wp2_with fail
      go_loopw [8] (fun i wr => ∃ j : Nat, j ≤ vals.length ∧ i = .int .i64 j ∧ Hid (∀ x ∈ vals.take j, x.size ≤ 40) ∧ wr = v) (fun i _ => vals.length - (intOf i).toNat)
      case atStart => exact ⟨0, by omega, rfl, fun v hv => by simp at hv, rfl⟩
      case round =>
        obtain ⟨j, hj, rfl, HQ, hwr⟩ := hrel
        have hwr2 := hwr.symm
        clear hwr
        subst hwr2
        by_cases hlt : j < vals.length
        · obtain ⟨x, hx⟩ := get_some vals j hlt
          obtain ⟨b, o, rfl, hc⟩ := (RV.out.bl HWn.out).get hx
          simp only [sv] at hc
          by_cases h40 : x.size ≤ 40
          · have HT := Lib.hid (show vals.take (j + 1) = vals.take j ++ [x] by rw [List.take_add_one, hx]; rfl)
            clear hx
            go_wp2_with fail
            go_roundw
            case rel =>
              refine ⟨j + 1, by omega, by go_num, fun v hv => ?_, trivial⟩
              rw [HT.out] at hv
              rcases List.mem_append.1 hv with hv | hv
              · exact HQ.out v hv
              · simp at hv; subst hv; exact h40
            case measure => simp [intOf]; omega
          · have HB := Lib.hid (nodeRight_bad (k := k) (keys := keys) (kids := kids) (leaf := leaf) (inner := inner) (.inr (.inl (show valsOK vals = false by unfold valsOK; rw [List.all_eq_false]; exact ⟨x, List.mem_of_getElem? hx, by simpa using h40⟩))))
            clear hx
            go_wp2_with fail
            go_ret
            exact RetBl.mk HB.out.symm HWn.out
        · obtain rfl : j = vals.length := by omega
          have HV := Lib.hid (show valsOK vals = true by
            unfold valsOK
            rw [List.all_eq_true]
            intro v hv
            have h := HQ.out
            rw [List.take_length] at h
            simpa using h v hv)
          clear HQ
          go_wp2_with fail
          go_loopw [9] (fun i wr => ∃ j : Nat, j ≤ kids.length ∧ i = .int .i64 j ∧ Hid (∀ x ∈ kids.take j, 2 ≤ x ∧ x < 65536) ∧ wr = v) (fun i _ => kids.length - (intOf i).toNat)
          case atStart => exact ⟨0, by omega, rfl, fun v hv => by simp at hv, rfl⟩
          case round =>
            obtain ⟨j, hj, rfl, HQ, hwr⟩ := hrel
            have hwr2 := hwr.symm
            clear hwr
            subst hwr2
            by_cases hlt : j < kids.length
            · obtain ⟨x, hx⟩ := get_some kids j hlt
              obtain ⟨b, o, rfl, hc⟩ := (RN.out.bl HWn.out).get hx
              simp only [iv] at hc
              by_cases hr : 2 ≤ x ∧ x < 65536
              · have HT := Lib.hid (show kids.take (j + 1) = kids.take j ++ [x] by rw [List.take_add_one, hx]; rfl)
                clear hx
                obtain ⟨hr1, hr2⟩ := hr
                go_wp2_with fail
                go_roundw
                case rel =>
                  refine ⟨j + 1, by omega, by go_num, fun v hv => ?_, trivial⟩
                  rw [HT.out] at hv
                  rcases List.mem_append.1 hv with hv | hv
                  · exact HQ.out v hv
                  · simp at hv; subst hv; exact ⟨hr1, hr2⟩
                case measure => simp [intOf]; omega
              · have HB := Lib.hid (nodeRight_bad (k := k) (keys := keys) (vals := vals) (leaf := leaf) (inner := inner) (.inr (.inr (show kidsOK kids = false by unfold kidsOK; rw [List.all_eq_false]; exact ⟨x, List.mem_of_getElem? hx, by simpa using hr⟩))))
                clear hx
                rcases (by omega : x < 2 ∨ (2 ≤ x ∧ 65535 < x)) with h | ⟨h, h'⟩
                all_goals
                  clear hr
                  go_wp2_with fail
                  go_ret
                  exact RetBl.mk HB.out.symm HWn.out
            · obtain rfl : j = kids.length := by omega
              have HN := Lib.hid (show kidsOK kids = true by
                unfold kidsOK
                rw [List.all_eq_true]
                intro v hv
                have h := HQ.out
                rw [List.take_length] at h
                simpa using h v hv)
              clear HQ
              by_cases h1 : k = 1
              · subst h1
                have HE := Lib.hid (show decide (keys.length ≤ leaf ∧ vals.length = keys.length ∧ kids.length = 0) = nodeRight 1 keys vals kids leaf inner by unfold nodeRight; rw [HF.out, HV.out]; simp)
                go_wp2_with fail
                all_goals
                  go_ret
                  refine RetBl.mk (Eq.trans ?_ HE.out) HWn.out
                  try simp only [beq_iff_eq, beq_eq_false_iff_ne, bne_iff_ne, bne_eq_false_iff_eq, ne_eq, Bool.not_eq_false', Bool.not_eq_true'] at *
                  rw [Bool.eq_iff_iff]
                  simp only [decide_eq_true_eq, beq_iff_eq, Bool.false_eq_true, reduceCtorEq, false_iff, true_iff]
                  first | omega | (simp; done) | (simp; omega) | (simp [*]; done)
              · by_cases h2 : k = 2
                · subst h2
                  have HE := Lib.hid (show decide (1 ≤ keys.length ∧ keys.length ≤ inner ∧ kids.length = keys.length + 1 ∧ vals.length = 0) = nodeRight 2 keys vals kids leaf inner by unfold nodeRight; rw [HF.out, HN.out]; simp)
                  clear h1
                  go_wp2_with fail
                  all_goals
                    go_ret
                    refine RetBl.mk (Eq.trans ?_ HE.out) HWn.out
                    try simp only [beq_iff_eq, beq_eq_false_iff_ne, bne_iff_ne, bne_eq_false_iff_eq, ne_eq, Bool.not_eq_false', Bool.not_eq_true'] at *
                    rw [Bool.eq_iff_iff]
                    simp only [decide_eq_true_eq, beq_iff_eq, Bool.false_eq_true, reduceCtorEq, false_iff, true_iff]
                    first | omega | (simp; done) | (simp; omega) | (simp [*]; done)
                · have b1 : (k == 1) = false := by simpa using h1
                  have b2 : (k == 2) = false := by simpa using h2
                  have HE := Lib.hid (show false = nodeRight k keys vals kids leaf inner by unfold nodeRight; simp [h1, h2])
                  clear h1 h2
                  go_wp2_with fail
                  go_ret
                  exact RetBl.mk HE.out HWn.out
theorem node_May (k : Int) (A B I : Option Addr) (keys vals : List ByteArray) (kids : List Int) (c d ci : Nat) (w : World) (hk : keys.length ≤ 281474976710656) (hv : vals.length ≤ 281474976710656) (hn : kids.length ≤ 281474976710656)
    (rk : Rd w A (keys.map sv)) (rv : Rd w B (vals.map sv)) (rn : Rd w I (kids.map iv)) :
    Calls Try.prog 36 #[nodeV k A keys.length c B vals.length d I kids.length ci] w (RetBl (nodeRight k keys vals kids 6 6) w) := by
  have RK := Lib.hid rk
  have RV := Lib.hid rv
  have RN := Lib.hid rn
  have HW := Lib.hid ((Bl.refl w).alloc (.cells #[.int .u8 k, .slice A keys.length c, .slice B vals.length d, .slice I kids.length ci] 52))
  clear rk rv rn
  go_enter Try.func36, Try.ntmps36
  go_wp2_with (first | (go_at_call 78; go_must (refine (node_right k A B I keys vals kids c d ci 6 6 _ hk hv hn (by decide) (by decide) (RK.out.bl HW.out) (RV.out.bl HW.out) (RN.out.bl HW.out)).mono ?_); rintro e w1 ⟨rfl, hbl⟩))
  go_ret
  exact RetBl.mk rfl (HW.out.trans hbl)
theorem node_Wide (k : Int) (A B I : Option Addr) (keys vals : List ByteArray) (kids : List Int) (c d ci : Nat) (w : World) (hk : keys.length ≤ 281474976710656) (hv : vals.length ≤ 281474976710656) (hn : kids.length ≤ 281474976710656)
    (rk : Rd w A (keys.map sv)) (rv : Rd w B (vals.map sv)) (rn : Rd w I (kids.map iv)) :
    Calls Try.prog 34 #[nodeV k A keys.length c B vals.length d I kids.length ci] w (RetBl (nodeRight k keys vals kids 12 13) w) := by
  have RK := Lib.hid rk
  have RV := Lib.hid rv
  have RN := Lib.hid rn
  have HW := Lib.hid ((Bl.refl w).alloc (.cells #[.int .u8 k, .slice A keys.length c, .slice B vals.length d, .slice I kids.length ci] 52))
  clear rk rv rn
  go_enter Try.func34, Try.ntmps34
  go_wp2_with (first | (go_at_call 78; go_must (refine (node_right k A B I keys vals kids c d ci 12 13 _ hk hv hn (by decide) (by decide) (RK.out.bl HW.out) (RV.out.bl HW.out) (RN.out.bl HW.out)).mono ?_); rintro e w1 ⟨rfl, hbl⟩))
  go_ret
  exact RetBl.mk rfl (HW.out.trans hbl)
theorem ref_nodeMay (k : Int) (A B I : Option Addr) (keys vals : List ByteArray) (kids : List Int) (c d ci : Nat) (w : World) (hk : keys.length ≤ 281474976710656) (hv : vals.length ≤ 281474976710656) (hn : kids.length ≤ 281474976710656)
    (rk : Rd w A (keys.map sv)) (rv : Rd w B (vals.map sv)) (rn : Rd w I (kids.map iv)) :
    Calls Try.prog 37 #[nodeV k A keys.length c B vals.length d I kids.length ci] w (RetBl (nodeRight k keys vals kids 6 6) w) := by
  have RK := Lib.hid rk
  have RV := Lib.hid rv
  have RN := Lib.hid rn
  have HW := Lib.hid ((Bl.refl w).alloc (.cells #[.int .u8 k, .slice A keys.length c, .slice B vals.length d, .slice I kids.length ci] 52))
  clear rk rv rn
  go_enter Try.func37, Try.ntmps37
  go_wp2_with (first | (go_at_call 79; go_must (refine (ref_nodeRight k A B I keys vals kids c d ci 6 6 _ hk hv hn (by decide) (by decide) (RK.out.bl HW.out) (RV.out.bl HW.out) (RN.out.bl HW.out)).mono ?_); rintro e w1 ⟨rfl, hbl⟩))
  go_ret
  exact RetBl.mk rfl (HW.out.trans hbl)
theorem ref_nodeWide (k : Int) (A B I : Option Addr) (keys vals : List ByteArray) (kids : List Int) (c d ci : Nat) (w : World) (hk : keys.length ≤ 281474976710656) (hv : vals.length ≤ 281474976710656) (hn : kids.length ≤ 281474976710656)
    (rk : Rd w A (keys.map sv)) (rv : Rd w B (vals.map sv)) (rn : Rd w I (kids.map iv)) :
    Calls Try.prog 35 #[nodeV k A keys.length c B vals.length d I kids.length ci] w (RetBl (nodeRight k keys vals kids 12 13) w) := by
  have RK := Lib.hid rk
  have RV := Lib.hid rv
  have RN := Lib.hid rn
  have HW := Lib.hid ((Bl.refl w).alloc (.cells #[.int .u8 k, .slice A keys.length c, .slice B vals.length d, .slice I kids.length ci] 52))
  clear rk rv rn
  go_enter Try.func35, Try.ntmps35
  go_wp2_with (first | (go_at_call 79; go_must (refine (ref_nodeRight k A B I keys vals kids c d ci 12 13 _ hk hv hn (by decide) (by decide) (RK.out.bl HW.out) (RV.out.bl HW.out) (RN.out.bl HW.out)).mono ?_); rintro e w1 ⟨rfl, hbl⟩))
  go_ret
  exact RetBl.mk rfl (HW.out.trans hbl)
end Go.Proofs.Ytedmamchfgkkfaa
