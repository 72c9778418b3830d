/- The reference of layer 1 walked: Get, Put. -/
import Derived.Test.YtedmamchfgkkfaaLebD
namespace Go.Proofs.Ytedmamchfgkkfaa
open Go.RowKit

set_option maxRecDepth 100000 in
set_option maxHeartbeats 1000000 in
theorem ref_Get (A : Option Addr) (c : Nat) (b : List UInt8) (p : Int) (w : World) (hb : b.length ≤ 140737488351232) (hr : Rd w A (b.map bv)) :
    Calls Try.prog 65 #[.slice A b.length c, .int .i64 p] w (RetGet b p w) := by
  by_cases hout : p < 0 ∨ (b.length : Int) < p
  · have hz : lebGet b p = (0, 0, 2) := by unfold lebGet; rw [if_pos hout]
    have HZ := Lib.hid hz
    clear hz
    by_cases h0 : p < 0
    · clear hout
      have h0' : decide (p < 0) = true := decide_eq_true h0
      go_enter Try.func65, Try.ntmps65
      go_wp2_with fail
      go_ret3
      exact RetGet.mk HZ.out (Dr.refl w)
    · have h1 : (b.length : Int) < p := by omega
      clear hout
      go_enter Try.func65, Try.ntmps65
      go_wp2_with fail
      go_ret3
      exact RetGet.mk HZ.out (Dr.refl w)
  · obtain ⟨q, rfl⟩ := Int.eq_ofNat_of_zero_le (show 0 ≤ p by omega)
    have hq : q ≤ b.length := by omega
    clear hout
    go_enter Try.func65, Try.ntmps65
    go_wp2_with fail
    go_loopw [7] (fun i wr => ∃ k : Nat, k ≤ 9 ∧ q + k ≤ b.length ∧ i = .int .i64 k ∧ wr = w ∧ Hid (∀ j, j < k → 128 ≤ ((b.drop q).getD j 0).toNat)) (fun i _ => 10 - (intOf i).toNat)
    case atStart => exact ⟨0, by omega, by omega, rfl, rfl, fun j hj => by omega⟩
    case round =>
      obtain ⟨k, hk, hqk, rfl, rfl, HA⟩ := hrel
      by_cases hend : q + k = b.length
      · have HS := Lib.hid (lebGet_short hk hend HA.out)
        have he2 : ((q : Int) + (k : Int) == (b.length : Int)) = true := by rw [beq_iff_eq]; omega
        have he3 : ¬ (q + k < b.length) := by omega
        have he4 : decide ((q : Int) + (k : Int) < (b.length : Int)) = false := by rw [decide_eq_false_iff_not]; omega
        clear hend
        by_cases hk9 : k = 9
        · have hk9' : decide ((k : Int) < 9) = false := by rw [decide_eq_false_iff_not]; omega
          have HK := Lib.hid hk9
          clear hk9
          go_wp2_with fail
          go_ret3
          exact RetGet.mk HS.out (Dr.refl _)
        · have hk9' : decide ((k : Int) < 9) = true := by rw [decide_eq_true_eq]; omega
          go_wp2_with fail
          go_ret3
          exact RetGet.mk HS.out (Dr.refl _)
      · have he2 : ((q : Int) + (k : Int) == (b.length : Int)) = false := by rw [beq_eq_false_iff_ne]; omega
        have he4 : decide ((q : Int) + (k : Int) < (b.length : Int)) = true := by rw [decide_eq_true_eq]; omega
        obtain ⟨x, hx⟩ := get_some b (q + k) (by omega)
        obtain ⟨B, o, rfl, hc⟩ := hr.get hx
        have hd : (b.drop q).getD k 0 = x := by simp [List.getD_eq_getElem?_getD, List.getElem?_drop, hx]
        have HD := Lib.hid hd
        have HX := Lib.hid hx
        clear hd hx
        simp only [bv] at hc
        by_cases hgo : k < 9 ∧ 128 ≤ x.toNat
        · obtain ⟨hk9, h128⟩ := hgo
          have hk9' : decide ((k : Int) < 9) = true := by rw [decide_eq_true_eq]; omega
          go_wp2_with fail
          go_roundw
          case rel => exact ⟨k + 1, by omega, by omega, by go_num, trivial, lead_succ_of _ k k HA.out rfl (by rw [HD.out]; exact h128)⟩
          case measure => simp [intOf]; omega
        · have HO := Lib.hid (lebGet_out hk HX.out HA.out (x := x))
          have hlen : k < (b.drop q).length := by rw [List.length_drop]; omega
          by_cases hx8 : x.toNat < 128
          · replace HO := Lib.hid (HO.out hx8)
            have hx8' : decide (128 ≤ (x.toNat : Int)) = false := by rw [decide_eq_false_iff_not]; omega
            have HVB : Hid (¬ ((k = 9 ∧ 1 < x.toNat) ∨ (0 < k ∧ x.toNat = 0)) → vval ((b.drop q).take (k + 1)) < 2 ^ 64) := fun hn => by
              rcases lebGet_cases b q with ⟨e, h, he⟩ | ⟨q', k', v, hq', h, _, _, hv, _⟩
              · rw [HO.out, if_neg hn] at h; injection h with h1 h2; injection h2 with h2 h3; omega
              · rw [HO.out, if_neg hn] at h; injection h with h1 h2; omega
            clear hgo
            by_cases hk9 : k = 9
            · have b9 : ((k : Int) == 9) = true := by rw [beq_iff_eq]; omega
              have d9 : decide ((k : Int) < 9) = false := by rw [decide_eq_false_iff_not]; omega
              have k0 : 0 < k := by omega
              have HK9 := Lib.hid hk9
              clear hk9
              by_cases hx1 : 1 < x.toNat
              · go_wp2_with fail
                go_ret3
                exact RetGet.mk (HO.out.trans (if_pos (.inl ⟨HK9.out, hx1⟩))) (Dr.refl _)
              · by_cases hx0 : x.toNat = 0
                · have x0 : ((x.toNat : Int) == 0) = true := by rw [beq_iff_eq]; omega
                  have HX0 := Lib.hid hx0
                  clear hx0
                  go_wp2_with fail
                  go_ret3
                  exact RetGet.mk (HO.out.trans (if_pos (.inr ⟨k0, HX0.out⟩))) (Dr.refl _)
                · have x0 : ((x.toNat : Int) == 0) = false := by rw [beq_eq_false_iff_ne]; omega
                  have hok := Lib.hid (show ¬ ((k = 9 ∧ 1 < x.toNat) ∨ (0 < k ∧ x.toNat = 0)) by omega)
                  replace HVB := Lib.hid (HVB.out hok.out)
                  have hfit := Lib.hid (fun j (hj : j ≤ k) => vval_bound (b.drop q) k j hj hlen HVB.out)
                  have hstep := Lib.hid (fun j (hj : j ≤ k) => vval_drop_take (b.drop q) k j hj hlen)
                  go_wp2_with fail
                  go_loopw [9, 10] (fun v i wi => ∃ j V : Nat, j ≤ k + 1 ∧ i = .int .i64 ((j : Int) - 1) ∧ v = .int .u64 V ∧ Hid (V = vval (((b.drop q).drop j).take (k + 1 - j))) ∧ wi = wr) (fun _ i _ => (intOf i + 1).toNat)
                  case atStart => exact ⟨k + 1, 0, Nat.le_refl _, by go_num, rfl, by show _ = _; rw [Nat.sub_self]; simp [vval], rfl⟩
                  case round =>
                    obtain ⟨j, V, hj, rfl, rfl, HV, rfl⟩ := hrel
                    by_cases hj0 : j = 0
                    · subst hj0
                      have hv := HV.out
                      rw [List.drop_zero, Nat.sub_zero] at hv
                      have HV2 := Lib.hid hv
                      clear hv
                      go_wp2_with fail
                      go_ret3
                      refine RetGet.mk (HO.out.trans (if_neg hok.out) |>.trans ?_) (Dr.refl _)
                      rw [HV2.out]
                    · obtain ⟨i, rfl⟩ : ∃ i, j = i + 1 := ⟨j - 1, by omega⟩
                      obtain ⟨y, hy⟩ := get_some b (q + i) (by omega)
                      obtain ⟨B2, o2, eB, hc2⟩ := hr.get hy
                      cases eB
                      have hdy : (b.drop q).getD i 0 = y := by simp [List.getD_eq_getElem?_getD, List.getElem?_drop, hy]
                      have hV2 : vval (((b.drop q).drop i).take (k + 1 - i)) = y.toNat % 128 + 128 * V := by
                        rw [hstep.out i (by omega), hdy, HV.out]; rw [show k + 1 - (i + 1) = k - i by omega]
                      have hb64 := hfit.out i (by omega)
                      rw [hV2] at hb64
                      have HV2 := Lib.hid hV2
                      have w1 : IntKind.u64.wrap (128 * (V : Int)) = 128 * (V : Int) := IntWalk.u64_in _ (by omega)
                      have w2 : IntKind.u64.wrap (128 * (V : Int) + ((y.toNat : Int) % 128)) = 128 * (V : Int) + ((y.toNat : Int) % 128) := IntWalk.u64_in _ (by omega)
                      clear hy hdy hV2 hb64 HV
                      simp only [bv] at hc2
                      go_wp2_with fail
                      go_roundw
                      case rel => exact ⟨i, y.toNat % 128 + 128 * V, by omega, by go_num, by congr 1 <;> omega, HV2.out.symm, trivial⟩
                      case measure => (simp [intOf])
            · have b9 : ((k : Int) == 9) = false := by rw [beq_eq_false_iff_ne]; omega
              have d9 : decide ((k : Int) < 9) = true := by rw [decide_eq_true_eq]; omega
              by_cases hk0 : 0 < k
              · by_cases hx0 : x.toNat = 0
                · have x0 : ((x.toNat : Int) == 0) = true := by rw [beq_iff_eq]; omega
                  have HX0 := Lib.hid hx0
                  clear hx0
                  go_wp2_with fail
                  go_ret3
                  exact RetGet.mk (HO.out.trans (if_pos (.inr ⟨hk0, HX0.out⟩))) (Dr.refl _)
                · have x0 : ((x.toNat : Int) == 0) = false := by rw [beq_eq_false_iff_ne]; omega
                  have hok := Lib.hid (show ¬ ((k = 9 ∧ 1 < x.toNat) ∨ (0 < k ∧ x.toNat = 0)) by omega)
                  replace HVB := Lib.hid (HVB.out hok.out)
                  have hfit := Lib.hid (fun j (hj : j ≤ k) => vval_bound (b.drop q) k j hj hlen HVB.out)
                  have hstep := Lib.hid (fun j (hj : j ≤ k) => vval_drop_take (b.drop q) k j hj hlen)
                  go_wp2_with fail
                  go_loopw [9, 10] (fun v i wi => ∃ j V : Nat, j ≤ k + 1 ∧ i = .int .i64 ((j : Int) - 1) ∧ v = .int .u64 V ∧ Hid (V = vval (((b.drop q).drop j).take (k + 1 - j))) ∧ wi = wr) (fun _ i _ => (intOf i + 1).toNat)
                  case atStart => exact ⟨k + 1, 0, Nat.le_refl _, by go_num, rfl, by show _ = _; rw [Nat.sub_self]; simp [vval], rfl⟩
                  case round =>
                    obtain ⟨j, V, hj, rfl, rfl, HV, rfl⟩ := hrel
                    by_cases hj0 : j = 0
                    · subst hj0
                      have hv := HV.out
                      rw [List.drop_zero, Nat.sub_zero] at hv
                      have HV2 := Lib.hid hv
                      clear hv
                      go_wp2_with fail
                      go_ret3
                      refine RetGet.mk (HO.out.trans (if_neg hok.out) |>.trans ?_) (Dr.refl _)
                      rw [HV2.out]
                    · obtain ⟨i, rfl⟩ : ∃ i, j = i + 1 := ⟨j - 1, by omega⟩
                      obtain ⟨y, hy⟩ := get_some b (q + i) (by omega)
                      obtain ⟨B2, o2, eB, hc2⟩ := hr.get hy
                      cases eB
                      have hdy : (b.drop q).getD i 0 = y := by simp [List.getD_eq_getElem?_getD, List.getElem?_drop, hy]
                      have hV2 : vval (((b.drop q).drop i).take (k + 1 - i)) = y.toNat % 128 + 128 * V := by
                        rw [hstep.out i (by omega), hdy, HV.out]; rw [show k + 1 - (i + 1) = k - i by omega]
                      have hb64 := hfit.out i (by omega)
                      rw [hV2] at hb64
                      have HV2 := Lib.hid hV2
                      have w1 : IntKind.u64.wrap (128 * (V : Int)) = 128 * (V : Int) := IntWalk.u64_in _ (by omega)
                      have w2 : IntKind.u64.wrap (128 * (V : Int) + ((y.toNat : Int) % 128)) = 128 * (V : Int) + ((y.toNat : Int) % 128) := IntWalk.u64_in _ (by omega)
                      clear hy hdy hV2 hb64 HV
                      simp only [bv] at hc2
                      go_wp2_with fail
                      go_roundw
                      case rel => exact ⟨i, y.toNat % 128 + 128 * V, by omega, by go_num, by congr 1 <;> omega, HV2.out.symm, trivial⟩
                      case measure => (simp [intOf])
              · have hok := Lib.hid (show ¬ ((k = 9 ∧ 1 < x.toNat) ∨ (0 < k ∧ x.toNat = 0)) by omega)
                replace HVB := Lib.hid (HVB.out hok.out)
                have hfit := Lib.hid (fun j (hj : j ≤ k) => vval_bound (b.drop q) k j hj hlen HVB.out)
                have hstep := Lib.hid (fun j (hj : j ≤ k) => vval_drop_take (b.drop q) k j hj hlen)
                go_wp2_with fail
                go_loopw [9, 10] (fun v i wi => ∃ j V : Nat, j ≤ k + 1 ∧ i = .int .i64 ((j : Int) - 1) ∧ v = .int .u64 V ∧ Hid (V = vval (((b.drop q).drop j).take (k + 1 - j))) ∧ wi = wr) (fun _ i _ => (intOf i + 1).toNat)
                case atStart => exact ⟨k + 1, 0, Nat.le_refl _, by go_num, rfl, by show _ = _; rw [Nat.sub_self]; simp [vval], rfl⟩
                case round =>
                  obtain ⟨j, V, hj, rfl, rfl, HV, rfl⟩ := hrel
                  by_cases hj0 : j = 0
                  · subst hj0
                    have hv := HV.out
                    rw [List.drop_zero, Nat.sub_zero] at hv
                    have HV2 := Lib.hid hv
                    clear hv
                    go_wp2_with fail
                    go_ret3
                    refine RetGet.mk (HO.out.trans (if_neg hok.out) |>.trans ?_) (Dr.refl _)
                    rw [HV2.out]
                  · obtain ⟨i, rfl⟩ : ∃ i, j = i + 1 := ⟨j - 1, by omega⟩
                    obtain ⟨y, hy⟩ := get_some b (q + i) (by omega)
                    obtain ⟨B2, o2, eB, hc2⟩ := hr.get hy
                    cases eB
                    have hdy : (b.drop q).getD i 0 = y := by simp [List.getD_eq_getElem?_getD, List.getElem?_drop, hy]
                    have hV2 : vval (((b.drop q).drop i).take (k + 1 - i)) = y.toNat % 128 + 128 * V := by
                      rw [hstep.out i (by omega), hdy, HV.out]; rw [show k + 1 - (i + 1) = k - i by omega]
                    have hb64 := hfit.out i (by omega)
                    rw [hV2] at hb64
                    have HV2 := Lib.hid hV2
                    have w1 : IntKind.u64.wrap (128 * (V : Int)) = 128 * (V : Int) := IntWalk.u64_in _ (by omega)
                    have w2 : IntKind.u64.wrap (128 * (V : Int) + ((y.toNat : Int) % 128)) = 128 * (V : Int) + ((y.toNat : Int) % 128) := IntWalk.u64_in _ (by omega)
                    clear hy hdy hV2 hb64 HV
                    simp only [bv] at hc2
                    go_wp2_with fail
                    go_roundw
                    case rel => exact ⟨i, y.toNat % 128 + 128 * V, by omega, by go_num, by congr 1 <;> omega, HV2.out.symm, trivial⟩
                    case measure => (simp [intOf])
          · have hk9 : k = 9 := by omega
            have HT : Hid (lebGet b q = (0, 0, 5)) := by
              have hn : lead 9 (b.drop q) = 9 := lead_eq 9 9 _ (Nat.le_refl _) (by rw [List.length_drop]; omega) (by rw [← hk9]; exact HA.out) (.inl rfl)
              show _ = _
              have hdx := HD.out
              rw [hk9] at hdx
              unfold lebGet
              rw [if_neg (by omega)]
              simp only [Int.toNat_natCast]
              rw [hn, if_neg (by rw [List.length_drop]; omega), if_pos (.inl ⟨rfl, by rw [hdx]; omega⟩)]
            have b9 : ((k : Int) == 9) = true := by rw [beq_iff_eq]; omega
            have d9 : decide ((k : Int) < 9) = false := by rw [decide_eq_false_iff_not]; omega
            have hx1 : 1 < x.toNat := by omega
            clear hk9 hgo
            go_wp2_with fail
            go_ret3
            exact RetGet.mk HT.out (Dr.refl _)
end Go.Proofs.Ytedmamchfgkkfaa
