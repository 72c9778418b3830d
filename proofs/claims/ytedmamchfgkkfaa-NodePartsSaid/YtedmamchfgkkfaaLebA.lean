/- Layer 1 (leb) walked: Get. -/
import Derived.Test.YtedmamchfgkkfaaRows
import Derived.Test.YtedmamchfgkkfaaLebSpec
namespace Go.Proofs.Ytedmamchfgkkfaa
open Go.RowKit

def RetGet (b : List UInt8) (p : Int) (w : World) (e : Ending) (w' : World) : Prop :=
  e = .returned (.tuple #[.int .u64 (lebGet b p).1, .int .i64 (lebGet b p).2.1, .int .i64 (lebGet b p).2.2]) ∧ Dr w w'
theorem RetGet.mk {b : List UInt8} {p : Int} {w w' : World} {n m e : Int} (h : lebGet b p = (n, m, e)) (hw : Dr w w') : RetGet b p w (.returned (.tuple #[.int .u64 n, .int .i64 m, .int .i64 e])) w' := ⟨by rw [h], hw⟩

set_option maxRecDepth 100000 in
set_option maxHeartbeats 1000000 in
theorem leb_Get (A : Option Addr) (c : Nat) (b : List UInt8) (p : Int) (w : World) (hb : b.length ≤ 140737488351232) (hp : -9223372036854775808 ≤ p ∧ p ≤ 9223372036854775807) (hr : Rd w A (b.map bv)) :
    Calls Try.prog 81 #[.slice A b.length c, .int .i64 p] w (RetGet b p w) := by
  have HP := Lib.hid hp
  clear hp
  by_cases hout : p < 0 ∨ (b.length : Int) < p
  · have hz : lebGet b p = (0, 0, 2) := by unfold lebGet; rw [if_pos hout]
    have HZ := Lib.hid hz
    clear hz
    by_cases h0 : p < 0
    · clear hout
      have h0' : decide (p < 0) = true := decide_eq_true h0
      go_enter Try.func81, Try.ntmps81
      go_wp2_with fail
      go_step3
      go_wp2_with fail
      try rw [Exit.noGoto_ret]
      go_ret3
      exact RetGet.mk HZ.out (Dr.refl w)
    · have h1 : (b.length : Int) < p := by omega
      clear hout
      go_enter Try.func81, Try.ntmps81
      go_wp2_with fail
      go_step3
      go_wp2_with fail
      try rw [Exit.noGoto_ret]
      go_ret3
      exact RetGet.mk HZ.out (Dr.refl w)
  · obtain ⟨q, rfl⟩ := Int.eq_ofNat_of_zero_le (show 0 ≤ p by omega)
    have hq : q ≤ b.length := by omega
    clear hout
    go_enter Try.func81, Try.ntmps81
    go_wp2_with fail
    go_step3
    go_wp2_with fail
    go_step3
    go_wp2_with fail
    go_loopw [4, 7] (fun n i wr => ∃ k : Nat, ∃ m : Int, k ≤ 10 ∧ q + k ≤ b.length ∧ n = .int .u64 m ∧ i = .int .i64 k ∧ wr = w ∧ Hid (∀ j, j < k → 128 ≤ ((b.drop q).getD j 0).toNat) ∧ Hid (k ≤ 9 → m = (vval ((b.drop q).take k) : Nat))) (fun _ i _ => 10 - (intOf i).toNat)
    case atStart => exact ⟨0, 0, by omega, by omega, rfl, rfl, rfl, fun j hj => by omega, fun _ => by simp [vval]⟩
    case round =>
      obtain ⟨k, m, hk, hqk, rfl, rfl, rfl, HA, HB⟩ := hrel
      by_cases hk10 : k = 10
      · subst hk10
        go_wp2_with fail
        try rw [Exit.noGoto_ret]
        go_ret3
        exact RetGet.mk (lebGet_ten hqk HA.out) (Dr.refl _)
      · by_cases hend : q + k = b.length
        · have HE := Lib.hid hend
          have he2 : ((q : Int) + (k : Int) == (b.length : Int)) = true := by rw [beq_iff_eq]; omega
          clear hend
          go_wp2_with fail
          try rw [Exit.noGoto_ret]
          go_ret3
          exact RetGet.mk (lebGet_short (by omega) HE.out HA.out) (Dr.refl _)
        · have he2 : ((q : Int) + (k : Int) == (b.length : Int)) = false := by rw [beq_eq_false_iff_ne]; omega
          obtain ⟨x, hx⟩ := get_some b (q + k) (by omega)
          obtain ⟨B, o, rfl, hc⟩ := hr.get hx
          have hd : (b.drop q).getD k 0 = x := by simp [List.getD_eq_getElem?_getD, List.getElem?_drop, hx]
          have HO := Lib.hid (fun (h8 : x.toNat < 128) => lebGet_out (by omega) hx HA.out h8)
          have HN := Lib.hid (fun (h8 : ¬ x.toNat < 128) => show 128 ≤ ((b.drop q).getD k 0).toNat by rw [hd]; omega)
          have HV := Lib.hid (fun (hk9 : k ≤ 9) (h9 : k = 9 → x.toNat % 128 ≤ 1) => show bits .or .u64 m (IntKind.u64.wrap (IntKind.u64.wrap (bits .and .u8 (x.toNat : Int) 127) * 2 ^ (7 * k))) = (vval ((b.drop q).take (k + 1)) : Nat) by
            rw [HB.out hk9, or_shift _ _ k hk9 (vval_take_lt _ k) h9, vval_take_succ _ k (by rw [List.length_drop]; omega), hd])
          clear HB hx hd
          simp only [bv] at hc
          by_cases hc8 : x.toNat < 128
          · replace HO := Lib.hid (HO.out hc8)
            clear HN
            by_cases hk9 : k = 9
            · have b9 : ((k : Int) == 9) = true := by rw [beq_iff_eq]; omega
              have b10 : ((k : Int) == 10) = false := by rw [beq_eq_false_iff_ne]; omega
              have k0 : 0 < k := by omega
              have HK9 := Lib.hid hk9
              have hklt : k < 10 := by omega
              clear hk9 hk10
              by_cases hx1 : 1 < x.toNat
              · go_wp2_with fail
                try rw [Exit.noGoto_ret]
                go_ret3
                exact RetGet.mk (HO.out.trans (if_pos (.inl ⟨HK9.out, hx1⟩))) (Dr.refl _)
              · by_cases hx0 : x.toNat = 0
                · have x0 : ((x.toNat : Int) == 0) = true := by rw [beq_iff_eq]; omega
                  have HX0 := Lib.hid hx0
                  clear hx0
                  go_wp2_with fail
                  try rw [Exit.noGoto_ret]
                  go_ret3
                  exact RetGet.mk (HO.out.trans (if_pos (.inr ⟨k0, HX0.out⟩))) (Dr.refl _)
                · have x0 : ((x.toNat : Int) == 0) = false := by rw [beq_eq_false_iff_ne]; omega
                  go_wp2_with fail
                  try rw [Exit.noGoto_ret]
                  go_ret3
                  refine RetGet.mk (HO.out.trans (if_neg (by omega)) |>.trans ?_) (Dr.refl _)
                  rw [HV.out (by have := HK9.out; omega) (by omega)]
            · have b9 : ((k : Int) == 9) = false := by rw [beq_eq_false_iff_ne]; omega
              have b10 : ((k : Int) == 10) = false := by rw [beq_eq_false_iff_ne]; omega
              by_cases hk0 : 0 < k
              · by_cases hx0 : x.toNat = 0
                · have x0 : ((x.toNat : Int) == 0) = true := by rw [beq_iff_eq]; omega
                  have HX0 := Lib.hid hx0
                  clear hx0
                  go_wp2_with fail
                  try rw [Exit.noGoto_ret]
                  go_ret3
                  exact RetGet.mk (HO.out.trans (if_pos (.inr ⟨hk0, HX0.out⟩))) (Dr.refl _)
                · have x0 : ((x.toNat : Int) == 0) = false := by rw [beq_eq_false_iff_ne]; omega
                  go_wp2_with fail
                  try rw [Exit.noGoto_ret]
                  go_ret3
                  refine RetGet.mk (HO.out.trans (if_neg (by omega)) |>.trans ?_) (Dr.refl _)
                  rw [HV.out (by omega) (by omega)]
              · go_wp2_with fail
                try rw [Exit.noGoto_ret]
                go_ret3
                refine RetGet.mk (HO.out.trans (if_neg (by omega)) |>.trans ?_) (Dr.refl _)
                rw [HV.out (by omega) (by omega)]
          · have b9 : True := trivial
            go_wp2_with fail
            go_roundw
            case rel =>
              refine ⟨k + 1, _, by omega, by omega, rfl, by go_num, trivial, fun j hj => ?_, fun h9 => HV.out (by omega) (by omega)⟩
              rcases Nat.lt_or_ge j k with h | h
              · exact HA.out j h
              · obtain rfl : j = k := by omega
                exact HN.out hc8
            case measure => simp [intOf]; omega
end Go.Proofs.Ytedmamchfgkkfaa
