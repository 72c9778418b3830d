/- Layer 1 (leb) walked: put. -/
import Derived.Test.YtedmamchfgkkfaaRows
import Derived.Test.YtedmamchfgkkfaaLebSpec
namespace Go.Proofs.Ytedmamchfgkkfaa
open Go.RowKit

theorem Try.infoU8 : (Try.prog.info? 5).map (fun i => (i.zero, i.size, i.bytes)) = some (some (.int .u8 0), 1, 1) := by kernel_rfl
theorem Try.infoU64 : (Try.prog.info? 23).map (fun i => (i.zero, i.size, i.bytes)) = some (some (.int .u64 0), 1, 8) := by kernel_rfl
/-- Bytes of the call's own are handed back. -/
def RetBytes (xs : List UInt8) (w : World) (e : Ending) (w' : World) : Prop :=
  ∃ v, e = .returned v ∧ App w' w.heap.size 5 1 v xs.length (xs.map bv) ∧ Bl w w'
theorem RetBytes.mk {xs : List UInt8} {w w' : World} {v : Value} (h : App w' w.heap.size 5 1 v xs.length (xs.map bv)) (hb : Bl w w') : RetBytes xs w (.returned v) w' := ⟨v, rfl, h, hb⟩

set_option maxRecDepth 100000 in
set_option maxHeartbeats 1000000 in
theorem leb_put (A : Option Addr) (c : Nat) (ns : List Nat) (w : World) (hns : 10 * ns.length ≤ 140737488355328) (h64 : Hid (∀ n ∈ ns, n < 2 ^ 64)) (hr : Rd w A (ns.map wv)) :
    Calls Try.prog 95 #[.slice A ns.length c] w (RetBytes (lebAll ns) w) := by
  go_enter Try.func95, Try.ntmps95
  go_wp2_with fail
  go_loopw [3, 5, 8] (fun out _ i wr => ∃ k : Nat, k ≤ ns.length ∧ i = .int .i64 k ∧ App wr w.heap.size 5 1 out (lebAll (ns.take k)).length ((lebAll (ns.take k)).map bv) ∧ Hid (Bl w wr)) (fun _ _ i _ => ns.length - (intOf i).toNat)
  case atStart => exact ⟨0, Nat.zero_le _, rfl, by simpa [lebAll] using App.nil _ _ _ _, Bl.refl w⟩
  case round =>
    obtain ⟨k, hk, rfl, hown, HB⟩ := hrel
    obtain ⟨wo, rfl⟩ : ∃ wo : World, wo = wr := ⟨_, rfl⟩
    by_cases hlt : k < ns.length
    · obtain ⟨n0, hn0⟩ := get_some ns k hlt
      obtain ⟨b, o, rfl, hc⟩ := (hr.bl HB.out).get hn0
      have hle := Lib.hid (h64.out n0 (List.mem_of_getElem? hn0))
      have hall := Lib.hid (show lebAll (ns.take (k + 1)) = lebAll (ns.take k) ++ lebPut n0 by rw [List.take_add_one, hn0]; simp [lebAll_snoc])
      have hten := Lib.hid (lebAll_ten (ns := ns.take (k + 1)) (fun n hn => h64.out n (List.mem_of_mem_take hn)))
      clear hn0
      simp only [wv] at hc
      go_wp2_with fail
      go_loopw [3, 5] (fun out n wi => ∃ (p : List UInt8) (m : Nat), n = .int .u64 m ∧ Hid (m < 2 ^ 64) ∧ Hid (p ++ lebPut m = lebAll (ns.take k) ++ lebPut n0) ∧ App wi w.heap.size 5 1 out p.length (p.map bv) ∧ Hid (Bl w wi)) (fun _ n _ => (intOf n).toNat)
      case atStart => exact ⟨_, n0, rfl, hle.out, rfl, hown, HB.out⟩
      case round =>
        obtain ⟨p, m, rfl, hm, hp, hown1, HB1⟩ := hrel
        have hsz := HB1.out.size
        have hpl : p.length + (lebPut m).length ≤ 10 * ns.length := by
          have h1 := congrArg List.length hp.out
          have h2 := congrArg List.length hall.out
          have h3 := hten.out
          rw [List.length_append] at h1
          rw [List.length_take] at h3
          omega
        have hm1 := (lebPut_ten hm.out).2
        by_cases h128 : m < 128
        · have hfin := Lib.hid (show p ++ [m.toUInt8] = lebAll (ns.take (k + 1)) by rw [hall.out, ← hp.out, lebPut_small h128])
          have hw8 := Lib.hid (wrap8 m h128)
          go_wp2_with (at_builtin; go_must (refine append_one rfl _ _ 24 5 (.int .u8 0) 1 1 rfl Try.underlying24 Try.infoU8 rfl (by decide) w.heap.size hown1 (by rfl) (by rfl) (by rfl) (by intro u hu; simp at hu; subst hu; rfl) (by omega) (by omega) hsz ?_); intro v1 w1 hown2 hgr hat)
          go_roundw
          case rel =>
            refine ⟨k + 1, by omega, by go_num, ?_, HB1.out.grown hgr (fun q hq => hown1.ge q hq)⟩
            rw [← hfin.out]
            have e : (m : Int) = (m.toUInt8.toNat : Int) := by rw [u8_toNat m (by omega)]
            rw [e] at hown2
            simpa [bv] using hown2
          case measure => simp [intOf]; omega
        · go_wp2_with (at_builtin; go_must (refine append_one rfl _ _ 24 5 (.int .u8 0) 1 1 rfl Try.underlying24 Try.infoU8 rfl (by decide) w.heap.size hown1 (by rfl) (by rfl) (by rfl) (by intro u hu; simp at hu; subst hu; rfl) (by omega) (by omega) hsz ?_); intro v1 w1 hown2 hgr hat)
          go_roundw
          case rel =>
            refine ⟨p ++ [(m % 128 + 128).toUInt8], m / 128, by go_num, by have := hm.out; show m / 128 < 2 ^ 64; omega, ?_, ?_, HB1.out.grown hgr (fun q hq => hown1.ge q hq)⟩
            · show _ = _
              rw [← hp.out, lebPut_great h128]; simp
            · have e := or128 m hm.out
              rw [IntKind.wrap_u8] at e
              rw [e] at hown2
              simpa [bv] using hown2
          case measure => simp [intOf]; omega
    · obtain rfl : k = ns.length := by omega
      rw [List.take_length] at hown
      clear hk
      rcases hown.is with ⟨rfl, hz⟩ | ⟨g, o, cap, cur, rfl, hrest⟩
      · go_wp2_with fail
        go_ret
        exact RetBytes.mk hown HB.out
      · have hcc := hrest.2.2.1
        go_wp2_with fail
        go_ret
        have hcut := hown.cut _ _ (Nat.le_refl _) hcc (Nat.le_refl _)
        rw [Nat.mul_one, List.take_of_length_le (by simp)] at hcut
        exact RetBytes.mk hcut HB.out
end Go.Proofs.Ytedmamchfgkkfaa
