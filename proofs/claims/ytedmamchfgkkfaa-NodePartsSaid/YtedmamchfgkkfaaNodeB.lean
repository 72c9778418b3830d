/- Layer 18 (node) and its reference walked: Find. -/
import Derived.Test.YtedmamchfgkkfaaNodeA
namespace Go.Proofs.Ytedmamchfgkkfaa
open Go.RowKit
set_option maxRecDepth 100000
set_option maxHeartbeats 2000000

def RetFind (keys : List ByteArray) (key : ByteArray) (w : World) (e : Ending) (w' : World) : Prop := e = .returned (.tuple #[.int .i64 (findN keys key), .bool (findIs keys key)]) ∧ Bl w w'
theorem RetFind.mk {keys : List ByteArray} {key : ByteArray} {w w' : World} {m : Nat} {z : Bool} (h : m = findN keys key) (h2 : z = findIs keys key) (hb : Bl w w') : RetFind keys key w (.returned (.tuple #[.int .i64 m, .bool z])) w' := by subst h h2; exact ⟨rfl, hb⟩
theorem node_Find (k : Int) (A B I : Option Addr) (keys : List ByteArray) (c vs d ns ci : Nat) (key : ByteArray) (w : World) (hl : keys.length ≤ 281474976710656) (hr : Rd w A (keys.map sv)) :
    Calls Try.prog 42 #[nodeV k A keys.length c B vs d I ns ci, .string key] w (RetFind keys key w) := by
  have HR := Lib.hid hr
  have HO := Lib.hid (Ob.new w #[.int .u8 k, .slice A keys.length c, .slice B vs d, .slice I ns ci] 52)
  have HW := Lib.hid ((Bl.refl w).alloc (.cells #[.int .u8 k, .slice A keys.length c, .slice B vs d, .slice I ns ci] 52))
  clear hr
  go_enter Try.func42, Try.ntmps42
  go_wp2_with fail
  generalize w.alloc (.cells #[.int .u8 k, .slice A keys.length c, .slice B vs d, .slice I ns ci] 52) = u at HO HW ⊢
  go_loopw [6, 8, 12] (fun s _ i wr => ∃ j : Nat, j ≤ keys.length ∧ i = .int .i64 j ∧ s = .int .i64 (findN (keys.take j) key : Nat) ∧ wr = u) (fun _ _ i _ => keys.length - (intOf i).toNat)
  case atStart => exact ⟨0, by omega, rfl, by simp [findN], rfl⟩
  case round =>
    obtain ⟨j, hj, rfl, rfl, hwr⟩ := hrel
    have hwr2 := hwr.symm
    clear hwr
    subst hwr2
    have hm := countP_le_take (fun x => sLt x key) keys j
    obtain ⟨o0, o1, o2, o3, _⟩ := Ob.all4 HO.out
    by_cases hlt : j < keys.length
    · obtain ⟨x, hx⟩ := get_some keys j hlt
      obtain ⟨b, o, rfl, hc⟩ := (HR.out.bl HW.out).get hx
      simp only [sv] at hc
      have hst := countP_step (fun x => sLt x key) keys j x hx
      have HST := Lib.hid hst
      clear hx hst
      unfold findN
      generalize (keys.take j).countP (fun x => sLt x key) = m at HST hm ⊢
      cases hs : sLt x key
      · have HS := Lib.hid hs
        have hcmp : Op.bytesLess x.toList key.toList = false := hs
        clear hs
        go_wp2_with fail
        go_roundw
        case rel => exact ⟨j + 1, by omega, by go_num, by rw [HST.out, HS.out]; simp, trivial⟩
        case measure => simp [intOf]; omega
      · have HS := Lib.hid hs
        have hcmp : Op.bytesLess x.toList key.toList = true := hs
        clear hs
        go_wp2_with fail
        go_roundw
        case rel => exact ⟨j + 1, by omega, by go_num, by rw [HST.out, HS.out]; go_num, trivial⟩
        case measure => simp [intOf]; omega
    · obtain rfl : j = keys.length := by omega
      rw [List.take_length]
      have HM := Lib.hid (show keys.countP (fun x => sLt x key) = findN keys key from rfl)
      rw [List.take_length] at hm
      unfold findN
      generalize keys.countP (fun x => sLt x key) = m at HM hm ⊢
      by_cases hmk : m < keys.length
      · obtain ⟨x, hx⟩ := get_some keys m hmk
        obtain ⟨b, o, rfl, hc⟩ := (HR.out.bl HW.out).get hx
        simp only [sv] at hc
        have HI := Lib.hid (show (x.toList == key.toList) = findIs keys key by
          unfold findIs
          rw [← HM.out, hx, Bool.eq_iff_iff]
          simp only [beq_iff_eq, decide_eq_true_eq, Option.some.injEq]
          exact ⟨str_inj, fun h => by rw [h]⟩)
        clear hx
        go_wp2_with fail
        go_quiet (fail)
        go_wp2_with fail
        go_ret2
        exact RetFind.mk HM.out HI.out (HW.out.drewN _)
      · have HI := Lib.hid (show false = findIs keys key by
          unfold findIs
          rw [← HM.out, List.getElem?_eq_none (by omega)]; simp)
        go_wp2_with fail
        go_quiet (fail)
        go_wp2_with fail
        go_ret2
        exact RetFind.mk HM.out HI.out (HW.out.drewN _)
theorem ref_nodeFind (k : Int) (A B I : Option Addr) (keys : List ByteArray) (c vs d ns ci : Nat) (key : ByteArray) (w : World) (hl : keys.length ≤ 281474976710656) (hr : Rd w A (keys.map sv)) :
    Calls Try.prog 43 #[nodeV k A keys.length c B vs d I ns ci, .string key] w (RetFind keys key w) := by
  have HR := Lib.hid hr
  have HO := Lib.hid (Ob.new w #[.int .u8 k, .slice A keys.length c, .slice B vs d, .slice I ns ci] 52)
  have HW := Lib.hid ((Bl.refl w).alloc (.cells #[.int .u8 k, .slice A keys.length c, .slice B vs d, .slice I ns ci] 52))
  clear hr
  go_enter Try.func43, Try.ntmps43
  go_wp2_with fail
  generalize w.alloc (.cells #[.int .u8 k, .slice A keys.length c, .slice B vs d, .slice I ns ci] 52) = u at HO HW ⊢
  go_loopw [6, 7] (fun s i wr => ∃ j : Nat, j ≤ keys.length ∧ i = .int .i64 j ∧ s = .int .i64 (findN (keys.take j) key : Nat) ∧ wr = u) (fun _ i _ => keys.length - (intOf i).toNat)
  case atStart => exact ⟨0, by omega, rfl, by simp [findN], rfl⟩
  case round =>
    obtain ⟨j, hj, rfl, rfl, hwr⟩ := hrel
    have hwr2 := hwr.symm
    clear hwr
    subst hwr2
    have hm := countP_le_take (fun x => sLt x key) keys j
    obtain ⟨o0, o1, o2, o3, _⟩ := Ob.all4 HO.out
    by_cases hlt : j < keys.length
    · obtain ⟨x, hx⟩ := get_some keys j hlt
      obtain ⟨b, o, rfl, hc⟩ := (HR.out.bl HW.out).get hx
      simp only [sv] at hc
      have hst := countP_step (fun x => sLt x key) keys j x hx
      have HST := Lib.hid hst
      clear hx hst
      unfold findN
      generalize (keys.take j).countP (fun x => sLt x key) = m at HST hm ⊢
      cases hs : sLt x key
      · have HS := Lib.hid hs
        have hcmp : Op.bytesLess x.toList key.toList = false := hs
        clear hs
        go_wp2_with fail
        go_roundw
        case rel => exact ⟨j + 1, by omega, by go_num, by rw [HST.out, HS.out]; simp, trivial⟩
        case measure => simp [intOf]; omega
      · have HS := Lib.hid hs
        have hcmp : Op.bytesLess x.toList key.toList = true := hs
        clear hs
        go_wp2_with fail
        go_roundw
        case rel => exact ⟨j + 1, by omega, by go_num, by rw [HST.out, HS.out]; go_num, trivial⟩
        case measure => simp [intOf]; omega
    · obtain rfl : j = keys.length := by omega
      rw [List.take_length]
      have HM := Lib.hid (show keys.countP (fun x => sLt x key) = findN keys key from rfl)
      rw [List.take_length] at hm
      unfold findN
      generalize keys.countP (fun x => sLt x key) = m at HM hm ⊢
      by_cases hmk : m < keys.length
      · obtain ⟨x, hx⟩ := get_some keys m hmk
        obtain ⟨b, o, rfl, hc⟩ := (HR.out.bl HW.out).get hx
        simp only [sv] at hc
        have HI := Lib.hid (show (x.toList == key.toList) = findIs keys key by
          unfold findIs
          rw [← HM.out, hx, Bool.eq_iff_iff]
          simp only [beq_iff_eq, decide_eq_true_eq, Option.some.injEq]
          exact ⟨str_inj, fun h => by rw [h]⟩)
        clear hx
        go_wp2_with fail
        go_quiet (fail)
        go_wp2_with fail
        go_ret2
        exact RetFind.mk HM.out HI.out (HW.out.drewN _)
      · have HI := Lib.hid (show false = findIs keys key by
          unfold findIs
          rw [← HM.out, List.getElem?_eq_none (by omega)]; simp)
        go_wp2_with fail
        go_quiet (fail)
        go_wp2_with fail
        go_ret2
        exact RetFind.mk HM.out HI.out (HW.out.drewN _)
end Go.Proofs.Ytedmamchfgkkfaa
