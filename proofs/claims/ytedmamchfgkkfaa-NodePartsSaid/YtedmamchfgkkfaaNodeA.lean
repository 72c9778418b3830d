/- Layer 18 (node) and its reference walked: Find, Kid. -/
import Derived.Test.YtedmamchfgkkfaaRefWide
import Derived.Test.YtedmamchfgkkfaaLib6
import Derived.Test.YtedmamchfgkkfaaStrOrd
namespace Go.Proofs.Ytedmamchfgkkfaa
open Go.RowKit
set_option maxRecDepth 100000
set_option maxHeartbeats 2000000

abbrev nodeV (k : Int) (A : Option Addr) (ks c : Nat) (B : Option Addr) (vs d : Nat) (I : Option Addr) (ns ci : Nat) : Value := .agg #[.int .u8 k, .slice A ks c, .slice B vs d, .slice I ns ci]
/-- How many keys stand ahead of a key; and how many not behind it. -/
def findN (keys : List ByteArray) (key : ByteArray) : Nat := keys.countP (fun x => sLt x key)
def kidN (keys : List ByteArray) (key : ByteArray) : Nat := keys.countP (fun x => !sLt key x)
def findIs (keys : List ByteArray) (key : ByteArray) : Bool := decide (keys[findN keys key]? = some key)
theorem countP_step {α : Type} (p : α → Bool) (l : List α) (j : Nat) (x : α) (h : l[j]? = some x) : (l.take (j + 1)).countP p = (l.take j).countP p + if p x then 1 else 0 := by
  rw [List.take_add_one, h, List.countP_append]; simp [List.countP_cons]
theorem countP_le_take {α : Type} (p : α → Bool) (l : List α) (j : Nat) : (l.take j).countP p ≤ j := Nat.le_trans List.countP_le_length (by rw [List.length_take]; omega)
theorem leq_not (x y : ByteArray) : (!sLt y x) = true ↔ (Op.bytesLess x.toList y.toList = true ∨ (x.toList == y.toList) = true) := by
  constructor
  · intro h
    have h1 : sLt y x = false := by simpa using h
    cases h2 : sLt x y
    · right; rw [sLt_total h2 h1]; simp
    · left; exact h2
  · rintro (h | h)
    · rw [sLt_asymm (show sLt x y = true from h)]; rfl
    · have : x = y := str_inj (by simpa using h)
      rw [this, sLt_irrefl]; rfl
theorem node_Kid (k : Int) (A B I : Option Addr) (keys : List ByteArray) (c vs d ns ci : Nat) (key : ByteArray) (w : World) (hl : keys.length ≤ 281474976710656) (hr : Rd w A (keys.map sv)) :
    Calls Try.prog 44 #[nodeV k A keys.length c B vs d I ns ci, .string key] w (fun e w' => e = .returned (.int .i64 (kidN keys key)) ∧ Bl w w') := by
  have HR := Lib.hid hr
  have HO := Lib.hid (Ob.new w #[.int .u8 k, .slice A keys.length c, .slice B vs d, .slice I ns ci] 52)
  have HW := Lib.hid ((Bl.refl w).alloc (.cells #[.int .u8 k, .slice A keys.length c, .slice B vs d, .slice I ns ci] 52))
  clear hr
  go_enter Try.func44, Try.ntmps44
  go_wp2_with fail
  generalize w.alloc (.cells #[.int .u8 k, .slice A keys.length c, .slice B vs d, .slice I ns ci] 52) = u at HO HW ⊢
  go_loopw [5, 7, 11] (fun s _ i wr => ∃ j : Nat, j ≤ keys.length ∧ i = .int .i64 j ∧ s = .int .i64 (kidN (keys.take j) key : Nat) ∧ wr = u) (fun _ _ i _ => keys.length - (intOf i).toNat)
  case atStart => exact ⟨0, by omega, rfl, by simp [kidN], rfl⟩
  case round =>
    obtain ⟨j, hj, rfl, rfl, hwr⟩ := hrel
    have hwr2 := hwr.symm
    clear hwr
    subst hwr2
    have hm := countP_le_take (fun x => !sLt key x) keys j
    obtain ⟨o0, o1, o2, o3, _⟩ := Ob.all4 HO.out
    by_cases hlt : j < keys.length
    · obtain ⟨x, hx⟩ := get_some keys j hlt
      obtain ⟨b, o, rfl, hc⟩ := (HR.out.bl HW.out).get hx
      simp only [sv] at hc
      have hst := countP_step (fun x => !sLt key x) keys j x hx
      have HST := Lib.hid hst
      clear hx hst
      unfold kidN
      generalize (keys.take j).countP (fun x => !sLt key x) = m at HST hm ⊢
      cases hs : sLt key x
      · have HS := Lib.hid hs
        have hcmp : Op.bytesLess x.toList key.toList = true ∨ (Op.bytesLess x.toList key.toList = false ∧ (x.toList == key.toList) = true) := by
          rcases (leq_not x key).1 (by rw [hs]; rfl) with h | h
          · exact .inl h
          · cases h2 : Op.bytesLess x.toList key.toList
            · exact .inr ⟨rfl, h⟩
            · exact .inl rfl
        clear hs
        rcases hcmp with h1 | ⟨h1, h2⟩
        all_goals
          go_wp2_with fail
          go_roundw
          case rel => exact ⟨j + 1, by omega, by go_num, by rw [HST.out, HS.out]; go_num, trivial⟩
          case measure => simp [intOf]; omega
      · have HS := Lib.hid hs
        have hc1 : Op.bytesLess x.toList key.toList = false := by
          cases h : Op.bytesLess x.toList key.toList
          · rfl
          · have := (leq_not x key).2 (.inl h); rw [hs] at this; cases this
        have hc2 : (x.toList == key.toList) = false := by
          cases h : (x.toList == key.toList)
          · rfl
          · have := (leq_not x key).2 (.inr h); rw [hs] at this; cases this
        clear hs
        go_wp2_with fail
        go_roundw
        case rel => exact ⟨j + 1, by omega, by go_num, by rw [HST.out, HS.out]; simp, trivial⟩
        case measure => simp [intOf]; omega
    · obtain rfl : j = keys.length := by omega
      rw [List.take_length]
      go_wp2_with fail
      go_ret
      exact ⟨rfl, HW.out⟩
theorem ref_nodeKid (k : Int) (A B I : Option Addr) (keys : List ByteArray) (c vs d ns ci : Nat) (key : ByteArray) (w : World) (hl : keys.length ≤ 281474976710656) (hr : Rd w A (keys.map sv)) :
    Calls Try.prog 45 #[nodeV k A keys.length c B vs d I ns ci, .string key] w (fun e w' => e = .returned (.int .i64 (kidN keys key)) ∧ Bl w w') := by
  have HR := Lib.hid hr
  have HO := Lib.hid (Ob.new w #[.int .u8 k, .slice A keys.length c, .slice B vs d, .slice I ns ci] 52)
  have HW := Lib.hid ((Bl.refl w).alloc (.cells #[.int .u8 k, .slice A keys.length c, .slice B vs d, .slice I ns ci] 52))
  clear hr
  go_enter Try.func45, Try.ntmps45
  go_wp2_with fail
  generalize w.alloc (.cells #[.int .u8 k, .slice A keys.length c, .slice B vs d, .slice I ns ci] 52) = u at HO HW ⊢
  go_loopw [5, 6] (fun s i wr => ∃ j : Nat, j ≤ keys.length ∧ i = .int .i64 j ∧ s = .int .i64 (kidN (keys.take j) key : Nat) ∧ wr = u) (fun _ i _ => keys.length - (intOf i).toNat)
  case atStart => exact ⟨0, by omega, rfl, by simp [kidN], rfl⟩
  case round =>
    obtain ⟨j, hj, rfl, rfl, hwr⟩ := hrel
    have hwr2 := hwr.symm
    clear hwr
    subst hwr2
    have hm := countP_le_take (fun x => !sLt key x) keys j
    obtain ⟨o0, o1, o2, o3, _⟩ := Ob.all4 HO.out
    by_cases hlt : j < keys.length
    · obtain ⟨x, hx⟩ := get_some keys j hlt
      obtain ⟨b, o, rfl, hc⟩ := (HR.out.bl HW.out).get hx
      simp only [sv] at hc
      have hst := countP_step (fun x => !sLt key x) keys j x hx
      have HST := Lib.hid hst
      clear hx hst
      unfold kidN
      generalize (keys.take j).countP (fun x => !sLt key x) = m at HST hm ⊢
      cases hs : sLt key x
      · have HS := Lib.hid hs
        have hcmp : Op.bytesLess key.toList x.toList = false := hs
        clear hs
        go_wp2_with fail
        go_roundw
        case rel => exact ⟨j + 1, by omega, by go_num, by rw [HST.out, HS.out]; go_num, trivial⟩
        case measure => simp [intOf]; omega
      · have HS := Lib.hid hs
        have hcmp : Op.bytesLess key.toList x.toList = true := hs
        clear hs
        go_wp2_with fail
        go_roundw
        case rel => exact ⟨j + 1, by omega, by go_num, by rw [HST.out, HS.out]; simp, trivial⟩
        case measure => simp [intOf]; omega
    · obtain rfl : j = keys.length := by omega
      rw [List.take_length]
      go_wp2_with fail
      go_ret
      exact ⟨rfl, HW.out⟩
end Go.Proofs.Ytedmamchfgkkfaa
