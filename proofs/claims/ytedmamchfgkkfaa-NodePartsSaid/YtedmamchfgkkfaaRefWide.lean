/- What the references share (stookref00) and small functions of Go's library walked: Wide, Left, Spoil, CopyInts, texts, bytes.Equal, slices.Equal. -/
import Derived.Test.YtedmamchfgkkfaaRefSame
import Derived.Test.YtedmamchfgkkfaaLib3
import Derived.Test.YtedmamchfgkkfaaLebD
namespace Go.Proofs.Ytedmamchfgkkfaa
open Go.RowKit
set_option maxRecDepth 100000
set_option maxHeartbeats 1000000

theorem Try.infoInt : (Try.prog.info? 3).map (fun i => (i.zero, i.size, i.bytes)) = some (some (.int .i64 0), 1, 8) := by kernel_rfl
theorem Try.infoStr : (Try.prog.info? 9).map (fun i => (i.zero, i.size, i.bytes)) = some (some (.string .empty), 1, 16) := by kernel_rfl
/-- What Wide made: b, and three bytes 7 behind its end. -/
def IsWide (w : World) (base : Nat) (g : Nat) (b : List UInt8) : Prop := App w base 5 1 (.slice (some ⟨g, 0, none⟩) (b.length + 3) (b.length + 3)) (b.length + 3) ((b ++ [7, 7, 7]).map bv)
theorem IsWide.bl {w w' : World} {base g : Nat} {b : List UInt8} (h : IsWide w base g b) (k : Bl w w') : IsWide w' base g b := App.bl h k
theorem IsWide.kept {w w' : World} {base g : Nat} {b : List UInt8} {row : Option Nat} (h : IsWide w base g b) (k : w.grownBy w' row) (hne : row ≠ some g) : IsWide w' base g b := App.kept h k (.inr (fun e => hne (by simpa [Value.ownBlock] using e.symm)))
theorem IsWide.ge {w : World} {base g : Nat} {b : List UInt8} (h : IsWide w base g b) : base ≤ g ∧ g < w.heap.size := App.lt h g rfl
theorem IsWide.rd {w : World} {base g : Nat} {b : List UInt8} (h : IsWide w base g b) : Rd w (some ⟨g, 0, none⟩) (b.map bv) := by
  have := (App.rd h).1.take b.length
  simpa using this
theorem set_seven (b : List UInt8) (k : Nat) (hk : k < 3) : ((b ++ List.replicate k 7 ++ List.replicate (3 - k) 0).map bv).set (b.length + k) (bv 7) = (b ++ List.replicate (k + 1) 7 ++ List.replicate (3 - (k + 1)) 0).map bv := by
  rw [← List.map_set]
  congr 1
  rw [List.append_assoc, List.append_assoc, List.set_append, if_neg (by omega), Nat.add_sub_cancel_left]
  congr 1
  rcases (by omega : k = 0 ∨ k = 1 ∨ k = 2) with rfl | rfl | rfl <;> simp
def RetWide (b : List UInt8) (w : World) (e : Ending) (w' : World) : Prop := ∃ g, e = .returned (.slice (some ⟨g, 0, none⟩) b.length (b.length + 3)) ∧ IsWide w' w.heap.size g b ∧ Bl w w'
theorem wide_calls (A : Option Addr) (c : Nat) (b : List UInt8) (w : World) (hb : b.length ≤ 140737488351232) (hr : Rd w A (b.map bv)) :
    Calls Try.prog 12 #[.slice A b.length c] w (RetWide b w) := by
  have HR := Lib.hid hr
  clear hr
  go_enter Try.func12, Try.ntmps12
  go_wp2_with (first
    | (at_make; go_must (refine make_step rfl 24 5 _ _ (by rfl) (.int .u8 0) 1 1 Try.underlying24 Try.infoU8 (b.length + 3) _ _ (by rfl) (by rfl) (by omega) (by omega) w.heap.size (by simp) ?_); intro w1 hown hbl1 hsz1)
    | (refine copy_step rfl _ _ 24 24 (by rfl) 5 Try.underlying24 Try.sizeU8 hown (by rfl) (by rfl) (cs := b.map bv) (by simp) (HR.out.bl hbl1) (bv_one _) ?_; intro w2 hown2 hgr2 hsz2))
  have hbl2 := Lib.hid (Bl.grown (Bl.trans (Bl.refl w) hbl1) hgr2 (fun q hq => hown.ge q hq))
  have hz : List.take (b.length + 3) (b.map bv) ++ List.drop b.length (madeCells (Value.int .u8 0).cells ((b.length + 3) * 1)).toList = (b ++ List.replicate 0 7 ++ List.replicate (3 - 0) 0).map bv := by
    rw [List.take_of_length_le (by simp)]
    simp only [List.replicate_zero, List.append_nil, List.map_append]
    congr 1
    show List.drop b.length (madeCells #[Value.int .u8 0] ((b.length + 3) * 1)).toList = _
    rw [toList_madeCells_one, List.drop_replicate, show (b.length + 3) * 1 - b.length = 3 by omega]
    simp [bv]
  rw [hz] at hown2
  clear hz hown hgr2 hbl1
  go_loopw [5] (fun i wr => ∃ k : Nat, k ≤ 3 ∧ i = .int .i64 ((b.length + k : Nat) : Int) ∧ App wr w.heap.size 5 1 (.slice (some ⟨w.heap.size, 0, none⟩) (b.length + 3) (b.length + 3)) (b.length + 3) ((b ++ List.replicate k 7 ++ List.replicate (3 - k) 0).map bv) ∧ Hid (Bl w wr)) (fun i _ => b.length + 3 - (intOf i).toNat)
  case atStart => exact ⟨0, by omega, rfl, hown2, hbl2.out⟩
  case round =>
    obtain ⟨k, hk, rfl, hown3, HB⟩ := hrel
    by_cases hlt : k < 3
    · have hst := hown3.store (b.length + k) (by omega) (bv 7)
      rw [set_seven b k hlt, Nat.zero_add] at hst
      obtain ⟨hst1, hst2⟩ := hst
      have HST1 := Lib.hid hst1
      have HST2 := Lib.hid hst2
      have hc := hown3.at (b.length + k) (by simp; omega)
      have hf := hown3.frozen (b.length + k)
      rw [Nat.zero_add] at hc
      clear hst1 hst2 hown2
      generalize ((b ++ List.replicate k 7 ++ List.replicate (3 - k) 0).map bv)[b.length + k]'(by simp; omega) = x0 at hc
      go_wp2_with fail
      go_roundw
      case rel => exact ⟨k + 1, by omega, by go_num, HST1.out, HB.out.grown HST2.out (fun q hq => by cases hq; exact Nat.le_refl _)⟩
      case measure => simp [intOf]; omega
    · obtain rfl : k = 3 := by omega
      clear hown2
      go_wp2_with (first | (refine cut_step rfl 24 5 1 _ _ _ _ (by rfl) Try.underlying24 Try.sizeU8 (by rfl) 0 b.length (b.length + 3) (bh_nat (b.length + 3) (b.length + 3) _ b.length (by omega)) ?_; intro A1 hA1; rw [cutAddr_zero] at hA1; subst hA1))
      go_ret
      refine ⟨w.heap.size, ?_, ?_, HB.out⟩
      · simp
      · simpa [IsWide] using hown3

/-- Left: what Wide made is as it was. -/
theorem left_calls (g base : Nat) (B : Option Addr) (d : Nat) (b : List UInt8) (w : World) (hb : b.length ≤ 140737488351232) (hw : IsWide w base g b) (hr : Rd w B (b.map bv)) :
    Calls Try.prog 20 #[.slice (some ⟨g, 0, none⟩) b.length (b.length + 3), .slice B b.length d] w (RetDr true w) := by
  have HW := Lib.hid hw
  have HR := Lib.hid hr
  have hat : ∀ j, j < 3 → w.cell? ⟨g, b.length + j, none⟩ = some (.int .u8 7) := fun j hj => by
    have := App.at hw (b.length + j) (by simp; omega)
    rw [Nat.zero_add] at this
    rw [this]
    rcases (by omega : j = 0 ∨ j = 1 ∨ j = 2) with rfl | rfl | rfl <;> simp [bv]
  have h0 := hat 0 (by omega)
  have h1 := hat 1 (by omega)
  have h2 := hat 2 (by omega)
  rw [Nat.add_zero] at h0
  clear hat hw hr
  go_enter Try.func20, Try.ntmps20
  go_wp2_with (first
    | (go_at_call 19; go_must (refine (same_calls _ _ _ _ b b w (by omega) HW.out.rd HR.out).mono ?_); rintro e w' ⟨rfl, n, rfl⟩; simp only [decide_true])
    | (refine cut_step rfl 24 5 1 _ _ _ _ (by rfl) Try.underlying24 Try.sizeU8 (by rfl) 0 (b.length + 3) (b.length + 3) (bounds_h b.length (b.length + 3) _ ((b.length : Int) + 3) (by omega) (by omega)) ?_; intro A1 hA1; rw [cutAddr_zero] at hA1; subst hA1))
  go_ret
  exact RetDr.mk (by simp) ⟨n, rfl⟩

/-- Spoil: writes over a slice of the call's own whose room is its length. -/
theorem spoil_calls (A : Option Addr) (base : Nat) (xs : List UInt8) (by_ : Int) (w : World) (hl : xs.length ≤ 281474976710656) (hown : App w base 5 1 (.slice A xs.length xs.length) xs.length (xs.map bv)) :
    Calls Try.prog 24 #[.slice A xs.length xs.length, .int .u8 by_] w fun e w' => e = .returned (.tuple #[]) ∧ w.grownBy w' (Value.slice A xs.length xs.length).ownBlock := by
  rcases hown.is with ⟨h1, h2⟩ | ⟨g, o, cap, cur, h1, _⟩
  · simp only [Value.slice.injEq] at h1
    obtain ⟨rfl, _, _⟩ := h1
    have hx : xs = [] := List.eq_nil_of_length_eq_zero h2
    subst hx
    clear hown h2 hl
    go_enter Try.func24, Try.ntmps24
    go_wp2_with fail
    refine wp_loop_rounds 1 ?_
    rw [rounds_succ]
    go_wp2_with fail
    go_end0
    exact ⟨rfl, ⟨rfl, rfl, rfl, Nat.le_refl _, fun _ _ _ => rfl⟩⟩
  · simp only [Value.slice.injEq] at h1
    obtain ⟨rfl, _, _⟩ := h1
    have H0 := Lib.hid hown
    clear hown
    go_enter Try.func24, Try.ntmps24
    go_wp2_with (first
      | (refine cut_step rfl 24 5 1 _ _ _ _ (by rfl) Try.underlying24 Try.sizeU8 (by rfl) 0 xs.length xs.length (bh_nat xs.length xs.length _ xs.length (by omega)) ?_; intro A1 hA1; rw [cutAddr_zero] at hA1; subst hA1))
    go_loopw [4] (fun i wr => ∃ (k : Nat) (ys : List UInt8), k ≤ xs.length ∧ i = .int .i64 k ∧ Hid (ys.length = xs.length) ∧ App wr base 5 1 (.slice (some ⟨g, o, none⟩) xs.length xs.length) xs.length (ys.map bv) ∧ Hid (w.grownBy wr (some g))) (fun i _ => xs.length - (intOf i).toNat)
    case atStart => exact ⟨0, xs, by omega, rfl, rfl, H0.out, ⟨rfl, rfl, rfl, Nat.le_refl _, fun _ _ _ => rfl⟩⟩
    case round =>
      obtain ⟨k, ys, hk, rfl, HY, hown, HB⟩ := hrel
      by_cases hlt : k < xs.length
      · obtain ⟨y, hy⟩ := get_some ys k (by rw [HY.out]; exact hlt)
        have hx8 : bits .xor .u8 (y.toNat : Int) by_ = ((UInt8.ofNat (bits .xor .u8 (y.toNat : Int) by_).toNat).toNat : Int) := by
          have h1 : 0 ≤ bits .xor .u8 (y.toNat : Int) by_ ∧ bits .xor .u8 (y.toNat : Int) by_ < 256 := by
            unfold bits
            simp only
            rw [IntKind.wrap_u8]
            omega
          have h2 : (UInt8.ofNat (bits .xor .u8 (y.toNat : Int) by_).toNat).toNat = (bits .xor .u8 (y.toNat : Int) by_).toNat := u8_toNat _ (by omega)
          rw [h2]; omega
        have hst := hown.store k (by omega) (.int .u8 (bits .xor .u8 (y.toNat : Int) by_))
        have hc := hown.at k (by simp [HY.out]; exact hlt)
        have hyk : (ys.map bv)[k]'(by simp [HY.out]; exact hlt) = bv y := by
          obtain ⟨h1, h2⟩ := List.getElem?_eq_some_iff.1 hy
          simp [h2]
        rw [hyk] at hc
        have hset : (ys.map bv).set k (.int .u8 (bits .xor .u8 (y.toNat : Int) by_)) = (ys.set k (UInt8.ofNat (bits .xor .u8 (y.toNat : Int) by_).toNat)).map bv := by
          rw [List.map_set]; congr 1; unfold bv; rw [← hx8]
        rw [hset] at hst
        have HST := Lib.hid hst
        have hf := hown.frozen (o + k)
        clear hst hset hyk hx8 hy
        simp only [bv] at hc
        go_wp2_with fail
        go_roundw
        case rel => exact ⟨k + 1, _, by omega, by go_num, by show _ = _; rw [List.length_set]; exact HY.out, HST.out.1, World.grownBy.trans HB.out HST.out.2⟩
        case measure => simp [intOf]; omega
      · go_wp2_with fail
        go_end0
        exact ⟨rfl, HB.out⟩
end Go.Proofs.Ytedmamchfgkkfaa
