/- Layer 1 (leb) walked: GetRow, GetList. -/
import Derived.Test.YtedmamchfgkkfaaLebC
import Derived.Test.YtedmamchfgkkfaaLib2
namespace Go.Proofs.Ytedmamchfgkkfaa
open Go.RowKit

theorem leb_count_at (A : Option Addr) (c : Nat) (b : List UInt8) (p most n m e : Int) (w : World) (hb : b.length ≤ 140737488351232) (hp : -9223372036854775808 ≤ p ∧ p ≤ 9223372036854775807) (hm : -9223372036854775808 ≤ most ∧ most ≤ 9223372036854775807) (hr : Rd w A (b.map bv)) (h : lebCount b p most = (n, m, e)) :
    Calls Try.prog 97 #[.slice A b.length c, .int .i64 p, .int .i64 most] w fun e' w' => e' = .returned (.tuple #[.int .i64 n, .int .i64 m, .int .i64 e]) ∧ Dr w w' := by
  refine (leb_count A c b p most w hb hp hm hr).mono ?_
  rintro e' w' ⟨h1, h2⟩
  rw [h] at h1
  exact ⟨h1, h2⟩
theorem Try.sizeU8 : (Try.prog.info? 5).map (·.size) = some 1 := by kernel_rfl
/-- A row, a place, an error. -/
def RetRow (r : List UInt8 × Int × Int) (w : World) (e : Ending) (w' : World) : Prop :=
  ∃ v, e = .returned (.tuple #[v, .int .i64 r.2.1, .int .i64 r.2.2]) ∧ App w' w.heap.size 5 1 v r.1.length (r.1.map bv) ∧ Bl w w'
theorem RetRow.mk {r : List UInt8 × Int × Int} {w w' : World} {v : Value} {xs : List UInt8} {m e : Int} (h : r = (xs, m, e)) (ho : App w' w.heap.size 5 1 v xs.length (xs.map bv)) (hw : Bl w w') : RetRow r w (.returned (.tuple #[v, .int .i64 m, .int .i64 e])) w' := by subst h; exact ⟨v, rfl, ho, hw⟩

/-- A row whose room is its length, a place, an error. -/
def RetRowX (r : List UInt8 × Int × Int) (w : World) (e : Ending) (w' : World) : Prop :=
  ∃ A, e = .returned (.tuple #[.slice A r.1.length r.1.length, .int .i64 r.2.1, .int .i64 r.2.2]) ∧ App w' w.heap.size 5 1 (.slice A r.1.length r.1.length) r.1.length (r.1.map bv) ∧ Bl w w'
theorem RetRowX.mk {r : List UInt8 × Int × Int} {w w' : World} {A : Option Addr} {n : Nat} {xs : List UInt8} {m e : Int} (h : r = (xs, m, e)) (hn : n = xs.length) (ho : App w' w.heap.size 5 1 (.slice A n n) n (xs.map bv)) (hw : Bl w w') : RetRowX r w (.returned (.tuple #[.slice A n n, .int .i64 m, .int .i64 e])) w' := by subst h; subst hn; exact ⟨A, rfl, ho, hw⟩
set_option maxRecDepth 100000 in
set_option maxHeartbeats 1000000 in
theorem leb_GetRow (A : Option Addr) (c : Nat) (b : List UInt8) (p most : Int) (w : World) (hb : b.length ≤ 140737488351232) (hc : b.length ≤ c) (hp : -9223372036854775808 ≤ p ∧ p ≤ 9223372036854775807) (hm : -9223372036854775808 ≤ most ∧ most ≤ 9223372036854775807) (hr : Rd w A (b.map bv)) :
    Calls Try.prog 83 #[.slice A b.length c, .int .i64 p, .int .i64 most] w (RetRowX (lebRow b p most) w) := by
  have HP := Lib.hid hp
  have HM := Lib.hid hm
  have HR := Lib.hid hr
  clear hp hm hr
  rcases lebCount_or b p most with ⟨e, h, he, _⟩ | ⟨v, m, h, hgg, hv, hmost, hmm, _⟩
  · have hz : lebRow b p most = ([], 0, e) := by unfold lebRow; rw [h]; simp [he]
    have HZ := Lib.hid hz
    have H := Lib.hid h
    have he1 : (e != 0) = true := by simpa using he
    clear h hz he
    go_enter Try.func83, Try.ntmps83
    go_wp2_with (go_at_call 97; go_must (refine (leb_count_at A c b p most _ _ _ w hb HP.out HM.out HR.out H.out).mono ?_); rintro e w' ⟨rfl, n, rfl⟩)
    go_ret3
    exact RetRowX.mk HZ.out rfl (App.nil _ _ _ _) ((Bl.refl w).drewN n)
  · have H := Lib.hid h
    have hz : lebRow b p most = if (b.length : Int) - m < v then ([], 0, 4) else ((b.drop m).take v, (m : Int) + v, 0) := by unfold lebRow; rw [h]; simp
    have HZ := Lib.hid hz
    clear h hz hv hgg
    by_cases hlong : (b.length : Int) - m < v
    · go_enter Try.func83, Try.ntmps83
      go_wp2_with (go_at_call 97; go_must (refine (leb_count_at A c b p most _ _ _ w hb HP.out HM.out HR.out H.out).mono ?_); rintro e w' ⟨rfl, n, rfl⟩)
      go_ret3
      exact RetRowX.mk (HZ.out.trans (if_pos hlong)) rfl (App.nil _ _ _ _) ((Bl.refl w).drewN n)
    · have hvl : m + v ≤ b.length := by omega
      go_enter Try.func83, Try.ntmps83
      go_wp2_with (first
        | (go_at_call 97; go_must (refine (leb_count_at A c b p most _ _ _ w hb HP.out HM.out HR.out H.out).mono ?_); rintro e w' ⟨rfl, n, rfl⟩)
        | (at_make; go_must (refine make_step rfl 24 5 _ _ (by rfl) (.int .u8 0) 1 1 Try.underlying24 Try.infoU8 v _ _ (by rfl) (by rfl) (by omega) (by omega) w.heap.size (by simp) ?_); intro w1 hown hbl1 hsz1)
        | (refine cut_step rfl 24 5 1 _ _ _ _ (by rfl) Try.underlying24 Try.sizeU8 (by rfl) m b.length c (bl_nat b.length c _ m hmm) ?_; intro A1 hA1)
        | (refine copy_step rfl _ _ 24 24 (by rfl) 5 Try.underlying24 Try.sizeU8 hown (by rfl) (by rfl) (cs := (b.drop m).map bv) (by simp) ?hr2 (bv_one _) ?hk2; (case hr2 => subst hA1; simpa using ((HR.out.dr ⟨n, rfl⟩).bl hbl1).cutTo 1 m c (by simp; omega)); intro w2 hown2 hgr2 hsz2))
      go_ret3
      have hl : ((b.drop m).take v).length = v := by rw [List.length_take, List.length_drop]; omega
      refine RetRowX.mk (HZ.out.trans (if_neg (show ¬ ((b.length : Int) - m < v) by omega))) hl.symm ?_ ((((Bl.refl w).drewN n).trans hbl1).grown hgr2 (fun q hq => hown.ge q hq))
      have h0 : List.drop (b.length - m) (madeCells (Value.int .u8 0).cells (v * 1)).toList = [] := List.drop_eq_nil_of_le (by rw [Array.length_toList, size_madeCells]; omega)
      rw [h0, List.append_nil, ← List.map_take] at hown2
      exact hown2

/-- Numbers, a place, an error. -/
def RetNums (r : List Nat × Int × Int) (w : World) (e : Ending) (w' : World) : Prop :=
  ∃ v, e = .returned (.tuple #[v, .int .i64 r.2.1, .int .i64 r.2.2]) ∧ App w' w.heap.size 23 1 v r.1.length (r.1.map wv) ∧ Bl w w'
theorem RetNums.mk {r : List Nat × Int × Int} {w w' : World} {v : Value} {xs : List Nat} {m e : Int} (h : r = (xs, m, e)) (ho : App w' w.heap.size 23 1 v xs.length (xs.map wv)) (hw : Bl w w') : RetNums r w (.returned (.tuple #[v, .int .i64 m, .int .i64 e])) w' := by subst h; exact ⟨v, rfl, ho, hw⟩

set_option maxRecDepth 100000 in
set_option maxHeartbeats 1000000 in
theorem leb_GetList (A : Option Addr) (c : Nat) (b : List UInt8) (p most : Int) (w : World) (hb : b.length ≤ 140737488351232) (hp : -9223372036854775808 ≤ p ∧ p ≤ 9223372036854775807) (hm : -9223372036854775808 ≤ most ∧ most ≤ 1000000000000) (hr : Rd w A (b.map bv)) :
    Calls Try.prog 75 #[.slice A b.length c, .int .i64 p, .int .i64 most] w (RetNums (lebList b p most) w) := by
  have HP := Lib.hid hp
  have HM := Lib.hid hm
  have HR := Lib.hid hr
  clear hp hm hr
  rcases lebCount_or b p most with ⟨e, h, he, _⟩ | ⟨v, m, h, hgg, hv, hmost, hmm, _⟩
  · have hz : lebList b p most = ([], 0, e) := by unfold lebList; rw [h]; simp [he]
    have HZ := Lib.hid hz
    have H := Lib.hid h
    have he1 : (e != 0) = true := by simpa using he
    clear h hz he
    go_enter Try.func75, Try.ntmps75
    go_wp2_with (go_at_call 97; go_must (refine (leb_count_at A c b p most _ _ _ w hb HP.out (by have := HM.out; omega) HR.out H.out).mono ?_); rintro e w' ⟨rfl, n, rfl⟩)
    go_ret3
    exact RetNums.mk HZ.out (App.nil _ _ _ _) ((Bl.refl w).drewN n)
  · have H := Lib.hid h
    have hz : lebList b p most = lebNums b v m [] := by unfold lebList; rw [h]; simp
    have HZ := Lib.hid hz
    have hvb : v ≤ 1000000000000 := by have := HM.out; omega
    clear h hz hv hgg hmost
    go_enter Try.func75, Try.ntmps75
    go_wp2_with (first | (go_at_call 97; go_must (refine (leb_count_at A c b p most _ _ _ w hb HP.out (by have := HM.out; omega) HR.out H.out).mono ?_); rintro e w' ⟨rfl, n, rfl⟩))
    go_loopw [6, 7, 25] (fun out pl i wr => ∃ (k : Nat) (acc : List Nat) (q : Nat), k ≤ v ∧ i = .int .i64 k ∧ pl = .int .i64 q ∧ Hid (acc.length = k) ∧ q ≤ b.length ∧ App wr w.heap.size 23 1 out k (acc.map wv) ∧ Hid (lebNums b (v - k) q acc = lebList b p most) ∧ Hid (Bl w wr)) (fun _ _ i _ => v - (intOf i).toNat)
    case atStart => exact ⟨0, [], m, Nat.zero_le _, rfl, rfl, rfl, hmm, App.nil _ _ _ _, HZ.out.symm, (Bl.refl w).drewN n⟩
    case round =>
      obtain ⟨k, acc, q, hk, rfl, rfl, HA, hq, hown, HN, HB⟩ := hrel
      by_cases hlt : k < v
      · rcases lebGet_or b q with ⟨e, h, he, _⟩ | ⟨x, m2, h, hx, hm2, _⟩
        · have hz : lebList b p most = ([], 0, e) := by rw [← HN.out, show v - k = (v - k - 1) + 1 by omega, lebNums, h]; simp [he]
          have HZ2 := Lib.hid hz
          have H2 := Lib.hid h
          have he1 : (e != 0) = true := by simpa using he
          clear h hz he
          go_wp2_with (first | (go_at_call 81; go_must (refine (leb_Get_at A c b _ _ _ _ _ hb (by omega) (HR.out.bl HB.out) H2.out).mono ?_); rintro e w' ⟨rfl, n2, rfl⟩))
          go_ret3
          exact RetNums.mk HZ2.out (App.nil _ _ _ _) (HB.out.drewN n2)
        · have hz : lebNums b (v - (k + 1)) m2 (acc ++ [x]) = lebList b p most := by rw [← HN.out, show v - k = (v - (k + 1)) + 1 by omega, lebNums, h]; simp
          have HZ2 := Lib.hid hz
          have H2 := Lib.hid h
          have hsz := HB.out.size
          clear h hz hx
          go_wp2_with (first
            | (go_at_call 81; go_must (refine (leb_Get_at A c b _ _ _ _ _ hb (by omega) (HR.out.bl HB.out) H2.out).mono ?_); rintro e w' ⟨rfl, n2, rfl⟩)
            | (at_builtin; go_must (refine append_one rfl _ _ 39 23 (.int .u64 0) 1 8 rfl Try.underlying39 Try.infoU64 rfl (by decide) w.heap.size (hown.bl ((Bl.refl _).drewN n2)) (by rfl) (by rfl) (by rfl) (by intro u hu; simp at hu; subst hu; rfl) (by omega) (by omega) (by simpa using hsz) ?_); intro v1 w1 hown2 hgr hat))
          go_roundw
          case rel =>
            refine ⟨k + 1, acc ++ [x], m2, by omega, by go_num, rfl, by show _ = _; rw [List.length_append, HA.out]; rfl, hm2, ?_, HZ2.out, (HB.out.drewN n2).grown hgr (fun q hq => hown.ge q hq)⟩
            simpa [wv] using hown2
          case measure => simp [intOf]; omega
      · obtain rfl : k = v := by omega
        have hfin : lebList b p most = (acc, (q : Int), 0) := by rw [← HN.out, Nat.sub_self, lebNums]
        have HF := Lib.hid hfin
        clear hfin
        go_wp2_with fail
        go_ret3
        exact RetNums.mk HF.out (by rw [HA.out]; exact hown) HB.out
end Go.Proofs.Ytedmamchfgkkfaa
