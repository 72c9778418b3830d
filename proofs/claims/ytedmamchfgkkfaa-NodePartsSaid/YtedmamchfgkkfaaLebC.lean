/- Layer 1 (leb) walked: Put, PutRow, PutList, count. -/
import Derived.Test.YtedmamchfgkkfaaLebA
import Derived.Test.YtedmamchfgkkfaaLebB
namespace Go.Proofs.Ytedmamchfgkkfaa
open Go.RowKit

theorem put_one_rd (w : World) (T : TypeId) (y : Value) : Rd (w.alloc (.cells #[y] T)) (some ⟨w.heap.size, 0, none⟩) [y] := by
  have := rd_of_block (heap_alloc_new w (.cells #[y] T)) 0 1
  simpa using this
/-- put of one number that lies in a new box. -/
theorem leb_put1 (x : Int) (h0 : 0 ≤ x) (h1 : x < 18446744073709551616) (w : World) :
    Calls Try.prog 95 #[.slice (some ⟨w.heap.size, 0, none⟩) 1 1] (w.alloc (.cells #[.int .u64 x] 23)) fun e w' => ∃ v, e = .returned v ∧ App w' w.heap.size 5 1 v (lebPut x.toNat).length ((lebPut x.toNat).map bv) ∧ Bl w w' := by
  obtain ⟨n, rfl⟩ := Int.eq_ofNat_of_zero_le h0
  refine (leb_put _ _ [n] _ (by simp) (fun m hm => by simp at hm; subst hm; show m < 2 ^ 64; omega) (put_one_rd w 23 (wv n))).mono ?_
  rintro e w' ⟨v, rfl, h2, h3⟩
  rw [show lebAll [n] = lebPut n by simp [lebAll]] at h2
  exact ⟨v, rfl, by simpa using h2.mono (by simp), Bl.trans (Bl.alloc (Bl.refl w) _) h3⟩

theorem leb_Put (x : Int) (h0 : 0 ≤ x) (h1 : x < 18446744073709551616) (w : World) : Calls Try.prog 58 #[.int .u64 x] w (RetBytes (lebPut x.toNat) w) := by
  have H1 := Lib.hid h1
  clear h1
  go_enter Try.func58, Try.ntmps58
  go_wp2_with (go_at_call 95; go_must (refine (leb_put1 x h0 H1.out w).mono ?_); rintro e w' ⟨v, rfl, hown, hbl⟩)
  go_ret
  exact RetBytes.mk hown hbl

set_option maxHeartbeats 1000000 in
theorem leb_PutRow (A : Option Addr) (c : Nat) (b : List UInt8) (w : World) (hb : b.length + 10 ≤ 140737488355328) (hr : Rd w A (b.map bv)) :
    Calls Try.prog 59 #[.slice A b.length c] w (RetBytes (lebRowPut b) w) := by
  have HR := Lib.hid hr
  clear hr
  go_enter Try.func59, Try.ntmps59
  go_wp2_with (first
    | (go_at_call 95; go_must (refine (leb_put1 _ (by omega) (by omega) w).mono ?_); rintro e w' ⟨v, rfl, hown, hbl⟩; have hten := (lebPut_ten (n := b.length) (by omega)).1; rw [Int.toNat_natCast] at hown; have hsz := hbl.size)
    | (at_builtin; go_must (refine append_row rfl _ _ 24 5 (.int .u8 0) 1 1 rfl Try.underlying24 Try.infoU8 rfl (by decide) w.heap.size hown (by rfl) (by rfl) (HR.out.bl hbl) (by simp) (bv_one b) (by omega) (by omega) hsz ?_); intro v1 w1 hown2 hgr hat))
  go_ret
  refine RetBytes.mk ?_ (hbl.grown hgr (fun q hq => hown.ge q hq))
  simpa [lebRowPut] using hown2

set_option maxHeartbeats 1000000 in
theorem leb_PutList (A : Option Addr) (c : Nat) (l : List Nat) (w : World) (hl : 10 * l.length + 10 ≤ 140737488355328) (h64 : Hid (∀ n ∈ l, n < 2 ^ 64)) (hr : Rd w A (l.map wv)) :
    Calls Try.prog 69 #[.slice A l.length c] w (RetBytes (lebListPut l) w) := by
  have HR := Lib.hid hr
  clear hr
  go_enter Try.func69, Try.ntmps69
  go_wp2_with fail
  refine (leb_put1 _ (by omega) (by omega) w).mono ?_
  rintro e w1 ⟨v, rfl, hown, hbl⟩
  have hten := (lebPut_ten (n := l.length) (by omega)).1
  have hten2 := lebAll_ten h64.out
  rw [Int.toNat_natCast] at hown
  have hsz := hbl.size
  go_wp2_with fail
  refine (leb_put A c l w1 (by omega) h64 (HR.out.bl hbl)).mono ?_
  rintro e w2 ⟨v2, rfl, hown2, hbl2⟩
  obtain ⟨A2, c2, rfl, hc2⟩ := hown2.slice
  have hown1 := hown.bl hbl2
  have hsz2 := hbl2.size
  go_wp2_with (at_builtin; go_must (refine append_row rfl _ _ 24 5 (.int .u8 0) 1 1 rfl Try.underlying24 Try.infoU8 rfl (by decide) w.heap.size hown1 (by rfl) (by rfl) hown2.rd.1 (by simp) (bv_one (lebAll l)) (by omega) (by omega) (by omega) ?_); intro v3 w3 hown3 hgr hat)
  go_ret
  refine RetBytes.mk ?_ ((hbl.trans hbl2).grown hgr (fun q hq => hown1.ge q hq))
  simpa [lebListPut] using hown3

/-- Get, its answer known. -/
theorem leb_Get_at (A : Option Addr) (c : Nat) (b : List UInt8) (p n m e : Int) (w : World) (hb : b.length ≤ 140737488351232) (hp : -9223372036854775808 ≤ p ∧ p ≤ 9223372036854775807) (hr : Rd w A (b.map bv)) (h : lebGet b p = (n, m, e)) :
    Calls Try.prog 81 #[.slice A b.length c, .int .i64 p] w fun e' w' => e' = .returned (.tuple #[.int .u64 n, .int .i64 m, .int .i64 e]) ∧ Dr w w' := by
  refine (leb_Get A c b p w hb hp hr).mono ?_
  rintro e' w' ⟨h1, h2⟩
  rw [h] at h1
  exact ⟨h1, h2⟩

def Ret3 (r : Int × Int × Int) (w : World) (e : Ending) (w' : World) : Prop := e = .returned (.tuple #[.int .i64 r.1, .int .i64 r.2.1, .int .i64 r.2.2]) ∧ Dr w w'
theorem Ret3.mk {r : Int × Int × Int} {w w' : World} {n m e : Int} (h : r = (n, m, e)) (hw : Dr w w') : Ret3 r w (.returned (.tuple #[.int .i64 n, .int .i64 m, .int .i64 e])) w' := ⟨by rw [h], hw⟩

set_option maxHeartbeats 1000000 in
theorem leb_count (A : Option Addr) (c : Nat) (b : List UInt8) (p most : Int) (w : World) (hb : b.length ≤ 140737488351232) (hp : -9223372036854775808 ≤ p ∧ p ≤ 9223372036854775807) (hm : -9223372036854775808 ≤ most ∧ most ≤ 9223372036854775807) (hr : Rd w A (b.map bv)) :
    Calls Try.prog 97 #[.slice A b.length c, .int .i64 p, .int .i64 most] w (Ret3 (lebCount b p most) w) := by
  have HP := Lib.hid hp
  have HM := Lib.hid hm
  have HR := Lib.hid hr
  clear hp hm hr
  rcases lebGet_or b p with ⟨e, h, he, _⟩ | ⟨v, m, h, hv, hmm, _⟩
  · have hz : lebCount b p most = (0, 0, e) := by unfold lebCount; rw [h]; simp [he]
    have HZ := Lib.hid hz
    have H := Lib.hid h
    have he1 : (e != 0) = true := by simpa using he
    clear h hz he
    go_enter Try.func97, Try.ntmps97
    go_wp2_with (go_at_call 81; go_must (refine (leb_Get_at A c b p _ _ _ w hb HP.out HR.out H.out).mono ?_); rintro e w' ⟨rfl, n, rfl⟩)
    go_ret3
    exact Ret3.mk HZ.out ⟨n, rfl⟩
  · have H := Lib.hid h
    have hc : lebCount b p most = if most < 0 ∨ most < (v : Int) then (0, 0, 3) else ((v : Int), (m : Int), 0) := by unfold lebCount; rw [h]; simp
    have HC := Lib.hid hc
    have HV := Lib.hid hv
    clear h hc hv
    by_cases h0 : most < 0
    · go_enter Try.func97, Try.ntmps97
      go_wp2_with (go_at_call 81; go_must (refine (leb_Get_at A c b p _ _ _ w hb HP.out HR.out H.out).mono ?_); rintro e w' ⟨rfl, n, rfl⟩)
      go_ret3
      exact Ret3.mk (HC.out.trans (if_pos (.inl h0))) ⟨n, rfl⟩
    · have hwm : IntKind.u64.wrap most = most := IntWalk.u64_in _ (by have := HM.out; omega)
      have h0' : 0 ≤ most := by omega
      by_cases h1 : most < (v : Int)
      · go_enter Try.func97, Try.ntmps97
        go_wp2_with (go_at_call 81; go_must (refine (leb_Get_at A c b p _ _ _ w hb HP.out HR.out H.out).mono ?_); rintro e w' ⟨rfl, n, rfl⟩)
        go_ret3
        exact Ret3.mk (HC.out.trans (if_pos (.inr h1))) ⟨n, rfl⟩
      · have hwv : wrap64 (v : Int) = v := by unfold wrap64; have := HM.out; omega
        go_enter Try.func97, Try.ntmps97
        go_wp2_with (go_at_call 81; go_must (refine (leb_Get_at A c b p _ _ _ w hb HP.out HR.out H.out).mono ?_); rintro e w' ⟨rfl, n, rfl⟩)
        go_ret3
        exact Ret3.mk (HC.out.trans ((if_neg (show ¬ (most < 0 ∨ most < (v : Int)) by omega)).trans (by rw [hwv]))) ⟨n, rfl⟩
end Go.Proofs.Ytedmamchfgkkfaa
