/- The reference of layer 1 walked: Put, PutRow, PutList, Count, GetRow, GetList. -/
import Derived.Test.YtedmamchfgkkfaaRefLebA
namespace Go.Proofs.Ytedmamchfgkkfaa
open Go.RowKit
set_option maxRecDepth 100000
set_option maxHeartbeats 1000000

theorem app_byte (w : World) (x : Int) (y : UInt8) (h : x = (y.toNat : Int)) : App (w.alloc (.cells #[.int .u8 x] 5)) w.heap.size 5 1 (.slice (some ⟨w.heap.size, 0, none⟩) 1 1) 1 ([y].map bv) := by
  subst h
  exact App.made w #[bv y] 1 (Nat.le_refl _) (by decide) rfl
theorem ref_Put_nat (k : Nat) : ∀ (n : Nat) (w : World), n < 128 ^ (k + 1) → n < 2 ^ 64 → Calls Try.prog 60 #[.int .u64 (n : Int)] w (RetBytes (lebPut n) w) := by
  have small : ∀ (n : Nat) (w : World), n < 128 → Calls Try.prog 60 #[.int .u64 (n : Int)] w (RetBytes (lebPut n) w) := by
    intro n w h1
    have HP := Lib.hid (lebPut_small h1)
    have HW := Lib.hid (wrap8 n h1)
    go_enter Try.func60, Try.ntmps60
    go_wp2_with fail
    go_ret
    refine RetBytes.mk ?_ ((Bl.refl w).alloc _)
    rw [HP.out]
    exact app_byte w _ _ (by rw [u8_toNat n (by omega)])
  induction k with
  | zero => intro n w h _; exact small n w (by simpa using h)
  | succ k ih =>
    intro n w h h64
    by_cases h1 : n < 128
    · exact small n w h1
    · have HI := Lib.hid (fun w => ih (n / 128) w (by rw [Nat.div_lt_iff_lt_mul (by decide)]; rwa [Nat.pow_succ] at h) (by omega))
      have HP := Lib.hid (lebPut_great h1)
      have HT := Lib.hid (lebPut_ten (n := n / 128) (by omega))
      have hw : IntKind.u64.wrap ((n : Int) / 128) = ((n / 128 : Nat) : Int) := by rw [IntWalk.u64_in _ (by omega)]; omega
      clear ih h h64 small
      go_enter Try.func60, Try.ntmps60
      go_wp2_with (first
        | (go_at_call 60; go_must (refine (HI.out _).mono ?_); rintro e w1 ⟨v, rfl, hown, hbl⟩; obtain ⟨A1, c1, rfl, hc1⟩ := hown.slice; have hown0 := (app_byte w ((n : Int) % 128 + 128) (n % 128 + 128).toUInt8 (by rw [u8_toNat _ (by omega)]; omega)).bl hbl; have hten := HT.out.1)
        | (at_builtin; go_must (refine append_row rfl _ _ 24 5 (.int .u8 0) 1 1 rfl Try.underlying24 Try.infoU8 rfl (by decide) w.heap.size hown0 (by rfl) (by rfl) hown.rd.1 (by simp) (bv_one _) (by omega) (by omega) (by have := hbl.size; simp at this; omega) ?_); intro v1 w2 hown2 hgr hat))
      go_ret
      refine RetBytes.mk ?_ ((((Bl.refl w).alloc _).trans hbl).grown hgr (fun q hq => hown0.ge q hq))
      rw [HP.out]
      simpa [Nat.add_comm] using hown2
theorem ref_Put (x : Int) (h0 : 0 ≤ x) (h1 : x < 18446744073709551616) (w : World) : Calls Try.prog 60 #[.int .u64 x] w (RetBytes (lebPut x.toNat) w) := by
  obtain ⟨n, rfl⟩ := Int.eq_ofNat_of_zero_le h0
  exact ref_Put_nat 9 n w (by omega) (by omega)

theorem ref_PutRow (A : Option Addr) (c : Nat) (b : List UInt8) (w : World) (hb : b.length + 10 ≤ 140737488355328) (hr : Rd w A (b.map bv)) :
    Calls Try.prog 61 #[.slice A b.length c] w (RetBytes (lebRowPut b) w) := by
  have HR := Lib.hid hr
  clear hr
  go_enter Try.func61, Try.ntmps61
  go_wp2_with (first
    | (go_at_call 60; go_must (refine (ref_Put _ (by omega) (by omega) w).mono ?_); rintro e w' ⟨v, rfl, hown, hbl⟩; have hten := (lebPut_ten (n := b.length) (by omega)).1; rw [Int.toNat_natCast] at hown; have hsz := hbl.size)
    | (at_builtin; go_must (refine append_row rfl _ _ 24 5 (.int .u8 0) 1 1 rfl Try.underlying24 Try.infoU8 rfl (by decide) w.heap.size hown (by rfl) (by rfl) (HR.out.bl hbl) (by simp) (bv_one b) (by omega) (by omega) hsz ?_); intro v1 w1 hown2 hgr hat))
  go_ret
  refine RetBytes.mk ?_ (hbl.grown hgr (fun q hq => hown.ge q hq))
  simpa [lebRowPut] using hown2

theorem ref_PutList (A : Option Addr) (c : Nat) (l : List Nat) (w : World) (hl : 10 * l.length + 10 ≤ 140737488355328) (h64 : Hid (∀ n ∈ l, n < 2 ^ 64)) (hr : Rd w A (l.map wv)) :
    Calls Try.prog 71 #[.slice A l.length c] w (RetBytes (lebListPut l) w) := by
  have HR := Lib.hid hr
  clear hr
  go_enter Try.func71, Try.ntmps71
  go_wp2_with (first
    | (go_at_call 60; go_must (refine (ref_Put _ (by omega) (by omega) w).mono ?_); rintro e w' ⟨v, rfl, hown, hbl⟩; have hten := Lib.hid (lebPut_ten (n := l.length) (by omega)).1; rw [Int.toNat_natCast] at hown))
  go_loopw [3, 4] (fun out i wr => ∃ k : Nat, k ≤ l.length ∧ i = .int .i64 k ∧ App wr w.heap.size 5 1 out (lebPut l.length ++ lebAll (l.take k)).length ((lebPut l.length ++ lebAll (l.take k)).map bv) ∧ Hid (Bl w wr)) (fun _ i _ => l.length - (intOf i).toNat)
  case atStart => exact ⟨0, Nat.zero_le _, rfl, by simpa [lebAll] using hown, hbl⟩
  case round =>
    obtain ⟨k, hk, rfl, hown1, HB⟩ := hrel
    by_cases hlt : k < l.length
    · obtain ⟨n0, hn0⟩ := get_some l k hlt
      obtain ⟨b, o, rfl, hc⟩ := (HR.out.bl HB.out).get hn0
      have hle := Lib.hid (h64.out n0 (List.mem_of_getElem? hn0))
      have hall := Lib.hid (show lebAll (l.take (k + 1)) = lebAll (l.take k) ++ lebPut n0 by rw [List.take_add_one, hn0]; simp [lebAll_snoc])
      have hlen := Lib.hid (show (lebPut l.length).length + (lebAll (l.take k)).length + (lebPut n0).length ≤ 10 * l.length + 10 by
        have h1 := lebAll_ten (ns := l.take (k + 1)) (fun n hn => h64.out n (List.mem_of_mem_take hn))
        rw [hall.out, List.length_append, List.length_take] at h1
        have := hten.out
        omega)
      clear hn0
      simp only [wv] at hc
      go_wp2_with (first
        | (go_at_call 60; go_must (refine (ref_Put _ (by omega) (by have := hle.out; omega) _).mono ?_); rintro e w1 ⟨v, rfl, hown2, hbl2⟩; rw [Int.toNat_natCast] at hown2; obtain ⟨A1, c1, rfl, hc1⟩ := hown2.slice; have hown3 := hown1.bl hbl2; have hsz := (HB.out.trans hbl2).size)
        | (at_builtin; go_must (refine append_row rfl _ _ 24 5 (.int .u8 0) 1 1 rfl Try.underlying24 Try.infoU8 rfl (by decide) w.heap.size hown3 (by rfl) (by rfl) hown2.rd.1 (by simp) (bv_one _) (by have := hlen.out; simp only [List.length_append]; omega) (by have := hlen.out; simp only [List.length_append]; omega) hsz ?_); intro v1 w2 hown4 hgr hat))
      go_roundw
      case rel =>
        refine ⟨k + 1, by omega, by go_num, ?_, (HB.out.trans hbl2).grown hgr (fun q hq => hown3.ge q hq)⟩
        rw [hall.out, ← List.append_assoc]
        simpa [Nat.add_assoc] using hown4
      case measure => simp [intOf]; omega
    · obtain rfl : k = l.length := by omega
      rw [List.take_length] at hown1
      go_wp2_with fail
      go_ret
      exact RetBytes.mk hown1 HB.out

theorem ref_Get_at (A : Option Addr) (c : Nat) (b : List UInt8) (p n m e : Int) (w : World) (hb : b.length ≤ 140737488351232) (hr : Rd w A (b.map bv)) (h : lebGet b p = (n, m, e)) :
    Calls Try.prog 65 #[.slice A b.length c, .int .i64 p] w fun e' w' => e' = .returned (.tuple #[.int .u64 n, .int .i64 m, .int .i64 e]) ∧ Dr w w' := by
  refine (ref_Get A c b p w hb hr).mono ?_
  rintro e' w' ⟨h1, h2⟩
  rw [h] at h1
  exact ⟨h1, h2⟩

theorem ref_Count (A : Option Addr) (c : Nat) (b : List UInt8) (p most : Int) (w : World) (hb : b.length ≤ 140737488351232) (hm : -9223372036854775808 ≤ most ∧ most ≤ 9223372036854775807) (hr : Rd w A (b.map bv)) :
    Calls Try.prog 84 #[.slice A b.length c, .int .i64 p, .int .i64 most] w (Ret3 (lebCount b p most) w) := by
  have HM := Lib.hid hm
  have HR := Lib.hid hr
  clear hm hr
  rcases lebGet_or b p with ⟨e, h, he, _⟩ | ⟨v, m, h, hv, hmm, _⟩
  · have hz : lebCount b p most = (0, 0, e) := by unfold lebCount; rw [h]; simp [he]
    have HZ := Lib.hid hz
    have H := Lib.hid h
    have he1 : (e != 0) = true := by simpa using he
    clear h hz he
    go_enter Try.func84, Try.ntmps84
    go_wp2_with (go_at_call 65; go_must (refine (ref_Get_at A c b p _ _ _ w hb HR.out H.out).mono ?_); rintro e w' ⟨rfl, n, rfl⟩)
    go_ret3
    exact Ret3.mk HZ.out ⟨n, rfl⟩
  · have H := Lib.hid h
    have hc : lebCount b p most = if most < 0 ∨ most < (v : Int) then (0, 0, 3) else ((v : Int), (m : Int), 0) := by unfold lebCount; rw [h]; simp
    have HC := Lib.hid hc
    have HV := Lib.hid hv
    clear h hc hv
    by_cases h0 : most < 0
    · go_enter Try.func84, Try.ntmps84
      go_wp2_with (go_at_call 65; go_must (refine (ref_Get_at A c b p _ _ _ w hb HR.out H.out).mono ?_); rintro e w' ⟨rfl, n, rfl⟩)
      go_ret3
      exact Ret3.mk (HC.out.trans (if_pos (.inl h0))) ⟨n, rfl⟩
    · have hwm : IntKind.u64.wrap most = most := IntWalk.u64_in _ (by have := HM.out; omega)
      have h0' : 0 ≤ most := by omega
      by_cases h1 : most < (v : Int)
      · go_enter Try.func84, Try.ntmps84
        go_wp2_with (go_at_call 65; go_must (refine (ref_Get_at A c b p _ _ _ w hb HR.out H.out).mono ?_); rintro e w' ⟨rfl, n, rfl⟩)
        go_ret3
        exact Ret3.mk (HC.out.trans (if_pos (.inr h1))) ⟨n, rfl⟩
      · have hwv : wrap64 (v : Int) = v := by unfold wrap64; have := HM.out; omega
        go_enter Try.func84, Try.ntmps84
        go_wp2_with (go_at_call 65; go_must (refine (ref_Get_at A c b p _ _ _ w hb HR.out H.out).mono ?_); rintro e w' ⟨rfl, n, rfl⟩)
        go_ret3
        exact Ret3.mk (HC.out.trans ((if_neg (show ¬ (most < 0 ∨ most < (v : Int)) by omega)).trans (by rw [hwv]))) ⟨n, rfl⟩
theorem ref_Count_at (A : Option Addr) (c : Nat) (b : List UInt8) (p most n m e : Int) (w : World) (hb : b.length ≤ 140737488351232) (hm : -9223372036854775808 ≤ most ∧ most ≤ 9223372036854775807) (hr : Rd w A (b.map bv)) (h : lebCount b p most = (n, m, e)) :
    Calls Try.prog 84 #[.slice A b.length c, .int .i64 p, .int .i64 most] w fun e' w' => e' = .returned (.tuple #[.int .i64 n, .int .i64 m, .int .i64 e]) ∧ Dr w w' := by
  refine (ref_Count A c b p most w hb hm hr).mono ?_
  rintro e' w' ⟨h1, h2⟩
  rw [h] at h1
  exact ⟨h1, h2⟩

theorem ref_GetRow (A : Option Addr) (c : Nat) (b : List UInt8) (p most : Int) (w : World) (hb : b.length ≤ 140737488351232) (hc : b.length ≤ c) (hm : -9223372036854775808 ≤ most ∧ most ≤ 9223372036854775807) (hr : Rd w A (b.map bv)) :
    Calls Try.prog 66 #[.slice A b.length c, .int .i64 p, .int .i64 most] w (RetRow (lebRow b p most) w) := by
  have HM := Lib.hid hm
  have HR := Lib.hid hr
  clear hm hr
  rcases lebCount_or b p most with ⟨e, h, he, _⟩ | ⟨v, m, h, hgg, hv, hmost, hmm, _⟩
  · have hz : lebRow b p most = ([], 0, e) := by unfold lebRow; rw [h]; simp [he]
    have HZ := Lib.hid hz
    have H := Lib.hid h
    have he1 : (e != 0) = true := by simpa using he
    clear h hz he
    go_enter Try.func66, Try.ntmps66
    go_wp2_with (go_at_call 84; go_must (refine (ref_Count_at A c b p most _ _ _ w hb HM.out HR.out H.out).mono ?_); rintro e w' ⟨rfl, n, rfl⟩)
    go_ret3
    exact RetRow.mk HZ.out (App.nil _ _ _ _) ((Bl.refl w).drewN n)
  · have H := Lib.hid h
    have hz : lebRow b p most = if (b.length : Int) - m < v then ([], 0, 4) else ((b.drop m).take v, (m : Int) + v, 0) := by unfold lebRow; rw [h]; simp
    have HZ := Lib.hid hz
    clear h hz hv hgg
    by_cases hlong : (b.length : Int) - m < v
    · go_enter Try.func66, Try.ntmps66
      go_wp2_with (go_at_call 84; go_must (refine (ref_Count_at A c b p most _ _ _ w hb HM.out HR.out H.out).mono ?_); rintro e w' ⟨rfl, n, rfl⟩)
      go_ret3
      exact RetRow.mk (HZ.out.trans (if_pos hlong)) (App.nil _ _ _ _) ((Bl.refl w).drewN n)
    · have hvl : m + v ≤ b.length := by omega
      go_enter Try.func66, Try.ntmps66
      go_wp2_with (first
        | (go_at_call 84; go_must (refine (ref_Count_at A c b p most _ _ _ w hb HM.out HR.out H.out).mono ?_); rintro e w' ⟨rfl, n, rfl⟩)
        | (refine cut_step rfl 24 5 1 _ _ _ _ (by rfl) Try.underlying24 Try.sizeU8 (by rfl) m (m + v) c (bounds_lh b.length c _ _ (m : Int) ((m : Int) + v) (by omega) (by omega) (by omega)) ?_; intro A1 hA1)
        | (at_builtin; go_must (refine append_row rfl _ _ 24 5 (.int .u8 0) 1 1 rfl Try.underlying24 Try.infoU8 rfl (by decide) w.heap.size (App.nil _ _ _ _) (by rfl) (by rfl) (news := ((b.drop m).take v).map bv) ?hr2 (by simp; omega) (bv_one _) (by omega) (by omega) (by simp) ?hk); (case hr2 => subst hA1; simpa using (HR.out.dr ⟨n, rfl⟩).cut 1 m c v (by omega)); intro v1 w2 hown2 hgr hat))
      go_ret3
      refine RetRow.mk (HZ.out.trans (if_neg (show ¬ ((b.length : Int) - m < v) by omega))) ?_ (((Bl.refl w).drewN n).grown hgr (fun q hq => by simp [Value.ownBlock] at hq))
      have hl : ((b.drop m).take v).length = v := by rw [List.length_take, List.length_drop]; omega
      rw [hl]
      simpa [show m + v - m = v by omega] using hown2

theorem ref_GetList (A : Option Addr) (c : Nat) (b : List UInt8) (p most : Int) (w : World) (hb : b.length ≤ 140737488351232) (hm : -9223372036854775808 ≤ most ∧ most ≤ 1000000000000) (hr : Rd w A (b.map bv)) :
    Calls Try.prog 76 #[.slice A b.length c, .int .i64 p, .int .i64 most] w (RetNums (lebList b p most) w) := by
  have HM := Lib.hid hm
  have HR := Lib.hid hr
  clear hm hr
  rcases lebCount_or b p most with ⟨e, h, he, _⟩ | ⟨v, m, h, hgg, hv, hmost, hmm, _⟩
  · have hz : lebList b p most = ([], 0, e) := by unfold lebList; rw [h]; simp [he]
    have HZ := Lib.hid hz
    have H := Lib.hid h
    have he1 : (e != 0) = true := by simpa using he
    clear h hz he
    go_enter Try.func76, Try.ntmps76
    go_wp2_with (go_at_call 84; go_must (refine (ref_Count_at A c b p most _ _ _ w hb (by have := HM.out; omega) HR.out H.out).mono ?_); rintro e w' ⟨rfl, n, rfl⟩)
    go_ret3
    exact RetNums.mk HZ.out (App.nil _ _ _ _) ((Bl.refl w).drewN n)
  · have H := Lib.hid h
    have hz : lebList b p most = lebNums b v m [] := by unfold lebList; rw [h]; simp
    have HZ := Lib.hid hz
    have hvb : v ≤ 1000000000000 := by have := HM.out; omega
    clear h hz hv hgg hmost
    go_enter Try.func76, Try.ntmps76
    go_wp2_with (first | (go_at_call 84; go_must (refine (ref_Count_at A c b p most _ _ _ w hb (by have := HM.out; omega) HR.out H.out).mono ?_); rintro e w' ⟨rfl, n, rfl⟩))
    go_loopw [10, 12, 13] (fun pl out i wr => ∃ (k : Nat) (acc : List Nat) (q : Nat), k ≤ v ∧ i = .int .i64 k ∧ pl = .int .i64 q ∧ Hid (acc.length = k) ∧ q ≤ b.length ∧ App wr w.heap.size 23 1 out k (acc.map wv) ∧ Hid (lebNums b (v - k) q acc = lebList b p most) ∧ Hid (Bl w wr)) (fun _ _ i _ => v - (intOf i).toNat)
    case atStart => exact ⟨0, [], m, Nat.zero_le _, rfl, rfl, rfl, hmm, App.nil _ _ _ _, HZ.out.symm, (Bl.refl w).drewN n⟩
    case round =>
      obtain ⟨k, acc, q, hk, rfl, rfl, HA, hq, hown, HN, HB⟩ := hrel
      by_cases hlt : k < v
      · rcases lebGet_or b q with ⟨e, h, he, _⟩ | ⟨x, m2, h, hx, hm2, _⟩
        · have hz : lebList b p most = ([], 0, e) := by rw [← HN.out, show v - k = (v - k - 1) + 1 by omega, lebNums, h]; simp [he]
          have HZ2 := Lib.hid hz
          have H2 := Lib.hid h
          have he1 : (e != 0) = true := by simpa using he
          clear h hz he
          go_wp2_with (first | (go_at_call 65; go_must (refine (ref_Get_at A c b _ _ _ _ _ hb (HR.out.bl HB.out) H2.out).mono ?_); rintro e w' ⟨rfl, n2, rfl⟩))
          go_ret3
          exact RetNums.mk HZ2.out (App.nil _ _ _ _) (HB.out.drewN n2)
        · have hz : lebNums b (v - (k + 1)) m2 (acc ++ [x]) = lebList b p most := by rw [← HN.out, show v - k = (v - (k + 1)) + 1 by omega, lebNums, h]; simp
          have HZ2 := Lib.hid hz
          have H2 := Lib.hid h
          have hsz := HB.out.size
          clear h hz hx
          go_wp2_with (first
            | (go_at_call 65; go_must (refine (ref_Get_at A c b _ _ _ _ _ hb (HR.out.bl HB.out) H2.out).mono ?_); rintro e w' ⟨rfl, n2, rfl⟩)
            | (at_builtin; go_must (refine append_one rfl _ _ 39 23 (.int .u64 0) 1 8 rfl Try.underlying39 Try.infoU64 rfl (by decide) w.heap.size (hown.bl ((Bl.refl _).drewN n2)) (by rfl) (by rfl) (by rfl) (by intro u hu; simp at hu; subst hu; rfl) (by omega) (by omega) (by simpa using hsz) ?_); intro v1 w1 hown2 hgr hat))
          go_roundw
          case rel =>
            refine ⟨k + 1, acc ++ [x], m2, by omega, by go_num, rfl, by show _ = _; rw [List.length_append, HA.out]; rfl, hm2, ?_, HZ2.out, (HB.out.drewN n2).grown hgr (fun q hq => hown.ge q hq)⟩
            simpa [wv] using hown2
          case measure => simp [intOf]; omega
      · obtain rfl : k = v := by omega
        have hfin : lebList b p most = (acc, (q : Int), 0) := by rw [← HN.out, Nat.sub_self, lebNums]
        have HF := Lib.hid hfin
        clear hfin
        go_wp2_with fail
        go_ret3
        exact RetNums.mk HF.out (by rw [HA.out]; exact hown) HB.out
end Go.Proofs.Ytedmamchfgkkfaa
