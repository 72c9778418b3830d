/- The law of layer 22 walked: DeedBack. -/
import Derived.Test.YtpcbigadnkeflaaDeedBackS
import Derived.Test.YtpcbigadnkeflaaAnsG
namespace Go.Proofs.Ytpcbigadnkeflaa
open Go.RowKit
set_option maxRecDepth 100000
set_option maxHeartbeats 2000000

theorem deedPut_ok {k id n : Int} {b xs : List UInt8} {e : Int} (hid : id < 18446744073709551616) (h : deedPut k id n b = (xs, e)) : xs.length ≤ 70000 ∧ (e ≠ 0 → deedMay k id n b.length = false ∨ 65504 < b.length) := by
  have hl := deedPut_len k id n b hid
  unfold deedPut at h
  split at h
  · rename_i hm; simp only [Prod.mk.injEq] at h; obtain ⟨rfl, rfl⟩ := h; exact ⟨by simp, fun _ => .inl hm⟩
  · split at h
    · rename_i hm; simp only [Prod.mk.injEq] at h; obtain ⟨rfl, rfl⟩ := h; exact ⟨by simp, fun _ => .inr hm⟩
    · rename_i hm hlen
      simp only [Prod.mk.injEq] at h
      obtain ⟨rfl, rfl⟩ := h
      refine ⟨?_, fun h => absurd rfl h⟩
      unfold deedPut at hl
      rw [if_neg hm, if_neg hlen] at hl
      simp only at hl
      omega
theorem ansPut_ok {e id n : Int} {b xs : List UInt8} {is : List Nat} {more : Bool} {er : Int} (h0 : id < 18446744073709551616) (h1 : n < 9223372036854775808) (h64 : ∀ n ∈ is, n < 2 ^ 64) (h : ansPut e id n b is more = (xs, er)) : xs.length ≤ 1000000 := by
  unfold ansPut at h
  split at h
  · simp only [Prod.mk.injEq] at h; obtain ⟨rfl, rfl⟩ := h; simp
  · rename_i hm
    simp only [Prod.mk.injEq] at h; obtain ⟨rfl, rfl⟩ := h
    have hq : 0 ≤ e ∧ e ≤ 13 ∧ 0 ≤ n ∧ b.length ≤ 65536 ∧ is.length ≤ 65536 := by simp only [ansMay, decide_eq_false_iff_not, Classical.not_not] at hm; omega
    have h1 := (lebPut_ten (n := id.toNat) (by omega)).1
    have h2 := (lebPut_ten (n := n.toNat) (by omega)).1
    have h4 := (lebPut_ten (n := e.toNat) (by omega)).1
    have h3 := lebRowPut_len b (by omega)
    have h5 := lebListPut_len is (by omega) h64
    simp only [ansBytes, List.length_append, List.length_singleton]
    omega
theorem deedGet_id (b : List UInt8) : 0 ≤ (deedGet b).id ∧ (deedGet b).id < 18446744073709551616 := by
  have h := took_facts b 1 0 65504
  unfold deedGet
  split
  · simp [deedNo]
  · split
    · simp [deedNo]
    · split
      · simp [deedNo]
      · split
        · simp [deedNo]
        · exact ⟨h.1, h.2.1⟩
theorem ansGet_ids (b : List UInt8) (hb : b.length ≤ 140737488351232) : (0 ≤ (ansGet b).id ∧ (ansGet b).id < 18446744073709551616) ∧ (ansGet b).n < 9223372036854775808 ∧ ∀ x ∈ (ansGet b).ids, x < 2 ^ 64 := by
  have h := took3_facts b hb
  have h2 : ∀ x ∈ (lebList b (took3 b).p 65536).1, x < 18446744073709551616 := by
    rcases lebList_or b (took3 b).p 65536 with ⟨e, h, _⟩ | ⟨ids, m, h, _, _, hx⟩
    · rw [h]; simp
    · rw [h]; exact hx
  unfold ansGet
  split
  · simp [ansNo]
  · split
    · simp [ansNo]
    · split
      · simp [ansNo]
      · split
        · simp [ansNo]
        · rename_i hbad
          exact ⟨⟨h.2.2.1, h.2.2.2.1⟩, by simp only; omega, fun x hx => h2 x hx⟩
theorem back_calls (k id n : Int) (A : Option Addr) (db : List UInt8) (c : Nat) (e aid an : Int) (more : Bool) (B I : Option Addr) (cx ci : Nat) (xs : List UInt8) (us : List Nat) (G : Option Addr) (b : List UInt8) (cb : Nat) (w : World)
    (hdb : db.length ≤ 140737488351232) (hxs : xs.length ≤ 140737488351232) (hus : us.length ≤ 140737488351232) (hb : b.length ≤ 140737488351232) (hbd : b.length ≤ cb) (hid : Hid (0 ≤ id ∧ id < 18446744073709551616)) (haid : Hid (0 ≤ aid ∧ aid < 18446744073709551616)) (han : Hid (an < 9223372036854775808)) (h64 : Hid (∀ n ∈ us, n < 2 ^ 64))
    (hd : Rd w A (db.map bv)) (hx : Rd w B (xs.map bv)) (hu : Rd w I (us.map wv)) (hg : Rd w G (b.map bv)) :
    Calls Try.prog 7 #[deedV k id n A db.length c, ansV e aid an B xs.length cx I us.length ci more, .slice G b.length cb] w (RetBl true w) := by
  have HDD := Lib.hid hd
  have HX := Lib.hid hx
  have HU := Lib.hid hu
  have HG := Lib.hid hg
  clear hd hx hu hg
  have HLD := Lib.hid (show db.length ≤ 281474976710656 by omega)
  have HLX := Lib.hid (show xs.length ≤ 281474976710656 by omega)
  have HLU := Lib.hid (show us.length ≤ 281474976710656 by omega)
  have HC : Hid (∀ w' : World, Bl ((w.alloc (.cells #[.int .u8 k, .int .u64 id, .int .i64 n, .slice A db.length c] 26)).alloc (.cells #[.int .i64 e, .int .u64 aid, .int .i64 an, .slice B xs.length cx, .slice I us.length ci, .bool more] 56)) w' → w'.cell? ⟨w.heap.size, 0, none⟩ = some (.int .u8 k) ∧ w'.cell? ⟨w.heap.size, 1, none⟩ = some (.int .u64 id) ∧ w'.cell? ⟨w.heap.size, 2, none⟩ = some (.int .i64 n) ∧ w'.cell? ⟨w.heap.size, 3, none⟩ = some (.slice A db.length c)) := fun w' h => by
    obtain ⟨a0, a1, a2, a3, _⟩ := Ob.all4 (((Ob.new w _ 26).bl ((Bl.refl _).alloc _)).bl h)
    exact ⟨a0, a1, a2, a3⟩
  have HCA : Hid (∀ w' : World, Bl ((w.alloc (.cells #[.int .u8 k, .int .u64 id, .int .i64 n, .slice A db.length c] 26)).alloc (.cells #[.int .i64 e, .int .u64 aid, .int .i64 an, .slice B xs.length cx, .slice I us.length ci, .bool more] 56)) w' → w'.cell? ⟨w.heap.size + 1, 0, none⟩ = some (.int .i64 e) ∧ w'.cell? ⟨w.heap.size + 1, 1, none⟩ = some (.int .u64 aid) ∧ w'.cell? ⟨w.heap.size + 1, 2, none⟩ = some (.int .i64 an) ∧ w'.cell? ⟨w.heap.size + 1, 3, none⟩ = some (.slice B xs.length cx) ∧ w'.cell? ⟨w.heap.size + 1, 4, none⟩ = some (.slice I us.length ci) ∧ w'.cell? ⟨w.heap.size + 1, 5, none⟩ = some (.bool more)) := fun w' h => by
    obtain ⟨b0, b1, b2, b3, b4, b5, _⟩ := Ob.all6 ((Ob.new (w.alloc (.cells #[.int .u8 k, .int .u64 id, .int .i64 n, .slice A db.length c] 26)) _ 56).bl h)
    exact ⟨by simpa using b0, by simpa using b1, by simpa using b2, by simpa using b3, by simpa using b4, by simpa using b5⟩
  have HL := Lib.hid (((Bl.refl w).alloc (.cells #[.int .u8 k, .int .u64 id, .int .i64 n, .slice A db.length c] 26)).alloc (.cells #[.int .i64 e, .int .u64 aid, .int .i64 an, .slice B xs.length cx, .slice I us.length ci, .bool more] 56))
  obtain ⟨ps, er, hput⟩ : ∃ ps er, deedPut k id n db = (ps, er) := ⟨_, _, rfl⟩
  have HOK := Lib.hid (deedPut_ok hid.out.2 hput)
  have HPUT := Lib.hid hput
  obtain ⟨qs, eq, haput⟩ : ∃ ps er, ansPut e aid an xs us more = (ps, er) := ⟨_, _, rfl⟩
  have HAOK := Lib.hid (ansPut_ok haid.out.2 han.out h64.out haput)
  have HAPUT := Lib.hid haput
  clear hput haput
  have HID := Lib.hid hid.out.2
  go_enter Try.func7, Try.ntmps7
  go_wp2_with fail
  refine (deed_Put k id n A db c _ HLD.out hid.out.1 HID (HDD.out.bl HL.out)).mono ?_
  rw [HPUT.out]
  rintro z w3 ⟨v3, rfl, hown3, hbl3⟩
  obtain ⟨A3, c3, rfl, hcc3⟩ := hown3.slice
  have HP3 := Lib.hid hown3.rd.1
  have HB3 := Lib.hid hbl3
  have HCC3 := Lib.hid (show ps.length ≤ c3 from hcc3)
  have HPL := Lib.hid (show ps.length ≤ 140737488351232 by have := HOK.out.1; omega)
  clear hown3 hbl3 hcc3
  go_upto_if 26 with (fail)
  go_cut [] (fun wx => Hid (Bl w3 wx))
  case first =>
    by_cases her : er = 0
    · subst her
      have hthere := deed_there hid.out HPUT.out
      have hget := deed_Get A3 c3 ps w3 HPL.out HCC3.out HP3.out
      rw [hthere] at hget
      have HGET := Lib.hid hget
      clear hget hthere
      go_wp2_with fail
      refine HGET.out.mono ?_
      rintro z w4 ⟨B4, rfl, hown4, hbl4⟩
      have HO4 := Lib.hid hown4.rd.1
      have HB4 := Lib.hid (hbl4.alloc (.cells #[.int .u8 k, .int .u64 id, .int .i64 n, .slice B4 db.length db.length] 26))
      obtain ⟨a0, a1, a2, a3⟩ := HC.out _ (HB3.out.trans HB4.out)
      clear hown4 hbl4
      go_wp2_with fail
      refine (same_deed_self k id n B4 A _ _ _ _ db _ rfl rfl HLD.out (HO4.out.bl ((Bl.refl _).alloc _)) (HDD.out.bl (HL.out.trans (HB3.out.trans HB4.out)))).mono ?_
      rintro z w5 ⟨rfl, hbl5⟩
      have HB5 := Lib.hid (HB4.out.trans hbl5)
      clear hbl5
      go_wp2_with fail
      go_meet
      case rel => exact HB5.out
    · have b0 : (er == 0) = false := by simpa using her
      have HNO := Lib.hid (HOK.out.2 her)
      obtain ⟨a0, a1, a2, a3⟩ := HC.out _ HB3.out
      clear her
      cases hmay : deedMay k id n db.length
      · have HM := Lib.hid hmay
        clear hmay
        go_wp2_with fail
        refine (RetBl.at (deed_May k id n A db.length c _ HLD.out) HM.out).mono ?_
        rintro z w4 ⟨rfl, hbl4⟩
        have HB4 := Lib.hid hbl4
        clear hbl4
        go_wp2_with fail
        go_meet
        case rel => exact HB4.out
      · have HM := Lib.hid hmay
        have hlong : 65504 < db.length := by
          rcases HNO.out with h | h
          · rw [hmay] at h; cases h
          · exact h
        clear hmay
        go_wp2_with fail
        refine (RetBl.at (deed_May k id n A db.length c _ HLD.out) HM.out).mono ?_
        rintro z w4 ⟨rfl, hbl4⟩
        have HB4 := Lib.hid hbl4
        obtain ⟨a0, a1, a2, a3⟩ := HC.out _ (HB3.out.trans hbl4)
        clear hbl4
        go_wp2_with fail
        go_meet
        case rel => exact HB4.out
  case rest =>
    have HR3 := Lib.hid (HB3.out.trans (Hid.out hcut))
    clear hcut
    obtain ⟨b0, b1, b2, b3, b4, b5⟩ := HCA.out _ HR3.out
    have HAID := Lib.hid haid.out.2
    go_wp2_with fail
    refine (ans_Put e aid an B I xs us cx ci more _ HLX.out HLU.out haid.out.1 HAID han h64 (HX.out.bl (HL.out.trans HR3.out)) (HU.out.bl (HL.out.trans HR3.out))).mono ?_
    rw [HAPUT.out]
    rintro z w6 ⟨v6, rfl, hown6, hbl6⟩
    obtain ⟨A6, c6, rfl, hcc6⟩ := hown6.slice
    have HP6 := Lib.hid hown6.rd.1
    have HR6 := Lib.hid (HR3.out.trans hbl6)
    have HCC6 := Lib.hid (show qs.length ≤ c6 from hcc6)
    have HQL := Lib.hid (show qs.length ≤ 140737488351232 by have := HAOK.out; omega)
    clear hown6 hbl6 hcc6 b0 b1 b2 b3 b4 b5
    go_upto_if 54 with (fail)
    go_cut [] (fun wx => Hid (Bl w6 wx))
    case first =>
      by_cases heq : eq = 0
      · subst heq
        have hthere := ans_there haid.out han.out h64.out HAPUT.out
        have hget := ans_Get A6 c6 qs w6 HQL.out HCC6.out HP6.out
        rw [hthere] at hget
        have HGET := Lib.hid hget
        clear hget hthere
        go_wp2_with fail
        refine HGET.out.mono ?_
        rintro z w7 ⟨B7, c7, I7, d7, rfl, hown7, hids7, hbl7⟩
        have HO7 := Lib.hid hown7.rd.1
        have HI7 := Lib.hid hids7.rd.1
        have HB7 := Lib.hid (hbl7.alloc (.cells #[.int .i64 e, .int .u64 aid, .int .i64 an, .slice B7 xs.length c7, .slice I7 us.length d7, .bool more] 56))
        obtain ⟨b0, b1, b2, b3, b4, b5⟩ := HCA.out _ (HR6.out.trans HB7.out)
        clear hown7 hids7 hbl7
        go_wp2_with fail
        refine (ans_same_self e aid an more B7 B I7 I _ _ _ _ xs us _ HLX.out HLU.out (HO7.out.bl ((Bl.refl _).alloc _)) (HX.out.bl (HL.out.trans (HR6.out.trans HB7.out))) (HI7.out.bl ((Bl.refl _).alloc _)) (HU.out.bl (HL.out.trans (HR6.out.trans HB7.out)))).mono ?_
        rintro z w8 ⟨rfl, hbl8⟩
        have HB8 := Lib.hid (HB7.out.trans hbl8)
        clear hbl8
        go_wp2_with fail
        go_meet
        case rel => exact HB8.out
      · have b0 : (eq == 0) = false := by simpa using heq
        clear heq
        go_wp2_with fail
        go_meet
        case rel => exact Bl.refl _
    case rest =>
      have HR8 := Lib.hid (HL.out.trans (HR6.out.trans (Hid.out hcut)))
      clear hcut HC HCA HR3 HR6 HB3 HP3 HP6 HX HU HDD
      go_wp2_with fail
      refine (deed_Get G cb b _ hb hbd (HG.out.bl HR8.out)).mono ?_
      have hrid := deedGet_id b
      have hrl := deedGet_len b hb
      generalize hr : deedGet b = r at hrid hrl
      rintro z w9 ⟨B9, rfl, hown9, hbl9⟩
      have HO9 := Lib.hid hown9.rd.1
      have HRI := Lib.hid hrid
      have HRI2 := Lib.hid hrid.2
      have HRL := Lib.hid hrl
      have HR := Lib.hid hr
      have HR9 := Lib.hid (HR8.out.trans (hbl9.alloc (.cells #[.int .u8 r.k, .int .u64 r.id, .int .i64 r.n, .slice B9 r.row.length r.row.length] 26)))
      have HX9 := Lib.hid ((Ob.new w9 #[.int .u8 r.k, .int .u64 r.id, .int .i64 r.n, .slice B9 r.row.length r.row.length] 26))
      obtain ⟨a0, a1, a2, a3, _⟩ := Ob.all4 HX9.out
      clear hown9 hbl9 hr hrid hrl
      go_upto_if 74 with (fail)
      go_cut [] (fun wx => Hid (Bl (w9.alloc (.cells #[.int .u8 r.k, .int .u64 r.id, .int .i64 r.n, .slice B9 r.row.length r.row.length] 26)) wx))
      case first =>
        by_cases her : r.e = 0
        · have b0 : (r.e == 0) = true := by simpa using her
          have HBK := Lib.hid (deed_back HR.out her hb)
          clear her
          go_wp2_with fail
          refine (deed_Put r.k r.id r.n B9 r.row r.row.length _ HRL.out HRI.out.1 HRI2 (HO9.out.bl ((Bl.refl _).alloc _))).mono ?_
          rw [HBK.out]
          rintro z w10 ⟨v10, rfl, hown10, hbl10⟩
          obtain ⟨A10, c10, rfl, hcc10⟩ := hown10.slice
          have HP10 := Lib.hid hown10.rd.1
          have HB10 := Lib.hid hbl10
          clear hown10 hbl10 hcc10
          go_wp2_with fail
          refine (same_self A10 G c10 cb b.length b.length b _ rfl rfl (by omega) HP10.out (HG.out.bl (HR9.out.trans HB10.out))).mono ?_
          rintro z w11 ⟨rfl, hdr11⟩
          have HB11 := Lib.hid (HB10.out.trans (hdr11.below _))
          clear hdr11
          go_wp2_with fail
          go_meet
          case rel => exact HB11.out
        · have b0 : (r.e == 0) = false := by simpa using her
          clear her
          go_wp2_with fail
          go_meet
          case rel => exact Bl.refl _
      case rest =>
        have HR11 := Lib.hid (HR9.out.trans (Hid.out hcut))
        clear hcut a0 a1 a2 a3 HX9 HO9
        go_wp2_with fail
        refine (ans_Get G cb b _ hb hbd (HG.out.bl HR11.out)).mono ?_
        have hfr := ansGet_facts b hb
        have hids := ansGet_ids b hb
        generalize hq : ansGet b = q at hfr hids
        rintro z w12 ⟨B12, c12, I12, d12, rfl, hown12, hids12, hbl12⟩
        have HO12 := Lib.hid hown12.rd.1
        have HI12 := Lib.hid hids12.rd.1
        have HFR := Lib.hid hfr
        have HQI := Lib.hid hids
        have HQI1 := Lib.hid hids.1.2
        have HQN := Lib.hid hids.2.1
        have HQ64 := Lib.hid hids.2.2
        have HQ := Lib.hid hq
        have HR12 := Lib.hid (HR11.out.trans (hbl12.alloc (.cells #[.int .i64 q.f, .int .u64 q.id, .int .i64 q.n, .slice B12 q.row.length c12, .slice I12 q.ids.length d12, .bool q.more] 56)))
        have HX12 := Lib.hid ((Ob.new w12 #[.int .i64 q.f, .int .u64 q.id, .int .i64 q.n, .slice B12 q.row.length c12, .slice I12 q.ids.length d12, .bool q.more] 56))
        obtain ⟨a0, a1, a2, a3, a4, a5, _⟩ := Ob.all6 HX12.out
        clear hown12 hids12 hbl12 hq hids hfr
        go_upto_if 94 with (fail)
        go_cut [] (fun wx => Hid (Bl (w12.alloc (.cells #[.int .i64 q.f, .int .u64 q.id, .int .i64 q.n, .slice B12 q.row.length c12, .slice I12 q.ids.length d12, .bool q.more] 56)) wx))
        case first =>
          by_cases her : q.e = 0
          · have b0 : (q.e == 0) = true := by simpa using her
            have HBK := Lib.hid (ans_back HQ.out her)
            clear her
            go_wp2_with fail
            refine (ans_Put q.f q.id q.n B12 I12 q.row q.ids c12 d12 q.more _ HFR.out.1 HFR.out.2 HQI.out.1.1 HQI1 HQN HQ64 (HO12.out.bl ((Bl.refl _).alloc _)) (HI12.out.bl ((Bl.refl _).alloc _))).mono ?_
            rw [HBK.out]
            rintro z w13 ⟨v13, rfl, hown13, hbl13⟩
            obtain ⟨A13, c13, rfl, hcc13⟩ := hown13.slice
            have HP13 := Lib.hid hown13.rd.1
            have HB13 := Lib.hid hbl13
            clear hown13 hbl13 hcc13
            go_wp2_with fail
            refine (same_self A13 G c13 cb b.length b.length b _ rfl rfl (by omega) HP13.out (HG.out.bl (HR12.out.trans HB13.out))).mono ?_
            rintro z w14 ⟨rfl, hdr14⟩
            have HB14 := Lib.hid (HB13.out.trans (hdr14.below _))
            clear hdr14
            go_wp2_with fail
            go_meet
            case rel => exact HB14.out
          · have b0 : (q.e == 0) = false := by simpa using her
            clear her
            go_wp2_with fail
            go_meet
            case rel => exact Bl.refl _
        case rest =>
          have HR14 := Lib.hid (HR12.out.trans (Hid.out hcut))
          clear hcut a0 a1 a2 a3 a4 a5
          go_wp2_with fail
          refine (deed_lives _).mono ?_
          rintro z w19 ⟨rfl, hbl19⟩
          go_wp2_with fail
          go_ret
          exact RetBl.mk rfl (HR14.out.trans hbl19)
end Go.Proofs.Ytpcbigadnkeflaa
