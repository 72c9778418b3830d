/- The reference of layer 22 walked: GetAnswer. -/
import Derived.Test.YtpcbigadnkeflaaAnsE
namespace Go.Proofs.Ytpcbigadnkeflaa
open Go.RowKit
set_option maxRecDepth 100000
set_option maxHeartbeats 2000000

theorem ref_GetList_at (A : Option Addr) (c : Nat) (b : List UInt8) (p most : Int) (xs : List Nat) (m e : Int) (w : World) (hb : b.length ≤ 140737488351232) (hm : -9223372036854775808 ≤ most ∧ most ≤ 1000000000000) (hr : Rd w A (b.map bv)) (h : lebList b p most = (xs, m, e)) :
    Calls Try.prog 86 #[.slice A b.length c, .int .i64 p, .int .i64 most] w fun e' w' => ∃ I d, e' = .returned (.tuple #[.slice I xs.length d, .int .i64 m, .int .i64 e]) ∧ App w' w.heap.size 23 1 (.slice I xs.length d) xs.length (xs.map wv) ∧ Bl w w' := by
  refine (ref_GetList A c b p most w hb hm hr).mono ?_
  rintro e' w' ⟨v, h1, h2, h3⟩
  rw [h] at h1 h2
  obtain ⟨I, d, rfl, _⟩ := h2.slice
  exact ⟨I, d, h1, h2, h3⟩
theorem took3_1 {b : List UInt8} {e : Int} (h : lebGet b 0 = (0, 0, e)) (hne : e ≠ 0) : (took3 b).e = e := by
  simp only [took3, rdNum_no h hne, rdNum_err _ _ _ hne, rdRow_err _ _ _ _ hne]
theorem took3_2 {b : List UInt8} {v m e : Int} (h : lebGet b 0 = (v, m, 0)) (h2 : lebGet b m = (0, 0, e)) (hne : e ≠ 0) : (took3 b).e = e := by
  simp only [took3, rdNum_ok h, rdNum_no h2 hne, rdNum_err _ _ _ hne, rdRow_err _ _ _ _ hne]
theorem took3_3 {b : List UInt8} {v m v2 m2 e : Int} (h : lebGet b 0 = (v, m, 0)) (h2 : lebGet b m = (v2, m2, 0)) (h3 : lebGet b m2 = (0, 0, e)) (hne : e ≠ 0) : (took3 b).e = e := by
  simp only [took3, rdNum_ok h, rdNum_ok h2, rdNum_no h3 hne, rdRow_err _ _ _ _ hne]
theorem took3_4 {b : List UInt8} {v m v2 m2 v3 m3 m4 e : Int} {xs : List UInt8} (h : lebGet b 0 = (v, m, 0)) (h2 : lebGet b m = (v2, m2, 0)) (h3 : lebGet b m2 = (v3, m3, 0)) (h4 : lebRow b m3 65536 = (xs, m4, e)) (hne : e ≠ 0) : (took3 b).e = e := by
  simp only [took3, rdNum_ok h, rdNum_ok h2, rdNum_ok h3, rdRow_no h4 hne]
theorem took3_5 {b : List UInt8} {v m v2 m2 v3 m3 m4 : Int} {xs : List UInt8} (h : lebGet b 0 = (v, m, 0)) (h2 : lebGet b m = (v2, m2, 0)) (h3 : lebGet b m2 = (v3, m3, 0)) (h4 : lebRow b m3 65536 = (xs, m4, 0)) : took3 b = ⟨v, v2, v3, xs, m4, 0⟩ := by
  simp only [took3, rdNum_ok h, rdNum_ok h2, rdNum_ok h3, rdRow_ok h4]
theorem ansGet_err {b : List UInt8} {e : Int} (h : (took3 b).e = e) (hne : e ≠ 0) : ansGet b = ansNo e := by
  unfold ansGet; rw [h, if_pos hne]

theorem ref_ansGet (A : Option Addr) (c : Nat) (b : List UInt8) (w : World) (hb : b.length ≤ 140737488351232) (hcb : b.length ≤ c) (hr : Rd w A (b.map bv)) :
    Calls Try.prog 45 #[.slice A b.length c] w (RetAns (ansGet b) w) := by
  have HR := Lib.hid hr
  clear hr
  have HW := Lib.hid ((Bl.refl w).alloc (.cells #[.int .i64 0, .int .u64 0, .int .i64 0, .slice none 0 0, .slice none 0 0, .bool false] 56))
  have HD0 := Lib.hid (Ob.new w #[.int .i64 0, .int .u64 0, .int .i64 0, .slice none 0 0, .slice none 0 0, .bool false] 56)
  have hd := HD0.out
  go_enter Try.func45, Try.ntmps45
  go_wp2_with fail
  generalize w.alloc (.cells #[.int .i64 0, .int .u64 0, .int .i64 0, .slice none 0 0, .slice none 0 0, .bool false] 56) = u at HW HD0 ⊢
  clear hd
  rcases lebGet_or b 0 with ⟨e, h, hne, _⟩ | ⟨v1, m1, h, hv1, hm1, _⟩
  · have HP := Lib.hid (ansGet_err (took3_1 h hne) hne)
    have H := Lib.hid h
    have te1 : (e != 0) = true := by simpa using hne
    clear h hne
    refine (ref_Get_at A c b _ _ _ _ _ hb (HR.out.bl HW.out) H.out).mono ?_
    rintro e' w' ⟨rfl, nn, rfl⟩
    obtain ⟨d0, d1, d2, d3, d4, d5, f0, f1, f2, f3, f4, f5⟩ := Ob.all6 HD0.out
    go_wp2_with fail
    refine bodyPost_ret (v := .tuple #[ansV 0 0 0 none 0 0 none 0 0 false, .int .i64 e]) (results_ct rfl _ _ ((Ob.bl HD0.out ((Bl.refl _).drewN _)).set6 _ _ _ _ _ _).1 rfl rfl Try.underlying56 rfl Try.sizeAns) rfl ?_
    exact RetAns.no HP.out (((HW.out.drewN _).ch [w.heap.size]).same ((Ob.bl HD0.out ((Bl.refl _).drewN _)).set6 _ _ _ _ _ _).2 |>.bl (by simp))
  have H1 := Lib.hid h
  have HV1 := Lib.hid hv1
  clear h hv1
  refine (ref_Get_at A c b _ _ _ _ _ hb (HR.out.bl HW.out) H1.out).mono ?_
  rintro e' w' ⟨rfl, n1, rfl⟩
  go_wp2_with fail
  rcases lebGet_or b m1 with ⟨e, h, hne, _⟩ | ⟨v2, m2, h, hv2, hm2, _⟩
  · have HP := Lib.hid (ansGet_err (took3_2 H1.out h hne) hne)
    have H := Lib.hid h
    have te1 : (e != 0) = true := by simpa using hne
    clear h hne
    refine (ref_Get_at A c b _ _ _ _ _ hb (HR.out.bl (HW.out.drewN _)) H.out).mono ?_
    rintro e' w' ⟨rfl, nn, rfl⟩
    obtain ⟨d0, d1, d2, d3, d4, d5, f0, f1, f2, f3, f4, f5⟩ := Ob.all6 HD0.out
    go_wp2_with fail
    refine bodyPost_ret (v := .tuple #[ansV 0 0 0 none 0 0 none 0 0 false, .int .i64 e]) (results_ct rfl _ _ ((Ob.bl HD0.out ((Bl.refl _).drewN _)).set6 _ _ _ _ _ _).1 rfl rfl Try.underlying56 rfl Try.sizeAns) rfl ?_
    exact RetAns.no HP.out (((HW.out.drewN _).ch [w.heap.size]).same ((Ob.bl HD0.out ((Bl.refl _).drewN _)).set6 _ _ _ _ _ _).2 |>.bl (by simp))
  have H2 := Lib.hid h
  have HV2 := Lib.hid hv2
  clear h hv2
  refine (ref_Get_at A c b _ _ _ _ _ hb (HR.out.bl (HW.out.drewN _)) H2.out).mono ?_
  rintro e' w' ⟨rfl, n2, rfl⟩
  go_wp2_with fail
  rcases lebGet_or b m2 with ⟨e, h, hne, _⟩ | ⟨v3, m3, h, hv3, hm3, _⟩
  · have HP := Lib.hid (ansGet_err (took3_3 H1.out H2.out h hne) hne)
    have H := Lib.hid h
    have te1 : (e != 0) = true := by simpa using hne
    clear h hne
    refine (ref_Get_at A c b _ _ _ _ _ hb (HR.out.bl (HW.out.drewN _)) H.out).mono ?_
    rintro e' w' ⟨rfl, nn, rfl⟩
    obtain ⟨d0, d1, d2, d3, d4, d5, f0, f1, f2, f3, f4, f5⟩ := Ob.all6 HD0.out
    go_wp2_with fail
    refine bodyPost_ret (v := .tuple #[ansV 0 0 0 none 0 0 none 0 0 false, .int .i64 e]) (results_ct rfl _ _ ((Ob.bl HD0.out ((Bl.refl _).drewN _)).set6 _ _ _ _ _ _).1 rfl rfl Try.underlying56 rfl Try.sizeAns) rfl ?_
    exact RetAns.no HP.out (((HW.out.drewN _).ch [w.heap.size]).same ((Ob.bl HD0.out ((Bl.refl _).drewN _)).set6 _ _ _ _ _ _).2 |>.bl (by simp))
  have H3 := Lib.hid h
  have HV3 := Lib.hid hv3
  clear h hv3
  refine (ref_Get_at A c b _ _ _ _ _ hb (HR.out.bl (HW.out.drewN _)) H3.out).mono ?_
  rintro e' w' ⟨rfl, n3, rfl⟩
  go_wp2_with fail
  have hX : ∃ (xs : List UInt8) (m e : Int), lebRow b m3 65536 = (xs, m, e) ∧ (xs.length : Int) ≤ 65536 ∧ xs.length ≤ b.length := by
    rcases lebRow_or b m3 65536 with ⟨e, h, _⟩ | ⟨xs, m, h, h1, _, h2⟩
    · exact ⟨[], 0, e, h, by simp, by simp⟩
    · exact ⟨xs, m, 0, h, h1, h2⟩
  obtain ⟨xs, m4, e4, h, hxl, hxl2⟩ := hX
  have H4 := Lib.hid h
  clear h
  refine (ref_GetRow_at A c b _ 65536 _ _ _ _ hb hcb (by omega) (HR.out.bl (HW.out.drewN _)) H4.out).mono ?_
  rintro e' w5 ⟨B, cB, rfl, hown, hbl⟩
  have HB5 := Lib.hid ((HW.out.drewN _).trans hbl)
  have HD5 := Lib.hid ((Ob.bl HD0.out ((Bl.refl _).drewN _)).bl hbl)
  have HOW := Lib.hid (hown.mono (HW.out.drewN _).size)
  have HR5 := Lib.hid (HR.out.bl HB5.out)
  clear hown hbl
  obtain ⟨d0, d1, d2, d3, d4, d5, f0, f1, f2, f3, f4, f5⟩ := Ob.all6 HD5.out
  by_cases hne : e4 = 0
  case neg =>
    have HP := Lib.hid (ansGet_err (took3_4 H1.out H2.out H3.out H4.out hne) hne)
    have te1 : (e4 != 0) = true := by simpa using hne
    clear hne
    go_wp2_with fail
    refine bodyPost_ret (v := .tuple #[ansV 0 0 0 none 0 0 none 0 0 false, .int .i64 e4]) (results_ct rfl _ _ (HD5.out.set6 _ _ _ _ _ _).1 rfl rfl Try.underlying56 rfl Try.sizeAns) rfl ?_
    exact RetAns.no HP.out ((HB5.out.ch [w.heap.size]).same (HD5.out.set6 _ _ _ _ _ _).2 |>.bl (by simp))
  subst hne
  have ht := took3_5 H1.out H2.out H3.out H4.out
  have HG2 := Lib.hid (show ansGet b = if (lebList b m4 65536).2.2 ≠ 0 then ansNo (lebList b m4 65536).2.2
    else if (b.length : Int) ≤ (lebList b m4 65536).2.1 then ansNo 4
    else if (lebList b m4 65536).2.1 + 1 ≠ b.length ∨ 1 < (b.getD (lebList b m4 65536).2.1.toNat 0).toNat ∨ 13 < (v1 : Int) ∨ 9223372036854775807 < (v3 : Int) then ansNo 5
    else ⟨v1, v2, v3, xs, (lebList b m4 65536).1, (b.getD (lebList b m4 65536).2.1.toNat 0).toNat == 1, 0⟩ by unfold ansGet; rw [ht, if_neg (by simp)])
  clear ht
  go_wp2_with fail
  rcases lebList_or b m4 65536 with ⟨e, h, hne, _⟩ | ⟨ids, m, h, hil, hml, _⟩
  · have HP := Lib.hid (show ansGet b = ansNo e by rw [HG2.out, h, if_pos hne])
    have H := Lib.hid h
    have te1 : (e != 0) = true := by simpa using hne
    clear h hne HG2
    refine (ref_GetList_at A c b _ 65536 _ _ _ _ hb (by omega) HR5.out H.out).mono ?_
    rintro e' w7 ⟨I, d, rfl, hown7, hbl7⟩
    have HD7 := Lib.hid (HD5.out.bl hbl7)
    have HB7 := Lib.hid (HB5.out.trans hbl7)
    obtain ⟨d0, d1, d2, d3, d4, d5, f0, f1, f2, f3, f4, f5⟩ := Ob.all6 HD7.out
    clear hown7 hbl7
    go_wp2_with fail
    refine bodyPost_ret (v := .tuple #[ansV 0 0 0 none 0 0 none 0 0 false, .int .i64 e]) (results_ct rfl _ _ (HD7.out.set6 _ _ _ _ _ _).1 rfl rfl Try.underlying56 rfl Try.sizeAns) rfl ?_
    exact RetAns.no HP.out ((HB7.out.ch [w.heap.size]).same (HD7.out.set6 _ _ _ _ _ _).2 |>.bl (by simp))
  have HG3 := Lib.hid (show ansGet b = if (b.length : Int) ≤ m then ansNo 4
    else if (m : Int) + 1 ≠ b.length ∨ 1 < (b.getD m 0).toNat ∨ 13 < (v1 : Int) ∨ 9223372036854775807 < (v3 : Int) then ansNo 5
    else ⟨v1, v2, v3, xs, ids, (b.getD m 0).toNat == 1, 0⟩ by rw [HG2.out, h, if_neg (by simp)]; rfl)
  have H := Lib.hid h
  clear h HG2
  refine (ref_GetList_at A c b _ 65536 _ _ _ _ hb (by omega) HR5.out H.out).mono ?_
  rintro e' w7 ⟨I, d, rfl, hown7, hbl7⟩
  have HD7 := Lib.hid (HD5.out.bl hbl7)
  have HB7 := Lib.hid (HB5.out.trans hbl7)
  have HOI := Lib.hid (hown7.mono HB5.out.size)
  have HOR := Lib.hid (HOW.out.bl hbl7)
  have HR7 := Lib.hid (HR5.out.bl hbl7)
  clear d0 d1 d2 d3 d4 d5 f0 f1 f2 f3 f4 f5
  obtain ⟨d0, d1, d2, d3, d4, d5, f0, f1, f2, f3, f4, f5⟩ := Ob.all6 HD7.out
  clear hown7 hbl7 HD5 HB5 HOW HR5
  by_cases hlen : b.length ≤ m
  · have HP := Lib.hid (HG3.out.trans (if_pos (by omega)))
    have hl : ((m : Int) == (b.length : Int)) = true := by simp; omega
    clear HG3
    go_wp2_with fail
    refine bodyPost_ret (v := .tuple #[ansV 0 0 0 none 0 0 none 0 0 false, .int .i64 4]) (results_ct rfl _ _ (HD7.out.set6 _ _ _ _ _ _).1 rfl rfl Try.underlying56 rfl Try.sizeAns) rfl ?_
    exact RetAns.no HP.out ((HB7.out.ch [w.heap.size]).same (HD7.out.set6 _ _ _ _ _ _).2 |>.bl (by simp))
  have HG4 := Lib.hid (HG3.out.trans (if_neg (by omega)))
  have hl : ((m : Int) == (b.length : Int)) = false := by simp; omega
  clear HG3
  obtain ⟨x, hx⟩ := get_some b m (by omega)
  have hx0 : b.getD m 0 = x := by simp [List.getD_eq_getElem?_getD, hx]
  rw [hx0] at HG4
  obtain ⟨Ab, Ao, rfl, hcx⟩ := HR7.out.get hx
  simp only [bv] at hcx
  have hv1 : 0 ≤ (v1 : Int) ∧ (v1 : Int) < 18446744073709551616 := by have := HV1.out; omega
  have hv3 : 0 ≤ (v3 : Int) ∧ (v3 : Int) < 18446744073709551616 := by have := HV3.out; omega
  clear hx hx0 HV1 HV2 HV3 H1 H2 H3 H4
  generalize (v1 : Int) = vf at HG4 hv1 ⊢
  generalize (v2 : Int) = vi at HG4 ⊢
  generalize (v3 : Int) = vn at HG4 hv3 ⊢
  by_cases hbad : (m : Int) + 1 ≠ b.length ∨ 1 < x.toNat ∨ 13 < vf ∨ 9223372036854775807 < vn
  · have HP := Lib.hid (HG4.out.trans (if_pos hbad))
    clear HG4
    have hsplit : ((1 : Int) < x.toNat) ∨ ((x.toNat : Int) ≤ 1 ∧ ((m : Int) + 1 != (b.length : Int)) = true) ∨ ((x.toNat : Int) ≤ 1 ∧ ((m : Int) + 1 != (b.length : Int)) = false ∧ 13 < vf) ∨ ((x.toNat : Int) ≤ 1 ∧ ((m : Int) + 1 != (b.length : Int)) = false ∧ vf ≤ 13 ∧ 9223372036854775807 < vn) := by
      by_cases h1 : (m : Int) + 1 = b.length
      · have h2 : ((m : Int) + 1 != (b.length : Int)) = false := by simpa using h1
        simp only [h2, true_and, Bool.false_eq_true, and_false, false_or]
        omega
      · have h2 : ((m : Int) + 1 != (b.length : Int)) = true := by simpa using h1
        simp only [h2, Bool.true_eq_false, false_and, and_false, or_false, and_true]
        omega
    clear hbad hv1 hv3 hil hxl hxl2
    rcases hsplit with h2 | ⟨h2, h1⟩ | ⟨h2, h1, h3⟩ | ⟨h2, h1, h3, h4⟩
    all_goals
      go_wp2_with fail
      refine bodyPost_ret (v := .tuple #[ansV 0 0 0 none 0 0 none 0 0 false, .int .i64 5]) (results_ct rfl _ _ (HD7.out.set6 _ _ _ _ _ _).1 rfl rfl Try.underlying56 rfl Try.sizeAns) rfl ?_
      exact RetAns.no HP.out ((HB7.out.ch [w.heap.size]).same (HD7.out.set6 _ _ _ _ _ _).2 |>.bl (by simp))
  · have HP := Lib.hid (HG4.out.trans (if_neg hbad))
    clear HG4
    have h1 : ((m : Int) + 1 != (b.length : Int)) = false := by simp; omega
    have h2 : (x.toNat : Int) ≤ 1 := by omega
    have h3 : vf ≤ 13 := by omega
    have h4 : vn ≤ 9223372036854775807 := by omega
    have hwf : wrap64 vf = vf := by unfold wrap64; omega
    have hwn : wrap64 vn = vn := by unfold wrap64; omega
    obtain ⟨mo, hmo⟩ : ∃ mo : Bool, ((x.toNat : Int) == 1) = mo := ⟨_, rfl⟩
    have hmo2 : True := trivial
    have HMO := Lib.hid (show (x.toNat == 1) = mo by rw [← hmo]; rw [Bool.eq_iff_iff]; simp; omega)
    rw [HMO.out] at HP
    have hmb : m < b.length := by omega
    clear hbad HMO hmo2 hlen hml
    clear hv1 hv3 hil hxl hxl2
    go_wp2_with fail
    refine bodyPost_ret (v := .tuple #[ansV vf vi vn B xs.length cB I ids.length d mo, .int .i64 0]) (results_ct rfl _ _ (HD7.out.set6 _ _ _ _ _ _).1 rfl rfl Try.underlying56 rfl Try.sizeAns) rfl ?_
    unfold RetAns
    rw [HP.out]
    refine ⟨B, cB, I, d, rfl, App.ch HOR.out (HD7.out.set6 _ _ _ _ _ _).2 (fun g hg => by simp at hg; subst hg; exact HD7.out.app HOR.out (by decide)), App.ch HOI.out (HD7.out.set6 _ _ _ _ _ _).2 (fun g hg => by simp at hg; subst hg; exact HD7.out.app HOI.out (by decide)), (HB7.out.ch [w.heap.size]).same (HD7.out.set6 _ _ _ _ _ _).2 |>.bl (by simp)⟩
end Go.Proofs.Ytpcbigadnkeflaa
