/- The reference of layer 22 walked: Get. -/
import Derived.Test.YtedmamchfgkkfaaDeedD
namespace Go.Proofs.Ytedmamchfgkkfaa
open Go.RowKit
set_option maxRecDepth 100000
set_option maxHeartbeats 2000000

def RetDeedR (r : DeedR) (w : World) (e : Ending) (w' : World) : Prop :=
  ∃ B c, e = .returned (.tuple #[deedV r.k r.id r.n B r.row.length c, .int .i64 r.e]) ∧ App w' w.heap.size 5 1 (.slice B r.row.length c) r.row.length (r.row.map bv) ∧ Bl w w'
theorem RetDeedR.no {r : DeedR} {w w' : World} {e : Int} (h : r = deedNo e) (hb : Bl w w') : RetDeedR r w (.returned (.tuple #[deedV 0 0 0 none 0 0, .int .i64 e])) w' := by
  subst h; exact ⟨none, 0, rfl, App.nil _ _ _ _, hb⟩
theorem rdNum_err (b : List UInt8) (p e : Int) (h : e ≠ 0) : rdNum b p e = (0, p, e) := by unfold rdNum; rw [if_pos h]
theorem rdNum_no {b : List UInt8} {p e : Int} (hg : lebGet b p = (0, 0, e)) (h : e ≠ 0) : rdNum b p 0 = (0, p, e) := by unfold rdNum; rw [if_neg (by simp), hg, if_neg h]
theorem rdNum_ok {b : List UInt8} {p v m : Int} (hg : lebGet b p = (v, m, 0)) : rdNum b p 0 = (v, m, 0) := by unfold rdNum; rw [if_neg (by simp), hg, if_pos rfl]
theorem rdRow_err (b : List UInt8) (p e most : Int) (h : e ≠ 0) : rdRow b p e most = ([], p, e) := by unfold rdRow; rw [if_pos h]
theorem rdRow_no {b : List UInt8} {p e most m : Int} {xs : List UInt8} (hg : lebRow b p most = (xs, m, e)) (h : e ≠ 0) : rdRow b p 0 most = ([], p, e) := by unfold rdRow; rw [if_neg (by simp), hg, if_neg h]
theorem rdRow_ok {b : List UInt8} {p m most : Int} {xs : List UInt8} (hg : lebRow b p most = (xs, m, 0)) : rdRow b p 0 most = (xs, m, 0) := by unfold rdRow; rw [if_neg (by simp), hg, if_pos rfl]
theorem took_1 {b : List UInt8} {e : Int} (h : lebGet b 1 = (0, 0, e)) (hne : e ≠ 0) : (took b 1 0 65504).e = e := by
  simp only [took, rdNum_no h hne, rdNum_err _ _ _ hne, rdRow_err _ _ _ _ hne]
theorem took_2 {b : List UInt8} {v m e : Int} (h : lebGet b 1 = (v, m, 0)) (h2 : lebGet b m = (0, 0, e)) (hne : e ≠ 0) : (took b 1 0 65504).e = e := by
  simp only [took, rdNum_ok h, rdNum_no h2 hne, rdRow_err _ _ _ _ hne]
theorem took_3 {b : List UInt8} {v m v2 m2 m3 e : Int} {xs : List UInt8} (h : lebGet b 1 = (v, m, 0)) (h2 : lebGet b m = (v2, m2, 0)) (h3 : lebRow b m2 65504 = (xs, m3, e)) (hne : e ≠ 0) : (took b 1 0 65504).e = e := by
  simp only [took, rdNum_ok h, rdNum_ok h2, rdRow_no h3 hne]
theorem took_4 {b : List UInt8} {v m v2 m2 m3 : Int} {xs : List UInt8} (h : lebGet b 1 = (v, m, 0)) (h2 : lebGet b m = (v2, m2, 0)) (h3 : lebRow b m2 65504 = (xs, m3, 0)) : took b 1 0 65504 = ⟨v, v2, xs, m3, 0⟩ := by
  simp only [took, rdNum_ok h, rdNum_ok h2, rdRow_ok h3]
theorem ref_GetRow_at (A : Option Addr) (c : Nat) (b : List UInt8) (p most : Int) (xs : List UInt8) (m e : Int) (w : World) (hb : b.length ≤ 140737488351232) (hc : b.length ≤ c) (hm : -9223372036854775808 ≤ most ∧ most ≤ 9223372036854775807) (hr : Rd w A (b.map bv)) (h : lebRow b p most = (xs, m, e)) :
    Calls Try.prog 66 #[.slice A b.length c, .int .i64 p, .int .i64 most] w fun e' w' => ∃ B d, e' = .returned (.tuple #[.slice B xs.length d, .int .i64 m, .int .i64 e]) ∧ App w' w.heap.size 5 1 (.slice B xs.length d) xs.length (xs.map bv) ∧ Bl w w' := by
  refine (ref_GetRow A c b p most w hb hc hm hr).mono ?_
  rintro e' w' ⟨v, h1, h2, h3⟩
  rw [h] at h1 h2
  obtain ⟨B, d, rfl, _⟩ := h2.slice
  exact ⟨B, d, h1, h2, h3⟩

theorem ref_deedGet (A : Option Addr) (c : Nat) (b : List UInt8) (w : World) (hb : b.length ≤ 140737488351232) (hcb : b.length ≤ c) (hr : Rd w A (b.map bv)) :
    Calls Try.prog 22 #[.slice A b.length c] w (RetDeedR (deedGet b) w) := by
  by_cases hnil : b = []
  · have HP := Lib.hid (show deedGet b = deedNo 4 by unfold deedGet; rw [if_pos hnil])
    have hl : ((b.length : Int) == 0) = true := by subst hnil; rfl
    have hl2 : b.length = 0 := by subst hnil; rfl
    clear hnil hr
    go_enter Try.func22, Try.ntmps22
    go_wp2_with fail
    refine bodyPost_ret (v := .tuple #[deedV 0 0 0 none 0 0, .int .i64 4]) (results_ct rfl _ _ (Ob.new w _ 26) rfl rfl Try.underlying26 rfl Try.sizeDeed) rfl ?_
    exact RetDeedR.no HP.out ((Bl.refl w).alloc _)
  have hl : ((b.length : Int) == 0) = false := by rw [beq_eq_false_iff_ne]; have := List.length_pos_iff.2 hnil; omega
  have hpos := List.length_pos_iff.2 hnil
  have HR := Lib.hid hr
  have HW := Lib.hid ((Bl.refl w).alloc (.cells #[.int .u8 0, .int .u64 0, .int .i64 0, .slice none 0 0] 26))
  have HD0 := Lib.hid (Ob.new w #[.int .u8 0, .int .u64 0, .int .i64 0, .slice none 0 0] 26)
  rcases lebGet_or b 1 with ⟨e, h, hne, _⟩ | ⟨v1, m1, h, hv1, hm1, _⟩
  · have hP : deedGet b = deedNo e := by
      have ht : (took b 1 0 65504).e = e := took_1 h hne
      unfold deedGet; rw [if_neg hnil, ht, if_pos hne]
    have HP := Lib.hid hP
    have H := Lib.hid h
    have he1 : (e != 0) = true := by simpa using hne
    clear h hne hP hnil hr
    go_enter Try.func22, Try.ntmps22
    go_wp2_with (first | (go_at_call 65; go_must (refine (ref_Get_at A c b 1 _ _ _ _ hb (HR.out.bl HW.out) H.out).mono ?_); rintro e w' ⟨rfl, n, rfl⟩))
    refine bodyPost_ret (v := .tuple #[deedV 0 0 0 none 0 0, .int .i64 e]) (results_ct rfl _ _ ((Ob.bl HD0.out ((Bl.refl _).drewN _)).set4 _ _ _ _).1 rfl rfl Try.underlying26 rfl Try.sizeDeed) rfl ?_
    exact RetDeedR.no HP.out (((HW.out.drewN _).ch [w.heap.size]).same ((Ob.bl HD0.out ((Bl.refl _).drewN _)).set4 _ _ _ _).2 |>.bl (by simp))
  have H1 := Lib.hid h
  rcases lebGet_or b m1 with ⟨e, h2, hne, _⟩ | ⟨v2, m2, h2, hv2, hm2, _⟩
  · have hP : deedGet b = deedNo e := by
      have ht : (took b 1 0 65504).e = e := took_2 h h2 hne
      unfold deedGet; rw [if_neg hnil, ht, if_pos hne]
    have HP := Lib.hid hP
    have H2 := Lib.hid h2
    have he1 : (e != 0) = true := by simpa using hne
    clear h h2 hne hP hnil hr hv1
    go_enter Try.func22, Try.ntmps22
    go_wp2_with fail
    refine (ref_Get_at A c b 1 _ _ _ _ hb (HR.out.bl HW.out) H1.out).mono ?_
    rintro e' w' ⟨rfl, n, rfl⟩
    go_wp2_with fail
    refine (ref_Get_at A c b m1 _ _ _ _ hb (HR.out.bl (HW.out.drewN n)) H2.out).mono ?_
    rintro e' w' ⟨rfl, n2, rfl⟩
    go_wp2_with fail
    refine bodyPost_ret (v := .tuple #[deedV 0 0 0 none 0 0, .int .i64 e]) (results_ct rfl _ _ ((Ob.bl HD0.out ((Bl.refl _).drewN _)).set4 _ _ _ _).1 rfl rfl Try.underlying26 rfl Try.sizeDeed) rfl ?_
    exact RetDeedR.no HP.out (((HW.out.drewN _).ch [w.heap.size]).same ((Ob.bl HD0.out ((Bl.refl _).drewN _)).set4 _ _ _ _).2 |>.bl (by simp))
  have H2 := Lib.hid h2
  have hX : ∃ (xs : List UInt8) (m e : Int), lebRow b m2 65504 = (xs, m, e) ∧ (e ≠ 0 → xs = []) ∧ xs.length ≤ b.length := by
    rcases lebRow_or b m2 65504 with ⟨e, h, _⟩ | ⟨xs, m, h, _, _, hx⟩
    · exact ⟨[], 0, e, h, fun _ => rfl, by simp⟩
    · exact ⟨xs, m, 0, h, fun h => absurd rfl h, hx⟩
  obtain ⟨xs, m3, e3, h3, hnil3, hxl⟩ := hX
  have H3 := Lib.hid h3
  by_cases hne : e3 = 0
  case neg =>
    have hP : deedGet b = deedNo e3 := by
      have ht : (took b 1 0 65504).e = e3 := took_3 h h2 h3 hne
      unfold deedGet; rw [if_neg hnil, ht, if_pos hne]
    have HP := Lib.hid hP
    have he1 : (e3 != 0) = true := by simpa using hne
    clear h h2 h3 hne hP hnil hr hv1 hv2 hnil3
    go_enter Try.func22, Try.ntmps22
    go_wp2_with fail
    refine (ref_Get_at A c b 1 _ _ _ _ hb (HR.out.bl HW.out) H1.out).mono ?_
    rintro e' w' ⟨rfl, n, rfl⟩
    go_wp2_with fail
    refine (ref_Get_at A c b m1 _ _ _ _ hb (HR.out.bl (HW.out.drewN n)) H2.out).mono ?_
    rintro e' w' ⟨rfl, n2, rfl⟩
    go_wp2_with fail
    refine (ref_GetRow_at A c b m2 65504 _ _ _ _ hb hcb (by omega) (HR.out.bl (HW.out.drewN _)) H3.out).mono ?_
    rintro e' w3 ⟨B, d, rfl, hown, hbl⟩
    have hb3 : Bl w w3 := (HW.out.drewN _).trans hbl
    have hD := Lib.hid (HD0.out.bl (((Bl.refl _).drewN _).trans hbl))
    obtain ⟨d0, d1, d2, d3, f0, f1, f2, f3⟩ := Ob.all4 hD.out
    go_wp2_with fail
    refine bodyPost_ret (v := .tuple #[deedV 0 0 0 none 0 0, .int .i64 e3]) (results_ct rfl _ _ (hD.out.set4 _ _ _ _).1 rfl rfl Try.underlying26 rfl Try.sizeDeed) rfl ?_
    exact RetDeedR.no HP.out ((hb3.ch [w.heap.size]).same (hD.out.set4 _ _ _ _).2 |>.bl (by simp))
  subst hne
  obtain ⟨x, hx⟩ := get_some b 0 hpos
  have hx0 : b.getD 0 0 = x := by simp [List.getD_eq_getElem?_getD, hx]
  have hDG : deedGet b = if m3 ≠ b.length ∨ (65536 : Int) < v2 then deedNo 5 else if deedMay x.toNat v1 v2 xs.length = false then deedNo 5 else ⟨x.toNat, v1, v2, xs, 0⟩ := by
    have ht : took b 1 0 65504 = ⟨v1, v2, xs, m3, 0⟩ := took_4 h h2 h3
    unfold deedGet; rw [if_neg hnil, ht, if_neg (by simp), hx0]
  have HDG := Lib.hid hDG
  have HLEN := Lib.hid (show xs.length ≤ 281474976710656 by omega)
  obtain ⟨Ab, Ao, rfl, hcx⟩ := hr.get hx
  rw [Nat.add_zero] at hcx
  have HCX := Lib.hid hcx
  have HV1 := Lib.hid hv1
  clear h h2 h3 hDG hnil hr hv1 hv2 hnil3 hx hx0 hcx
  by_cases hbad : m3 ≠ b.length ∨ (65536 : Int) < v2
  · have HP := Lib.hid (HDG.out.trans (if_pos hbad))
    have hsplit : ((m3 != (b.length : Int)) = true) ∨ ((m3 != (b.length : Int)) = false ∧ (65536 : Int) < v2) := by
      by_cases hq : m3 = b.length
      · right; refine ⟨by simpa using hq, ?_⟩; rcases hbad with hb | hb; exact absurd hq hb; exact hb
      · left; simpa using hq
    clear hbad HDG
    rcases hsplit with hs | ⟨hs, hs2⟩
    all_goals
      go_enter Try.func22, Try.ntmps22
      go_wp2_with fail
      refine (ref_Get_at _ c b 1 _ _ _ _ hb (HR.out.bl HW.out) H1.out).mono ?_
      rintro e' w' ⟨rfl, n, rfl⟩
      go_wp2_with fail
      refine (ref_Get_at _ c b m1 _ _ _ _ hb (HR.out.bl (HW.out.drewN n)) H2.out).mono ?_
      rintro e' w' ⟨rfl, n2, rfl⟩
      go_wp2_with fail
      refine (ref_GetRow_at _ c b m2 65504 _ _ _ _ hb hcb (by omega) (HR.out.bl (HW.out.drewN _)) H3.out).mono ?_
      rintro e' w3 ⟨B, d, rfl, hown, hbl⟩
      have hb3 : Bl w w3 := (HW.out.drewN _).trans hbl
      have hD := Lib.hid (HD0.out.bl (((Bl.refl _).drewN _).trans hbl))
      obtain ⟨d0, d1, d2, d3, f0, f1, f2, f3⟩ := Ob.all4 hD.out
      go_wp2_with fail
      refine bodyPost_ret (v := .tuple #[deedV 0 0 0 none 0 0, .int .i64 5]) (results_ct rfl _ _ (hD.out.set4 _ _ _ _).1 rfl rfl Try.underlying26 rfl Try.sizeDeed) rfl ?_
      exact RetDeedR.no HP.out ((hb3.ch [w.heap.size]).same (hD.out.set4 _ _ _ _).2 |>.bl (by simp))
  · have HD3 := Lib.hid (HDG.out.trans (if_neg hbad))
    have hs : (m3 != (b.length : Int)) = false := by simp; omega
    have hn : v2 ≤ 65536 := by omega
    have hwn : wrap64 (v2 : Int) = v2 := by unfold wrap64; omega
    clear hbad HDG
    cases hmay : deedMay x.toNat v1 v2 xs.length
    · have HMAY := Lib.hid hmay
      have HP := Lib.hid (HD3.out.trans (if_pos hmay))
      clear hmay
      go_enter Try.func22, Try.ntmps22
      go_wp2_with fail
      refine (ref_Get_at _ c b 1 _ _ _ _ hb (HR.out.bl HW.out) H1.out).mono ?_
      rintro e' w' ⟨rfl, n, rfl⟩
      go_wp2_with fail
      refine (ref_Get_at _ c b m1 _ _ _ _ hb (HR.out.bl (HW.out.drewN n)) H2.out).mono ?_
      rintro e' w' ⟨rfl, n2, rfl⟩
      go_wp2_with fail
      refine (ref_GetRow_at _ c b m2 65504 _ _ _ _ hb hcb (by omega) (HR.out.bl (HW.out.drewN _)) H3.out).mono ?_
      rintro e' w3 ⟨B, d, rfl, hown, hbl⟩
      have HB := Lib.hid ((HW.out.drewN _).trans hbl)
      have HDD := Lib.hid (HD0.out.bl (((Bl.refl _).drewN _).trans hbl))
      have hcx := HB.out.cellAt HCX.out
      simp only [bv] at hcx
      clear hbl
      go_wp2_with (first
        | (go_at_call 16; go_must (refine (ref_deedMay _ _ _ B xs.length d _ HLEN.out).mono ?_); rintro e w4 ⟨rfl, hbl4⟩; rw [HMAY.out]; have hb4 := Bl.trans ((Bl.refl w3).alloc _) hbl4; have hD4 := Lib.hid (Ob.bl HDD.out hb4); obtain ⟨d0, d1, d2, d3, f0, f1, f2, f3⟩ := Ob.all4 hD4.out))
      refine bodyPost_ret (v := .tuple #[deedV 0 0 0 none 0 0, .int .i64 5]) (results_ct rfl _ _ (hD4.out.set4 _ _ _ _).1 rfl rfl Try.underlying26 rfl Try.sizeDeed) rfl ?_
      exact RetDeedR.no HP.out (((HB.out.trans hb4).ch [w.heap.size]).same (hD4.out.set4 _ _ _ _).2 |>.bl (by simp))
    · have HMAY := Lib.hid hmay
      have HP := Lib.hid (HD3.out.trans (if_neg (by rw [hmay]; simp)))
      clear hmay
      go_enter Try.func22, Try.ntmps22
      go_wp2_with fail
      refine (ref_Get_at _ c b 1 _ _ _ _ hb (HR.out.bl HW.out) H1.out).mono ?_
      rintro e' w' ⟨rfl, n, rfl⟩
      go_wp2_with fail
      refine (ref_Get_at _ c b m1 _ _ _ _ hb (HR.out.bl (HW.out.drewN n)) H2.out).mono ?_
      rintro e' w' ⟨rfl, n2, rfl⟩
      go_wp2_with fail
      refine (ref_GetRow_at _ c b m2 65504 _ _ _ _ hb hcb (by omega) (HR.out.bl (HW.out.drewN _)) H3.out).mono ?_
      rintro e' w3 ⟨B, d, rfl, hown, hbl⟩
      have HB := Lib.hid ((HW.out.drewN _).trans hbl)
      have HDD := Lib.hid (HD0.out.bl (((Bl.refl _).drewN _).trans hbl))
      have HOW := Lib.hid (hown.mono (by simp : w.heap.size ≤ _))
      have hcx := HB.out.cellAt HCX.out
      simp only [bv] at hcx
      clear hbl hown
      go_wp2_with (first
        | (go_at_call 16; go_must (refine (ref_deedMay _ _ _ B xs.length d _ HLEN.out).mono ?_); rintro e w4 ⟨rfl, hbl4⟩; rw [HMAY.out]; have hb4 := Bl.trans ((Bl.refl w3).alloc _) hbl4; have hD4 := Lib.hid (Ob.bl HDD.out hb4); obtain ⟨d0, d1, d2, d3, f0, f1, f2, f3⟩ := Ob.all4 hD4.out; obtain ⟨g0, g1, g2, g3, _⟩ := Ob.all4 (Ob.bl (Ob.new w3 _ 26) hbl4)))
      refine bodyPost_ret (v := .tuple #[deedV x.toNat v1 v2 B xs.length d, .int .i64 0]) (results_ct rfl _ _ (hD4.out.set4 _ _ _ _).1 rfl rfl Try.underlying26 rfl Try.sizeDeed) rfl ?_
      unfold RetDeedR
      rw [HP.out]
      refine ⟨B, d, rfl, App.ch (HOW.out.bl hb4) (hD4.out.set4 _ _ _ _).2 (fun g hg => by simp at hg; subst hg; exact hD4.out.app (HOW.out.bl hb4) (by decide)), ((HB.out.trans hb4).ch [w.heap.size]).same (hD4.out.set4 _ _ _ _).2 |>.bl (by simp)⟩
end Go.Proofs.Ytedmamchfgkkfaa
