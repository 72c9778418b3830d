/- Layer 22 (deed) walked: GetAnswer. -/
import Derived.Test.YtpcbigadnkeflaaAnsD
namespace Go.Proofs.Ytpcbigadnkeflaa
open Go.RowKit
set_option maxRecDepth 100000
set_option maxHeartbeats 2000000

theorem rdr_number_at (R : Nat) (A : Option Addr) (c : Nat) (b : List UInt8) (p e0 n q f : Int) (w : World) (hb : b.length ≤ 140737488351232) (hp : Hid (-9223372036854775808 ≤ p ∧ p ≤ 9223372036854775807)) (hr : Rd w A (b.map bv)) (hob : Ob w R 85 (rdrV A b.length c p e0)) (h : rdNum b p e0 = (n, q, f)) :
    Calls Try.prog 63 #[.pointer (some ⟨R, 0, none⟩)] w fun e w' => e = .returned (.int .u64 n) ∧ Ob w' R 85 (rdrV A b.length c q f) ∧ Ch [R] w w' := by
  refine (rdr_number R A c b p e0 w hb hp hr hob).mono ?_
  rintro e w' ⟨h1, h2, h3⟩
  rw [h] at h1 h2
  exact ⟨h1, h2, h3⟩
theorem rdr_row_at (R : Nat) (A : Option Addr) (c : Nat) (b : List UInt8) (p e0 most : Int) (xs : List UInt8) (q f : Int) (w : World) (hb : b.length ≤ 140737488351232) (hcb : b.length ≤ c) (hp : Hid (-9223372036854775808 ≤ p ∧ p ≤ 9223372036854775807)) (hm : Hid (-9223372036854775808 ≤ most ∧ most ≤ 9223372036854775807)) (hr : Rd w A (b.map bv)) (hob : Ob w R 85 (rdrV A b.length c p e0)) (h : rdRow b p e0 most = (xs, q, f)) :
    Calls Try.prog 64 #[.pointer (some ⟨R, 0, none⟩), .int .i64 most] w fun e w' => ∃ B, e = .returned (.slice B xs.length xs.length) ∧ App w' w.heap.size 5 1 (.slice B xs.length xs.length) xs.length (xs.map bv) ∧ Ob w' R 85 (rdrV A b.length c q f) ∧ Ch [R] w w' := by
  refine (rdr_row R A c b p e0 most w hb hcb hp hm hr hob).mono ?_
  rintro e w' ⟨B, h1, h2, h3, h4⟩
  rw [h] at h1 h2 h3
  exact ⟨B, h1, h2, h3, h4⟩
theorem leb_GetList_at (A : Option Addr) (c : Nat) (b : List UInt8) (p most : Int) (xs : List Nat) (m e : Int) (w : World) (hb : b.length ≤ 140737488351232) (hp : -9223372036854775808 ≤ p ∧ p ≤ 9223372036854775807) (hm : -9223372036854775808 ≤ most ∧ most ≤ 1000000000000) (hr : Rd w A (b.map bv)) (h : lebList b p most = (xs, m, e)) :
    Calls Try.prog 85 #[.slice A b.length c, .int .i64 p, .int .i64 most] w fun e' w' => ∃ I d, e' = .returned (.tuple #[.slice I xs.length d, .int .i64 m, .int .i64 e]) ∧ App w' w.heap.size 23 1 (.slice I xs.length d) xs.length (xs.map wv) ∧ Bl w w' := by
  refine (leb_GetList A c b p most w hb hp hm hr).mono ?_
  rintro e' w' ⟨v, h1, h2, h3⟩
  rw [h] at h1 h2
  obtain ⟨I, d, rfl, _⟩ := h2.slice
  exact ⟨I, d, h1, h2, h3⟩

theorem ans_Get (A : Option Addr) (c : Nat) (b : List UInt8) (w : World) (hb : b.length ≤ 140737488351232) (hcb : b.length ≤ c) (hr : Rd w A (b.map bv)) :
    Calls Try.prog 44 #[.slice A b.length c] w (RetAns (ansGet b) w) := by
  obtain ⟨f, p1, e1, hn1⟩ : ∃ f p1 e1, rdNum b 0 0 = (f, p1, e1) := ⟨_, _, _, rfl⟩
  obtain ⟨id, p2, e2, hn2⟩ : ∃ f p e, rdNum b p1 e1 = (f, p, e) := ⟨_, _, _, rfl⟩
  obtain ⟨n, p3, e3, hn3⟩ : ∃ f p e, rdNum b p2 e2 = (f, p, e) := ⟨_, _, _, rfl⟩
  obtain ⟨row, p4, e4, hn4⟩ : ∃ f p e, rdRow b p3 e3 65536 = (f, p, e) := ⟨_, _, _, rfl⟩
  have ht : took3 b = ⟨f, id, n, row, p4, e4⟩ := by simp only [took3, hn1, hn2, hn3, hn4]
  have hfacts := took3_facts b hb
  rw [ht] at hfacts
  have HP0 : Hid (-9223372036854775808 ≤ (0 : Int) ∧ (0 : Int) ≤ 9223372036854775807) := by unfold Hid; omega
  have HP1 := Lib.hid (rdNum_place b 0 0 (by omega) hb)
  rw [hn1] at HP1
  have HP2 := Lib.hid (rdNum_place b p1 e1 HP1.out hb)
  rw [hn2] at HP2
  have HP3 := Lib.hid (rdNum_place b p2 e2 HP2.out hb)
  rw [hn3] at HP3
  have HG := Lib.hid (show ansGet b = if e4 ≠ 0 then ansNo e4 else if (lebList b p4 65536).2.2 ≠ 0 then ansNo (lebList b p4 65536).2.2
    else if (b.length : Int) ≤ (lebList b p4 65536).2.1 then ansNo 4
    else if (lebList b p4 65536).2.1 + 1 ≠ b.length ∨ 1 < (b.getD (lebList b p4 65536).2.1.toNat 0).toNat ∨ 13 < f ∨ 9223372036854775807 < n then ansNo 5
    else ⟨f, id, n, row, (lebList b p4 65536).1, (b.getD (lebList b p4 65536).2.1.toNat 0).toNat == 1, 0⟩ by unfold ansGet; rw [ht])
  have H1 := Lib.hid hn1
  have H2 := Lib.hid hn2
  have H3 := Lib.hid hn3
  have H4 := Lib.hid hn4
  have HF := Lib.hid hfacts
  have HR := Lib.hid hr
  clear hn1 hn2 hn3 hn4 ht hfacts hr
  have HW2 := Lib.hid (((Bl.refl w).alloc (.cells #[.int .i64 0, .int .u64 0, .int .i64 0, .slice none 0 0, .slice none 0 0, .bool false] 56)).alloc (.cells #[.slice A b.length c, .int .i64 0, .int .i64 0] 85))
  have oR : Hid (Ob ((w.alloc (.cells #[.int .i64 0, .int .u64 0, .int .i64 0, .slice none 0 0, .slice none 0 0, .bool false] 56)).alloc (.cells #[.slice A b.length c, .int .i64 0, .int .i64 0] 85)) (w.heap.size + 1) 85 (rdrV A b.length c 0 0)) := by
    unfold Hid
    have := Ob.new (w.alloc (.cells #[.int .i64 0, .int .u64 0, .int .i64 0, .slice none 0 0, .slice none 0 0, .bool false] 56)) #[.slice A b.length c, .int .i64 0, .int .i64 0] 85
    simpa using this
  have oD : Hid (Ob ((w.alloc (.cells #[.int .i64 0, .int .u64 0, .int .i64 0, .slice none 0 0, .slice none 0 0, .bool false] 56)).alloc (.cells #[.slice A b.length c, .int .i64 0, .int .i64 0] 85)) w.heap.size 56 #[.int .i64 0, .int .u64 0, .int .i64 0, .slice none 0 0, .slice none 0 0, .bool false]) :=
    (Ob.new w #[.int .i64 0, .int .u64 0, .int .i64 0, .slice none 0 0, .slice none 0 0, .bool false] 56).bl ((Bl.refl _).alloc _)
  go_enter Try.func44, Try.ntmps44
  go_wp2_with fail
  refine (rdr_number_at (w.heap.size + 1) A c b 0 0 _ _ _ _ hb HP0 (HR.out.bl HW2.out) oR.out H1.out).mono ?_
  rintro e w3 ⟨rfl, ho3, hc3⟩
  have HO3 := Lib.hid ho3
  have HC3 := Lib.hid hc3
  have HR3 := Lib.hid (HR.out.later HW2.out hc3 (fun g hg => by simp at hg; omega))
  clear ho3 hc3
  go_wp2_with fail
  refine (rdr_number_at (w.heap.size + 1) A c b p1 e1 _ _ _ _ hb HP1 HR3.out HO3.out H2.out).mono ?_
  rintro e w4 ⟨rfl, ho4, hc4⟩
  have HO4 := Lib.hid ho4
  have HC4 := Lib.hid (HC3.out.same hc4)
  have HR4 := Lib.hid (HR.out.later HW2.out HC4.out (fun g hg => by simp at hg; omega))
  clear ho4 hc4
  go_wp2_with fail
  refine (rdr_number_at (w.heap.size + 1) A c b p2 e2 _ _ _ _ hb HP2 HR4.out HO4.out H3.out).mono ?_
  rintro e w5 ⟨rfl, ho5, hc5⟩
  have HO5 := Lib.hid ho5
  have HC5 := Lib.hid (HC4.out.same hc5)
  have HR5 := Lib.hid (HR.out.later HW2.out HC5.out (fun g hg => by simp at hg; omega))
  clear ho5 hc5
  go_wp2_with fail
  refine (rdr_row_at (w.heap.size + 1) A c b p3 e3 65536 _ _ _ _ hb hcb HP3 (by unfold Hid; omega) HR5.out HO5.out H4.out).mono ?_
  rintro e w6 ⟨B, rfl, hown6, ho6, hc6⟩
  have HO6 := Lib.hid ho6
  have HC6 := Lib.hid (HC5.out.same hc6)
  have HR6 := Lib.hid (HR.out.later HW2.out HC6.out (fun g hg => by simp at hg; omega))
  have HB6 := Lib.hid (HW2.out.ch [w.heap.size + 1] |>.same HC6.out |>.bl (by simp))
  have HD6 := Lib.hid (oD.out.ch HC6.out (by simp))
  have HOW := Lib.hid (hown6.mono (show w.heap.size ≤ _ by have := HW2.out.size; have := HC5.out.size; omega))
  have r0 := HO6.out.cell 0 rfl
  have r1 := HO6.out.cell 1 rfl
  have r2 := HO6.out.cell 2 rfl
  obtain ⟨d0, d1, d2, d3, d4, d5, f0, f1, f2, f3, f4, f5⟩ := Ob.all6 HD6.out
  clear ho6 hc6 hown6 HO3 HC3 HR3 HO4 HC4 HR4 HO5 HC5 HR5 H1 H2 H3 H4 HP0 HP1 HP2 HP3 oD oR HW2
  by_cases hte : e4 = 0
  case neg =>
    have te1 : (e4 != 0) = true := by simpa using hte
    have HP := Lib.hid (show ansGet b = ansNo e4 by rw [HG.out, if_pos hte])
    clear hte HG
    go_wp2_with fail
    go_region
    go_wp2_with fail
    refine bodyPost_ret (v := .tuple #[ansV 0 0 0 none 0 0 none 0 0 false, .int .i64 e4]) (results_ct rfl _ _ (Ob.bl (HD6.out.set6 _ _ _ _ _ _).1 (Bl.refl _).drew) rfl rfl Try.underlying56 rfl Try.sizeAns) rfl ?_
    exact RetAns.no HP.out (Bl.drew ((HB6.out.ch [w.heap.size]).same (HD6.out.set6 _ _ _ _ _ _).2 |>.bl (by simp)))
  subst hte
  have HG2 := Lib.hid (HG.out.trans (if_neg (by simp)))
  clear HG
  rcases lebList_or b p4 65536 with ⟨e, h, hne, _⟩ | ⟨ids, m, h, hil, hml, _⟩
  · have HP := Lib.hid (show ansGet b = ansNo e by rw [HG2.out, h, if_pos hne])
    have H := Lib.hid h
    have te1 : (e != 0) = true := by simpa using hne
    clear h hne HG2
    go_wp2_with fail
    refine (leb_GetList_at A c b p4 65536 _ _ _ _ hb HF.out.2.2.2.2.2.2.2 (by omega) HR6.out H.out).mono ?_
    rintro e' w7 ⟨I, d, rfl, hown7, hbl7⟩
    have HD7 := Lib.hid (HD6.out.bl hbl7)
    have HB7 := Lib.hid (HB6.out.trans hbl7)
    obtain ⟨d0, d1, d2, d3, d4, d5, f0, f1, f2, f3, f4, f5⟩ := Ob.all6 HD7.out
    clear hown7 hbl7
    go_wp2_with fail
    refine bodyPost_ret (v := .tuple #[ansV 0 0 0 none 0 0 none 0 0 false, .int .i64 e]) (results_ct rfl _ _ (HD7.out.set6 _ _ _ _ _ _).1 rfl rfl Try.underlying56 rfl Try.sizeAns) rfl ?_
    exact RetAns.no HP.out ((HB7.out.ch [w.heap.size]).same (HD7.out.set6 _ _ _ _ _ _).2 |>.bl (by simp))
  have HG3 := Lib.hid (show ansGet b = if (b.length : Int) ≤ m then ansNo 4
    else if (m : Int) + 1 ≠ b.length ∨ 1 < (b.getD m 0).toNat ∨ 13 < f ∨ 9223372036854775807 < n then ansNo 5
    else ⟨f, id, n, row, ids, (b.getD m 0).toNat == 1, 0⟩ by rw [HG2.out, h, if_neg (by simp)]; rfl)
  have H := Lib.hid h
  clear h HG2
  go_wp2_with fail
  refine (leb_GetList_at A c b p4 65536 _ _ _ _ hb HF.out.2.2.2.2.2.2.2 (by omega) HR6.out H.out).mono ?_
  rintro e' w7 ⟨I, d, rfl, hown7, hbl7⟩
  have HD7 := Lib.hid (HD6.out.bl hbl7)
  have HB7 := Lib.hid (HB6.out.trans hbl7)
  have HOI := Lib.hid (hown7.mono HB6.out.size)
  have HOR := Lib.hid (HOW.out.bl hbl7)
  have HR7 := Lib.hid (HR6.out.bl hbl7)
  clear r0 r1 r2 d0 d1 d2 d3 d4 d5 f0 f1 f2 f3 f4 f5
  obtain ⟨d0, d1, d2, d3, d4, d5, f0, f1, f2, f3, f4, f5⟩ := Ob.all6 HD7.out
  clear hown7 hbl7 HD6 HB6 HOW HR6 HO6 HC6
  by_cases hlen : b.length ≤ m
  · have HP := Lib.hid (HG3.out.trans (if_pos (by omega)))
    clear HG3
    go_wp2_with fail
    refine bodyPost_ret (v := .tuple #[ansV 0 0 0 none 0 0 none 0 0 false, .int .i64 4]) (results_ct rfl _ _ (HD7.out.set6 _ _ _ _ _ _).1 rfl rfl Try.underlying56 rfl Try.sizeAns) rfl ?_
    exact RetAns.no HP.out ((HB7.out.ch [w.heap.size]).same (HD7.out.set6 _ _ _ _ _ _).2 |>.bl (by simp))
  have HG4 := Lib.hid (HG3.out.trans (if_neg (by omega)))
  clear HG3
  obtain ⟨x, hx⟩ := get_some b m (by omega)
  have hx0 : b.getD m 0 = x := by simp [List.getD_eq_getElem?_getD, hx]
  rw [hx0] at HG4
  obtain ⟨Ab, Ao, rfl, hcx⟩ := HR7.out.get hx
  simp only [bv] at hcx
  clear hx hx0
  have hff := HF.out
  by_cases hbad : (m : Int) + 1 ≠ b.length ∨ 1 < x.toNat ∨ 13 < f ∨ 9223372036854775807 < n
  · have HP := Lib.hid (HG4.out.trans (if_pos hbad))
    clear HG4
    have hsplit : ((m : Int) + 1 != (b.length : Int)) = true ∨ (((m : Int) + 1 != (b.length : Int)) = false ∧ (1 : Int) < x.toNat) ∨ (((m : Int) + 1 != (b.length : Int)) = false ∧ (x.toNat : Int) ≤ 1 ∧ 13 < f) ∨ (((m : Int) + 1 != (b.length : Int)) = false ∧ (x.toNat : Int) ≤ 1 ∧ f ≤ 13 ∧ 9223372036854775807 < n) := by
      by_cases h1 : (m : Int) + 1 = b.length
      · right
        have h2 : ((m : Int) + 1 != (b.length : Int)) = false := by simpa using h1
        simp only [h2, true_and]
        omega
      · left; simpa using h1
    clear hbad
    rcases hsplit with h1 | ⟨h1, h2⟩ | ⟨h1, h2, h3⟩ | ⟨h1, h2, h3, h4⟩
    all_goals
      go_wp2_with fail
      refine bodyPost_ret (v := .tuple #[ansV 0 0 0 none 0 0 none 0 0 false, .int .i64 5]) (results_ct rfl _ _ (HD7.out.set6 _ _ _ _ _ _).1 rfl rfl Try.underlying56 rfl Try.sizeAns) rfl ?_
      exact RetAns.no HP.out ((HB7.out.ch [w.heap.size]).same (HD7.out.set6 _ _ _ _ _ _).2 |>.bl (by simp))
  · have HP := Lib.hid (HG4.out.trans (if_neg hbad))
    clear HG4
    have h1 : ((m : Int) + 1 != (b.length : Int)) = false := by simp; omega
    have h2 : (x.toNat : Int) ≤ 1 := by omega
    have h3 : f ≤ 13 := by omega
    have h4 : n ≤ 9223372036854775807 := by omega
    have hwf : wrap64 f = f := by unfold wrap64; omega
    have hwn : wrap64 n = n := by unfold wrap64; omega
    have HMAY := Lib.hid (show ansMay f n row.length ids.length = true by unfold ansMay; simp; omega)
    have HLR := Lib.hid (show row.length ≤ 281474976710656 by omega)
    have HLI := Lib.hid (show ids.length ≤ 281474976710656 by omega)
    obtain ⟨mo, hmo⟩ : ∃ mo : Bool, ((x.toNat : Int) == 1) = mo := ⟨_, rfl⟩
    have HMO := Lib.hid (show (x.toNat == 1) = mo by rw [← hmo]; rw [Bool.eq_iff_iff]; simp; omega)
    rw [HMO.out] at HP
    clear hbad HMO hff
    go_wp2_with (first
      | (go_at_call 77; go_must (refine (RetBl.at (ans_may f id n B I row.length row.length ids.length d mo _ HLR.out HLI.out) HMAY.out).mono ?_); rintro e w8 ⟨rfl, hbl8⟩; have hb8 := Bl.trans ((Bl.refl w7).alloc _) hbl8; have hD8 := Lib.hid (Ob.bl HD7.out hb8); obtain ⟨d0, d1, d2, d3, d4, d5, f0, f1, f2, f3, f4, f5⟩ := Ob.all6 hD8.out; obtain ⟨g0, g1, g2, g3, g4, g5, _⟩ := Ob.all6 (Ob.bl (Ob.new w7 _ 56) hbl8)))
    refine bodyPost_ret (v := .tuple #[ansV f id n B row.length row.length I ids.length d mo, .int .i64 0]) (results_ct rfl _ _ (hD8.out.set6 _ _ _ _ _ _).1 rfl rfl Try.underlying56 rfl Try.sizeAns) rfl ?_
    unfold RetAns
    rw [HP.out]
    refine ⟨B, row.length, I, d, rfl, App.ch (HOR.out.bl hb8) (hD8.out.set6 _ _ _ _ _ _).2 (fun g hg => by simp at hg; subst hg; exact hD8.out.app (HOR.out.bl hb8) (by decide)), App.ch (HOI.out.bl hb8) (hD8.out.set6 _ _ _ _ _ _).2 (fun g hg => by simp at hg; subst hg; exact hD8.out.app (HOI.out.bl hb8) (by decide)), ((HB7.out.trans hb8).ch [w.heap.size]).same (hD8.out.set6 _ _ _ _ _ _).2 |>.bl (by simp)⟩
end Go.Proofs.Ytpcbigadnkeflaa
