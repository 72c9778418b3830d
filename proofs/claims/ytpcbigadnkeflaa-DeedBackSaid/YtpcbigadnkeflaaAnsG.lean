/- The law of layer 22 walked: DeedAnswers. -/
import Derived.Test.YtpcbigadnkeflaaAnsF
import Derived.Test.YtpcbigadnkeflaaDeedH
namespace Go.Proofs.Ytpcbigadnkeflaa
open Go.RowKit
set_option maxRecDepth 100000
set_option maxHeartbeats 2000000

theorem ans_same_self (e id n : Int) (more : Bool) (A B I J : Option Addr) (c d ci di : Nat) (xs : List UInt8) (us : List Nat) (w : World) (hl : xs.length ≤ 281474976710656) (hlu : us.length ≤ 281474976710656) (hx : Rd w A (xs.map bv)) (hy : Rd w B (xs.map bv)) (hu : Rd w I (us.map wv)) (hv : Rd w J (us.map wv)) :
    Calls Try.prog 42 #[ansV e id n A xs.length c I us.length ci more, ansV e id n B xs.length d J us.length di more] w (RetBl true w) := by
  have h := ans_same e id n e id n more more A B I J c d ci di xs xs us us w hl hlu hx hy hu hv
  simpa using h
theorem ref_ansSame_self (e id n : Int) (more : Bool) (A B I J : Option Addr) (c d ci di : Nat) (xs : List UInt8) (us : List Nat) (w : World) (hl : xs.length ≤ 281474976710656) (hlu : us.length ≤ 281474976710656) (hx : Rd w A (xs.map bv)) (hy : Rd w B (xs.map bv)) (hu : Rd w I (us.map wv)) (hv : Rd w J (us.map wv)) :
    Calls Try.prog 43 #[ansV e id n A xs.length c I us.length ci more, ansV e id n B xs.length d J us.length di more] w (RetBl true w) := by
  have h := ref_ansSame e id n e id n more more A B I J c d ci di xs xs us us w hl hlu hx hy hu hv
  simpa using h
theorem ansPut_len (e id n : Int) (b : List UInt8) (is : List Nat) (more : Bool) (h0 : id < 18446744073709551616) (h1 : n < 9223372036854775808) (h64 : ∀ n ∈ is, n < 2 ^ 64) : (ansPut e id n b is more).1.length ≤ 281474976710656 := by
  unfold ansPut
  split
  · simp
  · rename_i hm
    have hq : 0 ≤ e ∧ e ≤ 13 ∧ 0 ≤ n ∧ b.length ≤ 65536 ∧ is.length ≤ 65536 := by simp only [ansMay, decide_eq_false_iff_not, Classical.not_not] at hm; omega
    have h1 := (lebPut_ten (n := id.toNat) (by omega)).1
    have h2 := (lebPut_ten (n := n.toNat) (by omega)).1
    have h4 := (lebPut_ten (n := e.toNat) (by omega)).1
    have h3 := lebRowPut_len b (by omega)
    have h5 := lebListPut_len is (by omega) h64
    simp only [ansBytes, List.length_append, List.length_singleton]
    omega
theorem ansGet_facts (b : List UInt8) (hb : b.length ≤ 140737488351232) : (ansGet b).row.length ≤ 281474976710656 ∧ (ansGet b).ids.length ≤ 281474976710656 := by
  unfold ansGet
  have h := (took3_facts b hb).2.2.2.2.2.2.1
  have h2 : (lebList b (took3 b).p 65536).1.length ≤ 65536 := by
    rcases lebList_or b (took3 b).p 65536 with ⟨e, h, _⟩ | ⟨ids, m, h, hil, _⟩
    · rw [h]; simp
    · rw [h]; simp only; omega
  split
  · simp [ansNo]
  · split
    · simp [ansNo]
    · split
      · simp [ansNo]
      · split
        · simp [ansNo]
        · simp only; omega
theorem answers_calls (e id n e2 id2 n2 : Int) (more more2 : Bool) (A B I J : Option Addr) (c d ci di : Nat) (xs ys : List UInt8) (us vs : List Nat) (G : Option Addr) (b : List UInt8) (cb : Nat) (w : World)
    (hxs : xs.length ≤ 140737488351232) (hus : us.length ≤ 140737488351232) (hb : b.length ≤ 140737488351232) (hbd : b.length ≤ cb) (h0 : 0 ≤ id) (h1 : Hid (id < 18446744073709551616)) (hn1 : Hid (n < 9223372036854775808)) (h64 : Hid (∀ n ∈ us, n < 2 ^ 64))
    (hx : Rd w A (xs.map bv)) (hy : Rd w B (ys.map bv)) (hu : Rd w I (us.map wv)) (hv : Rd w J (vs.map wv)) (hg : Rd w G (b.map bv)) :
    Calls Try.prog 6 #[ansV e id n A xs.length c I us.length ci more, ansV e2 id2 n2 B ys.length d J vs.length di more2, .slice G b.length cb] w (RetBl true w) := by
  have HX := Lib.hid hx
  have HY := Lib.hid hy
  have HU := Lib.hid hu
  have HV := Lib.hid hv
  have HG := Lib.hid hg
  clear hx hy hu hv hg
  have HLX := Lib.hid (show xs.length ≤ 281474976710656 by omega)
  have HLU := Lib.hid (show us.length ≤ 281474976710656 by omega)
  have HC : Hid (∀ w' : World, Bl ((w.alloc (.cells #[.int .i64 e, .int .u64 id, .int .i64 n, .slice A xs.length c, .slice I us.length ci, .bool more] 56)).alloc (.cells #[.int .i64 e2, .int .u64 id2, .int .i64 n2, .slice B ys.length d, .slice J vs.length di, .bool more2] 56)) w' → w'.cell? ⟨w.heap.size, 0, none⟩ = some (.int .i64 e) ∧ w'.cell? ⟨w.heap.size, 1, none⟩ = some (.int .u64 id) ∧ w'.cell? ⟨w.heap.size, 2, none⟩ = some (.int .i64 n) ∧ w'.cell? ⟨w.heap.size, 3, none⟩ = some (.slice A xs.length c) ∧ w'.cell? ⟨w.heap.size, 4, none⟩ = some (.slice I us.length ci) ∧ w'.cell? ⟨w.heap.size, 5, none⟩ = some (.bool more) ∧ w'.cell? ⟨w.heap.size + 1, 0, none⟩ = some (.int .i64 e2) ∧ w'.cell? ⟨w.heap.size + 1, 1, none⟩ = some (.int .u64 id2) ∧ w'.cell? ⟨w.heap.size + 1, 2, none⟩ = some (.int .i64 n2) ∧ w'.cell? ⟨w.heap.size + 1, 3, none⟩ = some (.slice B ys.length d) ∧ w'.cell? ⟨w.heap.size + 1, 4, none⟩ = some (.slice J vs.length di) ∧ w'.cell? ⟨w.heap.size + 1, 5, none⟩ = some (.bool more2)) := fun w' h => by
    obtain ⟨a0, a1, a2, a3, a4, a5, _⟩ := Ob.all6 (((Ob.new w _ 56).bl ((Bl.refl _).alloc _)).bl h)
    obtain ⟨b0, b1, b2, b3, b4, b5, _⟩ := Ob.all6 ((Ob.new (w.alloc (.cells #[.int .i64 e, .int .u64 id, .int .i64 n, .slice A xs.length c, .slice I us.length ci, .bool more] 56)) _ 56).bl h)
    exact ⟨a0, a1, a2, a3, a4, a5, by simpa using b0, by simpa using b1, by simpa using b2, by simpa using b3, by simpa using b4, by simpa using b5⟩
  have HL := Lib.hid (((Bl.refl w).alloc (.cells #[.int .i64 e, .int .u64 id, .int .i64 n, .slice A xs.length c, .slice I us.length ci, .bool more] 56)).alloc (.cells #[.int .i64 e2, .int .u64 id2, .int .i64 n2, .slice B ys.length d, .slice J vs.length di, .bool more2] 56))
  have hxl := ansPut_len e id n xs us more h1.out hn1.out h64.out
  go_enter Try.func6, Try.ntmps6
  go_wp2_with fail
  refine (ans_Put e id n A I xs us c ci more _ HLX.out HLU.out h0 h1 hn1 h64 (HX.out.bl HL.out) (HU.out.bl HL.out)).mono ?_
  generalize hpr : ansPut e id n xs us more = pr at hxl
  rintro z w3 ⟨v3, rfl, hown3, hbl3⟩
  obtain ⟨A3, c3, rfl, hcc3⟩ := hown3.slice
  have HP3 := Lib.hid hown3.rd.1
  have HB3 := Lib.hid hbl3
  obtain ⟨q0, q1, q2, q3, q4, q5, q6, q7, q8, q9, q10, q11⟩ := HC.out _ hbl3
  clear hown3 hbl3 hcc3
  go_wp2_with fail
  refine (ref_ansPut e id n A I xs us c ci more _ HLX.out HLU.out h0 h1 hn1 h64 (HX.out.bl (HL.out.trans HB3.out)) (HU.out.bl (HL.out.trans HB3.out))).mono ?_
  rw [hpr]
  clear hpr
  rintro z w4 ⟨v4, rfl, hown4, hbl4⟩
  obtain ⟨A4, c4, rfl, hcc4⟩ := hown4.slice
  have HP4 := Lib.hid hown4.rd.1
  have HB4 := Lib.hid (HB3.out.trans hbl4)
  have HP3' := Lib.hid (HP3.out.bl hbl4)
  have HBW := Lib.hid (HL.out.trans HB4.out)
  have HK : Hid (∀ w' : World, Bl w4 w' → w'.cell? ⟨w.heap.size, 0, none⟩ = some (.int .i64 e) ∧ w'.cell? ⟨w.heap.size, 1, none⟩ = some (.int .u64 id) ∧ w'.cell? ⟨w.heap.size, 2, none⟩ = some (.int .i64 n) ∧ w'.cell? ⟨w.heap.size, 3, none⟩ = some (.slice A xs.length c) ∧ w'.cell? ⟨w.heap.size, 4, none⟩ = some (.slice I us.length ci) ∧ w'.cell? ⟨w.heap.size, 5, none⟩ = some (.bool more) ∧ w'.cell? ⟨w.heap.size + 1, 0, none⟩ = some (.int .i64 e2) ∧ w'.cell? ⟨w.heap.size + 1, 1, none⟩ = some (.int .u64 id2) ∧ w'.cell? ⟨w.heap.size + 1, 2, none⟩ = some (.int .i64 n2) ∧ w'.cell? ⟨w.heap.size + 1, 3, none⟩ = some (.slice B ys.length d) ∧ w'.cell? ⟨w.heap.size + 1, 4, none⟩ = some (.slice J vs.length di) ∧ w'.cell? ⟨w.heap.size + 1, 5, none⟩ = some (.bool more2) ∧ Bl w4 w') := fun w' h => by
    obtain ⟨a0, a1, a2, a3, a4, a5, a6, a7, a8, a9, a10, a11⟩ := HC.out _ (HB4.out.trans h)
    exact ⟨a0, a1, a2, a3, a4, a5, a6, a7, a8, a9, a10, a11, h⟩
  clear hown4 hbl4 hcc4 q0 q1 q2 q3 q4 q5 q6 q7 q8 q9 q10 q11
  obtain ⟨ps, er⟩ := pr
  have HPL := Lib.hid (show ps.length ≤ 281474976710656 from hxl)
  generalize hsm : decide (e = e2 ∧ id = id2 ∧ n = n2 ∧ more = more2 ∧ xs = ys ∧ us = vs) = sm
  have HS := Lib.hid hsm
  clear hsm hxl HB3 HP3
  have x1 : (sm != sm) = false := by simp
  have x2 : (er != er) = false := by simp
  obtain ⟨q0, q1, q2, q3, q4, q5, q6, q7, q8, q9, q10, q11, hbk⟩ := HK.out w4 (Bl.refl _)
  go_wp2_with fail
  go_region_held3 (fun w' => w'.cell? ⟨w.heap.size, 0, none⟩ = some (.int .i64 e) ∧ w'.cell? ⟨w.heap.size, 1, none⟩ = some (.int .u64 id) ∧ w'.cell? ⟨w.heap.size, 2, none⟩ = some (.int .i64 n) ∧ w'.cell? ⟨w.heap.size, 3, none⟩ = some (.slice A xs.length c) ∧ w'.cell? ⟨w.heap.size, 4, none⟩ = some (.slice I us.length ci) ∧ w'.cell? ⟨w.heap.size, 5, none⟩ = some (.bool more) ∧ w'.cell? ⟨w.heap.size + 1, 0, none⟩ = some (.int .i64 e2) ∧ w'.cell? ⟨w.heap.size + 1, 1, none⟩ = some (.int .u64 id2) ∧ w'.cell? ⟨w.heap.size + 1, 2, none⟩ = some (.int .i64 n2) ∧ w'.cell? ⟨w.heap.size + 1, 3, none⟩ = some (.slice B ys.length d) ∧ w'.cell? ⟨w.heap.size + 1, 4, none⟩ = some (.slice J vs.length di) ∧ w'.cell? ⟨w.heap.size + 1, 5, none⟩ = some (.bool more2) ∧ Bl w4 w')
    (exact HK.out _ (by (focus ((repeat (first | with_reducible assumption | exact Bl.refl _ | refine Bl.drew ?_ | refine Bl.drewN ?_ _ | refine Bl.alloc ?_ _ | (refine Bl.trans ?_ (by with_reducible assumption)))); done))))
    (first
      | (go_at_call 19; refine (RetBl.ofDr (same_self A3 A4 c3 c4 ps.length ps.length ps _ rfl rfl HPL.out (Rd.bl HP3'.out (by (focus ((repeat (first | with_reducible assumption | exact Bl.refl _ | refine Bl.drew ?_ | refine Bl.drewN ?_ _ | refine Bl.alloc ?_ _ | (refine Bl.trans ?_ (by with_reducible assumption)))); done)))) (Rd.bl HP4.out (by (focus ((repeat (first | with_reducible assumption | exact Bl.refl _ | refine Bl.drew ?_ | refine Bl.drewN ?_ _ | refine Bl.alloc ?_ _ | (refine Bl.trans ?_ (by with_reducible assumption)))); done)))))).mono ?_; rintro z w5 ⟨rfl, hbl5⟩)
      | (go_at_call 42; (with_reducible refine (ans_same_self e id n more A A I I c c ci ci xs us _ HLX.out HLU.out (Rd.bl (HX.out.bl HBW.out) (by (focus ((repeat (first | with_reducible assumption | exact Bl.refl _ | refine Bl.drew ?_ | refine Bl.drewN ?_ _ | refine Bl.alloc ?_ _ | (refine Bl.trans ?_ (by with_reducible assumption)))); done)))) (Rd.bl (HX.out.bl HBW.out) (by (focus ((repeat (first | with_reducible assumption | exact Bl.refl _ | refine Bl.drew ?_ | refine Bl.drewN ?_ _ | refine Bl.alloc ?_ _ | (refine Bl.trans ?_ (by with_reducible assumption)))); done)))) (Rd.bl (HU.out.bl HBW.out) (by (focus ((repeat (first | with_reducible assumption | exact Bl.refl _ | refine Bl.drew ?_ | refine Bl.drewN ?_ _ | refine Bl.alloc ?_ _ | (refine Bl.trans ?_ (by with_reducible assumption)))); done)))) (Rd.bl (HU.out.bl HBW.out) (by (focus ((repeat (first | with_reducible assumption | exact Bl.refl _ | refine Bl.drew ?_ | refine Bl.drewN ?_ _ | refine Bl.alloc ?_ _ | (refine Bl.trans ?_ (by with_reducible assumption)))); done))))).mono ?_); rintro z w8 ⟨rfl, hbl8⟩)
      | (go_at_call 42; refine (RetBl.at (ans_same e id n e2 id2 n2 more more2 A B I J c d ci di xs ys us vs _ HLX.out HLU.out (Rd.bl (HX.out.bl HBW.out) (by (focus ((repeat (first | with_reducible assumption | exact Bl.refl _ | refine Bl.drew ?_ | refine Bl.drewN ?_ _ | refine Bl.alloc ?_ _ | (refine Bl.trans ?_ (by with_reducible assumption)))); done)))) (Rd.bl (HY.out.bl HBW.out) (by (focus ((repeat (first | with_reducible assumption | exact Bl.refl _ | refine Bl.drew ?_ | refine Bl.drewN ?_ _ | refine Bl.alloc ?_ _ | (refine Bl.trans ?_ (by with_reducible assumption)))); done)))) (Rd.bl (HU.out.bl HBW.out) (by (focus ((repeat (first | with_reducible assumption | exact Bl.refl _ | refine Bl.drew ?_ | refine Bl.drewN ?_ _ | refine Bl.alloc ?_ _ | (refine Bl.trans ?_ (by with_reducible assumption)))); done)))) (Rd.bl (HV.out.bl HBW.out) (by (focus ((repeat (first | with_reducible assumption | exact Bl.refl _ | refine Bl.drew ?_ | refine Bl.drewN ?_ _ | refine Bl.alloc ?_ _ | (refine Bl.trans ?_ (by with_reducible assumption)))); done))))) HS.out).mono ?_; rintro z w6 ⟨rfl, hbl6⟩)
      | (go_at_call 43; refine (RetBl.at (ref_ansSame e id n e2 id2 n2 more more2 A B I J c d ci di xs ys us vs _ HLX.out HLU.out (Rd.bl (HX.out.bl HBW.out) (by (focus ((repeat (first | with_reducible assumption | exact Bl.refl _ | refine Bl.drew ?_ | refine Bl.drewN ?_ _ | refine Bl.alloc ?_ _ | (refine Bl.trans ?_ (by with_reducible assumption)))); done)))) (Rd.bl (HY.out.bl HBW.out) (by (focus ((repeat (first | with_reducible assumption | exact Bl.refl _ | refine Bl.drew ?_ | refine Bl.drewN ?_ _ | refine Bl.alloc ?_ _ | (refine Bl.trans ?_ (by with_reducible assumption)))); done)))) (Rd.bl (HU.out.bl HBW.out) (by (focus ((repeat (first | with_reducible assumption | exact Bl.refl _ | refine Bl.drew ?_ | refine Bl.drewN ?_ _ | refine Bl.alloc ?_ _ | (refine Bl.trans ?_ (by with_reducible assumption)))); done)))) (Rd.bl (HV.out.bl HBW.out) (by (focus ((repeat (first | with_reducible assumption | exact Bl.refl _ | refine Bl.drew ?_ | refine Bl.drewN ?_ _ | refine Bl.alloc ?_ _ | (refine Bl.trans ?_ (by with_reducible assumption)))); done))))) HS.out).mono ?_; rintro z w7 ⟨rfl, hbl7⟩))
  have HBX := Lib.hid (show Bl w w8 from HBW.out.trans (by (focus ((repeat (first | with_reducible assumption | exact Bl.refl _ | refine Bl.drew ?_ | refine Bl.drewN ?_ _ | refine Bl.alloc ?_ _ | (refine Bl.trans ?_ (by with_reducible assumption)))); done))))
  clear q0 q1 q2 q3 q4 q5 q6 q7 q8 q9 q10 q11 hbk hbl5 hbl6 hbl7 hbl8 HS HPL HBW HP3' HP4 HK HB4 HC HL HX HY HU HV
  go_wp2_with fail
  refine (wide_calls G cb b _ hb (HG.out.bl HBX.out)).mono ?_
  rintro z w11 ⟨g2, rfl, hw11, hbl11⟩
  have HWJ := Lib.hid hw11
  have HBY := Lib.hid (HBX.out.trans hbl11)
  clear hw11 hbl11
  go_wp2_with fail
  refine (ans_Get _ _ b _ hb (by omega) HWJ.out.rd).mono ?_
  have hfr := ansGet_facts b hb
  generalize hpr : ansGet b = r at hfr
  rintro z w12 ⟨B12, c12, I12, d12, rfl, hown12, hids12, hbl12⟩
  have HO12 := Lib.hid hown12.rd.1
  have HI12 := Lib.hid hids12.rd.1
  have HFR := Lib.hid hfr
  have HPR := Lib.hid hpr
  have HB13 := Lib.hid (hbl12.alloc (.cells #[.int .i64 r.f, .int .u64 r.id, .int .i64 r.n, .slice B12 r.row.length c12, .slice I12 r.ids.length d12, .bool r.more] 56))
  have HX13 := Lib.hid ((Ob.new w12 #[.int .i64 r.f, .int .u64 r.id, .int .i64 r.n, .slice B12 r.row.length c12, .slice I12 r.ids.length d12, .bool r.more] 56))
  clear hown12 hids12 hbl12 hpr hfr
  go_wp2_with fail
  refine (ref_ansGet G cb b _ hb hbd (HG.out.bl (HBY.out.trans HB13.out))).mono ?_
  rw [HPR.out]
  rintro z w14 ⟨B14, c14, I14, d14, rfl, hown14, hids14, hbl14⟩
  have HO14 := Lib.hid hown14.rd.1
  have HI14 := Lib.hid hids14.rd.1
  have HB15 := Lib.hid (hbl14.alloc (.cells #[.int .i64 r.f, .int .u64 r.id, .int .i64 r.n, .slice B14 r.row.length c14, .slice I14 r.ids.length d14, .bool r.more] 56))
  have HX15 := Lib.hid ((Ob.new w14 #[.int .i64 r.f, .int .u64 r.id, .int .i64 r.n, .slice B14 r.row.length c14, .slice I14 r.ids.length d14, .bool r.more] 56))
  obtain ⟨a0, a1, a2, a3, a4, a5, _⟩ := Ob.all6 ((HX13.out.bl hbl14).bl ((Bl.refl w14).alloc (.cells #[.int .i64 r.f, .int .u64 r.id, .int .i64 r.n, .slice B14 r.row.length c14, .slice I14 r.ids.length d14, .bool r.more] 56)))
  obtain ⟨b0, b1, b2, b3, b4, b5, _⟩ := Ob.all6 HX15.out
  obtain ⟨u0, u1, u2, u3, u4, u5, _⟩ := Ob.all6 (HX13.out.bl hbl14)
  have e5 : (r.e == r.e) = true := by simp
  clear hown14 hids14 hbl14
  go_wp2_with fail
  refine (ref_ansSame_self r.f r.id r.n r.more B12 B14 I12 I14 _ _ _ _ r.row r.ids _ HFR.out.1 HFR.out.2 (HO12.out.bl (((Bl.refl _).alloc _).trans HB15.out)) (HO14.out.bl ((Bl.refl _).alloc _)) (HI12.out.bl (((Bl.refl _).alloc _).trans HB15.out)) (HI14.out.bl ((Bl.refl _).alloc _))).mono ?_
  rintro z w16 ⟨rfl, hbl16⟩
  have HB16 := Lib.hid (HB13.out.trans (HB15.out.trans hbl16))
  have HWK := Lib.hid (HWJ.out.bl HB16.out)
  clear hbl16 a0 a1 a2 a3 a4 a5 b0 b1 b2 b3 b4 b5 u0 u1 u2 u3 u4 u5
  go_wp2_with fail
  refine (left_calls g2 _ G cb b _ hb HWK.out (HG.out.bl (HBY.out.trans HB16.out))).mono ?_
  rintro z w18 ⟨rfl, hdr18⟩
  have HB18 := Lib.hid ((HBY.out.trans HB16.out).trans (hdr18.below _))
  clear hdr18
  go_wp2_with fail
  refine (deed_lives _).mono ?_
  rintro z w19 ⟨rfl, hbl19⟩
  go_wp2_with fail
  go_ret
  exact RetBl.mk rfl (HB18.out.trans hbl19)
end Go.Proofs.Ytpcbigadnkeflaa
