/- The law of layer 22 walked: DeedCodes. -/
import Derived.Test.YtedmamchfgkkfaaDeedG
namespace Go.Proofs.Ytedmamchfgkkfaa
open Go.RowKit
set_option maxRecDepth 100000
set_option maxHeartbeats 2000000

theorem same_self (A B : Option Addr) (c d n m : Nat) (xs : List UInt8) (w : World) (hn : n = xs.length) (hm : m = xs.length) (hl : xs.length ≤ 281474976710656) (hx : Rd w A (xs.map bv)) (hy : Rd w B (xs.map bv)) :
    Calls Try.prog 19 #[.slice A n c, .slice B m d] w (RetDr true w) := by
  subst hn hm
  have h := same_calls A B c d xs xs w hl hx hy
  simpa using h
theorem RetBl.ofDr {P : Program} {f : FuncId} {args : Array Value} {w : World} {m : Bool} (h : Calls P f args w (RetDr m w)) : Calls P f args w (RetBl m w) := h.mono fun _ _ h => ⟨h.1, h.2.below _⟩
theorem RetBl.at {P : Program} {f : FuncId} {args : Array Value} {w : World} {x m : Bool} (h : Calls P f args w (RetBl x w)) (e : x = m) : Calls P f args w (RetBl m w) := e ▸ h
theorem deedPut_len (k id n : Int) (b : List UInt8) (h0 : id < 18446744073709551616) : (deedPut k id n b).1.length ≤ b.length + 31 := by
  unfold deedPut
  split
  · simp
  · split
    · simp
    · rename_i hm hl
      have hn : 0 ≤ n ∧ n ≤ 65536 := by simp only [deedMay, decide_eq_false_iff_not, Classical.not_not] at hm; omega
      have h1 := (lebPut_ten (n := id.toNat) (by omega)).1
      have h2 := (lebPut_ten (n := n.toNat) (by omega)).1
      have h3 := lebRowPut_len b (by omega)
      simp only [deedBytes, List.length_append, List.length_singleton]
      omega
theorem deedGet_len (b : List UInt8) (hb : b.length ≤ 140737488351232) : (deedGet b).row.length ≤ 281474976710656 := by
  unfold deedGet
  split
  · simp [deedNo]
  · split
    · simp [deedNo]
    · split
      · simp [deedNo]
      · split
        · simp [deedNo]
        · exact took_len b hb
theorem same_deed_self (k id n : Int) (A B : Option Addr) (c d x y : Nat) (xs : List UInt8) (w : World) (hx0 : x = xs.length) (hy0 : y = xs.length) (hl : xs.length ≤ 281474976710656) (hx : Rd w A (xs.map bv)) (hy : Rd w B (xs.map bv)) :
    Calls Try.prog 23 #[deedV k id n A x c, deedV k id n B y d] w (RetBl true w) := by
  subst hx0 hy0
  have h := ref_sameDeed k id n k id n A B c d xs xs w hl hx hy
  simpa using h
theorem codes_calls (k id n : Int) (A : Option Addr) (db : List UInt8) (c : Nat) (B : Option Addr) (b : List UInt8) (d : Nat) (w : World) (hdb : db.length ≤ 140737488351232) (hb : b.length ≤ 140737488351232) (hbd : b.length ≤ d) (h0 : 0 ≤ id) (h1 : Hid (id < 18446744073709551616)) (hrA : Rd w A (db.map bv)) (hrB : Rd w B (b.map bv)) :
    Calls Try.prog 3 #[deedV k id n A db.length c, .slice B b.length d] w (RetBl true w) := by
  have HA := Lib.hid hrA
  have HB := Lib.hid hrB
  clear hrA hrB
  have oD := Ob.new w #[.int .u8 k, .int .u64 id, .int .i64 n, .slice A db.length c] 26
  have HD := Lib.hid oD
  have oW : Ob ((w.alloc (.cells #[.int .u8 k, .int .u64 id, .int .i64 n, .slice A db.length c] 26)).alloc (.cells #[.int .u8 k, .int .u64 id, .int .i64 n, .slice A db.length c] 26)) (w.heap.size + 1) 26 #[.int .u8 k, .int .u64 id, .int .i64 n, .slice A db.length c] := by
    have := Ob.new (w.alloc (.cells #[.int .u8 k, .int .u64 id, .int .i64 n, .slice A db.length c] 26)) #[.int .u8 k, .int .u64 id, .int .i64 n, .slice A db.length c] 26
    simpa using this
  have HW := Lib.hid oW
  have HL := Lib.hid (((Bl.refl w).alloc (.cells #[.int .u8 k, .int .u64 id, .int .i64 n, .slice A db.length c] 26)).alloc (.cells #[.int .u8 k, .int .u64 id, .int .i64 n, .slice A db.length c] 26))
  clear oD oW
  go_enter Try.func3, Try.ntmps3
  go_wp2_with fail
  refine (wide_calls A c db _ hdb (HA.out.bl HL.out)).mono ?_
  rintro e w1 ⟨g, rfl, hw1, hbl1⟩
  have hw2 := HL.out.trans hbl1
  have hd1 := ((HD.out.bl ((Bl.refl _).alloc _)).bl hbl1)
  have ho1 := (HW.out.bl hbl1)
  obtain ⟨p0, p1, p2, p3, _, _, _, f3⟩ := Ob.all4 ho1
  have hput := ho1.set 3 (.slice (some ⟨g, 0, none⟩) db.length (db.length + 3))
  have hch := Ch.put w1 (w.heap.size + 1) 3 (.slice (some ⟨g, 0, none⟩) db.length (db.length + 3))
  have hgg := hw1.ge
  simp only [List.setIfInBounds_toArray, List.set_cons_succ, List.set_cons_zero] at hput
  have hd2 := hd1.ch hch (by simp)
  have hw3 := (hw2.ch [w.heap.size + 1]).same hch |>.bl (by simp)
  have hwide2 : IsWide _ _ g db := App.ch hw1 hch (by intro q hq; simp [Value.ownBlock] at hq ⊢; simp at hgg; omega)
  have HWI := Lib.hid hwide2
  have HO := Lib.hid hput
  have HDD := Lib.hid hd2
  have HBL := Lib.hid hw3
  clear hput hch hgg hd2 hw3 hwide2 hw2 ho1 hd1 hw1 hbl1
  go_wp2_with fail
  generalize w1.setCell ⟨w.heap.size + 1, 3, none⟩ (.slice (some ⟨g, 0, none⟩) db.length (db.length + 3)) = w2 at HWI HO HDD HBL ⊢
  clear p0 p1 p2 p3 f3 HL HD HW
  refine (deed_Put k id n _ db (db.length + 3) _ (by omega) h0 h1 HWI.out.rd).mono ?_
  rintro e w3 ⟨v3, rfl, hown3, hbl3⟩
  obtain ⟨A3, c3, rfl, hcc3⟩ := hown3.slice
  have HP3 := Lib.hid hown3.rd.1
  have HB3 := Lib.hid hbl3
  obtain ⟨q0, q1, q2, q3, _⟩ := Ob.all4 (HDD.out.bl hbl3)
  clear hown3 hbl3 hcc3
  go_wp2_with fail
  have hxl := deedPut_len k id n db h1.out
  generalize hpr : deedPut k id n db = pr at HP3 hxl
  refine (ref_deedPut k id n A db c _ (by omega) h0 h1 (HA.out.bl (HBL.out.trans HB3.out))).mono ?_
  rw [hpr]
  clear hpr
  rintro e w4 ⟨v4, rfl, hown4, hbl4⟩
  obtain ⟨A4, c4, rfl, hcc4⟩ := hown4.slice
  have HP4 := Lib.hid hown4.rd.1
  have HB4 := Lib.hid (HB3.out.trans hbl4)
  have HP3' := Lib.hid (HP3.out.bl hbl4)
  have HK : Hid (∀ w' : World, Bl w4 w' → w'.cell? ⟨w.heap.size, 0, none⟩ = some (.int .u8 k) ∧ w'.cell? ⟨w.heap.size, 1, none⟩ = some (.int .u64 id) ∧ w'.cell? ⟨w.heap.size, 2, none⟩ = some (.int .i64 n) ∧ w'.cell? ⟨w.heap.size, 3, none⟩ = some (.slice A db.length c) ∧ w'.cell? ⟨w.heap.size + 1, 3, none⟩ = some (.slice (some ⟨g, 0, none⟩) db.length (db.length + 3)) ∧ Bl w4 w') := fun w' h => by
    obtain ⟨a0, a1, a2, a3, _⟩ := Ob.all4 ((HDD.out.bl HB4.out).bl h)
    obtain ⟨b0, b1, b2, b3, _⟩ := Ob.all4 ((HO.out.bl HB4.out).bl h)
    exact ⟨a0, a1, a2, a3, b3, h⟩
  clear hown4 hbl4 hcc4 q0 q1 q2 q3
  obtain ⟨xs, er⟩ := pr
  have HX := Lib.hid (show xs.length ≤ 281474976710656 by simp only at hxl; omega)
  have HLA := Lib.hid (show db.length ≤ 281474976710656 by omega)
  have HBW := Lib.hid (HBL.out.trans HB4.out)
  have HWI4 := Lib.hid (HWI.out.bl HB4.out)
  generalize hm : deedMay k id n db.length = m
  generalize hc : deedChanges k id n db.length = mc
  have HM := Lib.hid hm
  have HC := Lib.hid hc
  clear hm hc hxl HB3
  have e1 : (m != m) = false := by simp
  have e2 : (mc != mc) = false := by simp
  have e3 : (er != er) = false := by simp
  obtain ⟨q0, q1, q2, q3, q4, hbk⟩ := HK.out w4 (Bl.refl _)
  go_wp2_with fail
  go_region_held3 (fun w' => w'.cell? ⟨w.heap.size, 0, none⟩ = some (.int .u8 k) ∧ w'.cell? ⟨w.heap.size, 1, none⟩ = some (.int .u64 id) ∧ w'.cell? ⟨w.heap.size, 2, none⟩ = some (.int .i64 n) ∧ w'.cell? ⟨w.heap.size, 3, none⟩ = some (.slice A db.length c) ∧ w'.cell? ⟨w.heap.size + 1, 3, none⟩ = some (.slice (some ⟨g, 0, none⟩) db.length (db.length + 3)) ∧ Bl w4 w')
    (exact HK.out _ (by (focus ((repeat (first | with_reducible assumption | exact Bl.refl _ | refine Bl.drew ?_ | refine Bl.drewN ?_ _ | refine Bl.alloc ?_ _ | (refine Bl.trans ?_ (by with_reducible assumption)))); done))))
    (first
      | (go_at_call 15; refine (RetBl.at (deed_May k id n A db.length c _ HLA.out) HM.out).mono ?_; rintro e w5 ⟨rfl, hbl5⟩)
      | (go_at_call 16; refine (RetBl.at (ref_deedMay k id n A db.length c _ HLA.out) HM.out).mono ?_; rintro e w6 ⟨rfl, hbl6⟩)
      | (go_at_call 17; refine (RetBl.at (deed_Changes k id n A db.length c _ HLA.out) HC.out).mono ?_; rintro e w7 ⟨rfl, hbl7⟩)
      | (go_at_call 18; refine (RetBl.at (ref_deedChanges k id n A db.length c _ HLA.out) HC.out).mono ?_; rintro e w8 ⟨rfl, hbl8⟩)
      | (go_at_call 19; refine (RetBl.ofDr (same_self A3 A4 c3 c4 xs.length xs.length xs _ rfl rfl HX.out (Rd.bl HP3'.out (by (focus ((repeat (first | with_reducible assumption | exact Bl.refl _ | refine Bl.drew ?_ | refine Bl.drewN ?_ _ | refine Bl.alloc ?_ _ | (refine Bl.trans ?_ (by with_reducible assumption)))); done)))) (Rd.bl HP4.out (by (focus ((repeat (first | with_reducible assumption | exact Bl.refl _ | refine Bl.drew ?_ | refine Bl.drewN ?_ _ | refine Bl.alloc ?_ _ | (refine Bl.trans ?_ (by with_reducible assumption)))); done)))))).mono ?_; rintro e w9 ⟨rfl, hbl9⟩)
      | (go_at_call 20; refine (RetBl.ofDr (left_calls g _ A c db _ hdb (IsWide.bl HWI4.out (by (focus ((repeat (first | with_reducible assumption | exact Bl.refl _ | refine Bl.drew ?_ | refine Bl.drewN ?_ _ | refine Bl.alloc ?_ _ | (refine Bl.trans ?_ (by with_reducible assumption)))); done)))) (Rd.bl (HA.out.bl HBW.out) (by (focus ((repeat (first | with_reducible assumption | exact Bl.refl _ | refine Bl.drew ?_ | refine Bl.drewN ?_ _ | refine Bl.alloc ?_ _ | (refine Bl.trans ?_ (by with_reducible assumption)))); done)))))).mono ?_; rintro e w10 ⟨rfl, hbl10⟩))
  have HBX := Lib.hid (show Bl w w10 from HBW.out.trans (by (focus ((repeat (first | with_reducible assumption | exact Bl.refl _ | refine Bl.drew ?_ | refine Bl.drewN ?_ _ | refine Bl.alloc ?_ _ | (refine Bl.trans ?_ (by with_reducible assumption)))); done))))
  clear q0 q1 q2 q3 q4 hbk hbl5 hbl6 hbl7 hbl8 hbl9 hbl10 HM HC HWI4 HBW HLA HX HP3' HP4 HP3 HK HB4 HBL HDD HO HWI
  go_wp2_with fail
  refine (wide_calls B d b _ hb (HB.out.bl HBX.out)).mono ?_
  rintro e w11 ⟨g2, rfl, hw11, hbl11⟩
  have HWJ := Lib.hid hw11
  have HBY := Lib.hid (HBX.out.trans hbl11)
  clear hw11 hbl11
  go_wp2_with fail
  refine (deed_Get _ _ b _ hb (by omega) HWJ.out.rd).mono ?_
  generalize hpr : deedGet b = r
  rintro e w12 ⟨B12, rfl, hown12, hbl12⟩
  have HO12 := Lib.hid hown12
  have HB12 := Lib.hid hbl12
  have HPR := Lib.hid hpr
  have HB13 := Lib.hid (hbl12.alloc (.cells #[.int .u8 r.k, .int .u64 r.id, .int .i64 r.n, .slice B12 r.row.length r.row.length] 26))
  have HX13 := Lib.hid ((Ob.new w12 #[.int .u8 r.k, .int .u64 r.id, .int .i64 r.n, .slice B12 r.row.length r.row.length] 26))
  clear hown12 hbl12 hpr
  go_wp2_with fail
  refine (ref_deedGet B d b _ hb hbd (HB.out.bl (HBY.out.trans HB13.out))).mono ?_
  rw [HPR.out]
  rintro e w14 ⟨B14, c14, rfl, hown14, hbl14⟩
  have HRL := Lib.hid (show r.row.length ≤ 281474976710656 by rw [← HPR.out]; exact deedGet_len b hb)
  have HO14 := Lib.hid hown14
  have HB15 := Lib.hid (hbl14.alloc (.cells #[.int .u8 r.k, .int .u64 r.id, .int .i64 r.n, .slice B14 r.row.length c14] 26))
  have HX15 := Lib.hid ((Ob.new w14 #[.int .u8 r.k, .int .u64 r.id, .int .i64 r.n, .slice B14 r.row.length c14] 26))
  obtain ⟨a0, a1, a2, a3, _⟩ := Ob.all4 ((HX13.out.bl hbl14).bl ((Bl.refl w14).alloc (.cells #[.int .u8 r.k, .int .u64 r.id, .int .i64 r.n, .slice B14 r.row.length c14] 26)))
  obtain ⟨b0, b1, b2, b3, _⟩ := Ob.all4 HX15.out
  obtain ⟨u0, u1, u2, u3, _⟩ := Ob.all4 (HX13.out.bl hbl14)
  have e5 : (r.e == r.e) = true := by simp
  clear hown14 hbl14
  go_wp2_with fail
  refine (same_deed_self r.k r.id r.n B12 B14 _ _ _ _ r.row _ rfl rfl HRL.out (HO12.out.rd.1.bl (((Bl.refl _).alloc _).trans HB15.out)) (HO14.out.rd.1.bl ((Bl.refl _).alloc _))).mono ?_
  rintro e w16 ⟨rfl, hbl16⟩
  obtain ⟨x0, x1, x2, x3, _⟩ := Ob.all4 ((HX13.out.bl HB15.out).bl hbl16)
  have HB16 := Lib.hid (((Bl.refl w12).alloc _).trans (HB15.out.trans hbl16))
  clear hbl16 a0 a1 a2 a3 b0 b1 b2 b3 u0 u1 u2 u3
  go_wp2_with fail
  refine (spoil_calls B12 _ r.row 6 _ HRL.out (HO12.out.bl HB16.out)).mono ?_
  rintro e w17 ⟨rfl, hgr17⟩
  have HG := Lib.hid (HB12.out.trans HB16.out |>.grown hgr17 (fun q hq => HO12.out.ge q hq))
  have HWK := Lib.hid (HWJ.out.bl HG.out)
  clear hgr17
  go_wp2_with fail
  refine (left_calls g2 _ B d b _ hb HWK.out (HB.out.bl (HBY.out.trans HG.out))).mono ?_
  rintro e w18 ⟨rfl, hdr18⟩
  have HB18 := Lib.hid ((HBY.out.trans HG.out).trans (hdr18.below _))
  clear hdr18
  go_wp2_with fail
  refine (deed_lives _).mono ?_
  rintro e w19 ⟨rfl, hbl19⟩
  go_wp2_with fail
  go_ret
  exact RetBl.mk rfl (HB18.out.trans hbl19)
end Go.Proofs.Ytedmamchfgkkfaa
