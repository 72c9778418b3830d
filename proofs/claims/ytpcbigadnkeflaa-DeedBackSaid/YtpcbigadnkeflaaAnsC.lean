/- Layer 22 (deed) and its reference walked: PutAnswer. -/
import Derived.Test.YtpcbigadnkeflaaAnsB
import Derived.Test.YtpcbigadnkeflaaDeedH
namespace Go.Proofs.Ytpcbigadnkeflaa
open Go.RowKit
set_option maxRecDepth 100000
set_option maxHeartbeats 2000000

def ansBytes (e id n : Int) (b : List UInt8) (is : List Nat) (more : Bool) : List UInt8 := lebPut e.toNat ++ lebPut id.toNat ++ lebPut n.toNat ++ lebRowPut b ++ lebListPut is ++ [if more then 1 else 0]
def ansPut (e id n : Int) (b : List UInt8) (is : List Nat) (more : Bool) : List UInt8 × Int :=
  if ansMay e n b.length is.length = false then ([], 2) else (ansBytes e id n b is more, 0)
theorem lebListPut_len (l : List Nat) (h : l.length < 2 ^ 64) (h64 : ∀ n ∈ l, n < 2 ^ 64) : (lebListPut l).length ≤ 10 * l.length + 10 := by
  unfold lebListPut
  have h1 := (lebPut_ten h).1
  have h2 := lebAll_ten h64
  rw [List.length_append]; omega

theorem ans_Put (e id n : Int) (A I : Option Addr) (b : List UInt8) (is : List Nat) (c d : Nat) (more : Bool) (w : World) (hm : b.length ≤ 281474976710656) (hk : is.length ≤ 281474976710656) (h0 : 0 ≤ id) (h1 : Hid (id < 18446744073709551616)) (hn1 : Hid (n < 9223372036854775808)) (h64 : Hid (∀ n ∈ is, n < 2 ^ 64)) (hr : Rd w A (b.map bv)) (hi : Rd w I (is.map wv)) :
    Calls Try.prog 40 #[ansV e id n A b.length c I is.length d more] w (RetPut (ansPut e id n b is more) w) := by
  have HR := Lib.hid hr
  have HI := Lib.hid hi
  clear hr hi
  cases hb : ansMay e n b.length is.length
  · have HB := Lib.hid hb
    have HP := Lib.hid (show ansPut e id n b is more = ([], 2) by unfold ansPut; rw [if_pos hb])
    clear hb
    go_enter Try.func40, Try.ntmps40
    go_wp2_with (first | (go_at_call 77; go_must (refine (RetBl.at (ans_may e id n A I b.length c is.length d more _ hm hk) HB.out).mono ?_); rintro e w1 ⟨rfl, hbl⟩))
    go_ret2
    exact RetPut.mk HP.out (App.nil _ _ _ _) (((Bl.refl w).alloc _).trans hbl)
  · have HB := Lib.hid hb
    have hq : 0 ≤ e ∧ e ≤ 13 ∧ 0 ≤ n ∧ b.length ≤ 65536 ∧ is.length ≤ 65536 := by unfold ansMay at hb; simp only [decide_eq_true_eq] at hb; omega
    have HP := Lib.hid (show ansPut e id n b is more = (ansBytes e id n b is more, 0) by unfold ansPut; rw [hb, if_neg (by simp)])
    have HQ := Lib.hid hq
    have HWE := Lib.hid (show IntKind.u64.wrap e = e from IntWalk.u64_in _ (by omega))
    have HWN := Lib.hid (show IntKind.u64.wrap n = n from IntWalk.u64_in _ (by have := hn1.out; omega))
    have hLE := (lebPut_ten (n := e.toNat) (by omega)).1
    have hLI := (lebPut_ten (n := id.toNat) (by have := h1.out; omega)).1
    have hLN := (lebPut_ten (n := n.toNat) (by have := hn1.out; omega)).1
    have hLB := lebRowPut_len b (by omega)
    have hLL := lebListPut_len is (by omega) h64.out
    have HLEN := Lib.hid (show (lebPut e.toNat ++ lebPut id.toNat ++ lebPut n.toNat ++ lebRowPut b ++ lebListPut is).length ≤ 1000000 by simp only [List.length_append]; omega)
    have HC : Hid (∀ w' : World, Bl (w.alloc (.cells #[.int .i64 e, .int .u64 id, .int .i64 n, .slice A b.length c, .slice I is.length d, .bool more] 56)) w' → w'.cell? ⟨w.heap.size, 0, none⟩ = some (.int .i64 e) ∧ w'.cell? ⟨w.heap.size, 1, none⟩ = some (.int .u64 id) ∧ w'.cell? ⟨w.heap.size, 2, none⟩ = some (.int .i64 n) ∧ w'.cell? ⟨w.heap.size, 3, none⟩ = some (.slice A b.length c) ∧ w'.cell? ⟨w.heap.size, 4, none⟩ = some (.slice I is.length d) ∧ w'.cell? ⟨w.heap.size, 5, none⟩ = some (.bool more)) := fun w' hw => by
      obtain ⟨a0, a1, a2, a3, a4, a5, _⟩ := Ob.all6 ((Ob.new w _ 56).bl hw)
      exact ⟨a0, a1, a2, a3, a4, a5⟩
    clear hb hLE hLI hLN hLB hLL hq
    go_enter Try.func40, Try.ntmps40
    go_wp2_with (first | (go_at_call 77; go_must (refine (RetBl.at (ans_may e id n A I b.length c is.length d more _ hm hk) HB.out).mono ?_); rintro e w1 ⟨rfl, hbl⟩))
    have HL := Lib.hid hbl
    have HW1 := Lib.hid (((Bl.refl w).alloc _).trans hbl)
    have HK : Hid (∀ w' : World, Bl w1 w' → w'.cell? ⟨w.heap.size, 0, none⟩ = some (.int .i64 e) ∧ w'.cell? ⟨w.heap.size, 1, none⟩ = some (.int .u64 id) ∧ w'.cell? ⟨w.heap.size, 2, none⟩ = some (.int .i64 n) ∧ w'.cell? ⟨w.heap.size, 3, none⟩ = some (.slice A b.length c) ∧ w'.cell? ⟨w.heap.size, 4, none⟩ = some (.slice I is.length d) ∧ w'.cell? ⟨w.heap.size, 5, none⟩ = some (.bool more) ∧ Bl w1 w') := fun w' h => by
      obtain ⟨a0, a1, a2, a3, a4, a5⟩ := HC.out _ (hbl.trans h)
      exact ⟨a0, a1, a2, a3, a4, a5, h⟩
    have HQ0 := Lib.hid HQ.out.1
    have HQ2 := Lib.hid HQ.out.2.2.1
    have HE64 := Lib.hid (show e < 18446744073709551616 by have := HQ.out; omega)
    have HN64 := Lib.hid (show n < 18446744073709551616 by have := hn1.out; omega)
    have HBL := Lib.hid (show b.length + 10 ≤ 140737488355328 by have := HQ.out; omega)
    have HIL := Lib.hid (show 10 * is.length + 10 ≤ 140737488355328 by have := HQ.out; omega)
    obtain ⟨p0, p1, p2, p3, p4, p5, hbk⟩ := HK.out w1 (Bl.refl _)
    have hwe := HWE.out
    have hwn := HWN.out
    clear hbl
    go_region_held3 (fun w' => w'.cell? ⟨w.heap.size, 0, none⟩ = some (.int .i64 e) ∧ w'.cell? ⟨w.heap.size, 1, none⟩ = some (.int .u64 id) ∧ w'.cell? ⟨w.heap.size, 2, none⟩ = some (.int .i64 n) ∧ w'.cell? ⟨w.heap.size, 3, none⟩ = some (.slice A b.length c) ∧ w'.cell? ⟨w.heap.size, 4, none⟩ = some (.slice I is.length d) ∧ w'.cell? ⟨w.heap.size, 5, none⟩ = some (.bool more) ∧ Bl w1 w')
      (exact HK.out _ (by (focus ((repeat (first | with_reducible assumption | exact Bl.refl _ | refine Bl.drew ?_ | refine Bl.drewN ?_ _ | refine Bl.alloc ?_ _ | (refine Bl.trans ?_ (by with_reducible assumption)))); done))))
      (first
        | (go_at_call 58; (with_reducible refine (leb_Put e HQ0.out HE64.out _).mono ?_); rintro e w2 ⟨v2, rfl, hown2, hbl2⟩; obtain ⟨A2, c2, rfl, hcc2⟩ := hown2.slice)
        | (go_at_call 58; (with_reducible refine (leb_Put id h0 h1.out _).mono ?_); rintro e w3 ⟨v3, rfl, hown3, hbl3⟩; obtain ⟨A3, c3, rfl, hcc3⟩ := hown3.slice)
        | (go_at_call 58; (with_reducible refine (leb_Put n HQ2.out HN64.out _).mono ?_); rintro e w4 ⟨v4, rfl, hown4, hbl4⟩; obtain ⟨A4, c4, rfl, hcc4⟩ := hown4.slice)
        | (go_at_call 59; refine (leb_PutRow A c b _ HBL.out (Rd.bl (HR.out.bl HW1.out) (by (focus ((repeat (first | with_reducible assumption | exact Bl.refl _ | refine Bl.drew ?_ | refine Bl.drewN ?_ _ | refine Bl.alloc ?_ _ | (refine Bl.trans ?_ (by with_reducible assumption)))); done))))).mono ?_; rintro e w5 ⟨v5, rfl, hown5, hbl5⟩; obtain ⟨A5, c5, rfl, hcc5⟩ := hown5.slice)
        | (go_at_call 79; refine (leb_PutList I d is _ HIL.out h64 (Rd.bl (HI.out.bl HW1.out) (by (focus ((repeat (first | with_reducible assumption | exact Bl.refl _ | refine Bl.drew ?_ | refine Bl.drewN ?_ _ | refine Bl.alloc ?_ _ | (refine Bl.trans ?_ (by with_reducible assumption)))); done))))).mono ?_; rintro e w6 ⟨v6, rfl, hown6, hbl6⟩; obtain ⟨A6, c6, rfl, hcc6⟩ := hown6.slice)
        | (go_at_call 78; refine (concat_rows _ _ [(A2, lebPut e.toNat, c2), (A3, lebPut id.toNat, c3), (A4, lebPut n.toNat, c4), (A5, lebRowPut b, c5), (A6, lebListPut is, c6)] _ (by simp) (by have := HLEN.out; simp [bsum] at this ⊢; omega) (row_lit brv _ _ _ _ rfl) (by intro r hr; simp only [List.mem_cons, List.not_mem_nil, or_false] at hr; rcases hr with rfl | rfl | rfl | rfl | rfl; exact Rd.bl hown2.rd.1 (by (focus ((repeat (first | with_reducible assumption | exact Bl.refl _ | refine Bl.drew ?_ | refine Bl.drewN ?_ _ | refine Bl.alloc ?_ _ | (refine Bl.trans ?_ (by with_reducible assumption)))); done))); exact Rd.bl hown3.rd.1 (by (focus ((repeat (first | with_reducible assumption | exact Bl.refl _ | refine Bl.drew ?_ | refine Bl.drewN ?_ _ | refine Bl.alloc ?_ _ | (refine Bl.trans ?_ (by with_reducible assumption)))); done))); exact Rd.bl hown4.rd.1 (by (focus ((repeat (first | with_reducible assumption | exact Bl.refl _ | refine Bl.drew ?_ | refine Bl.drewN ?_ _ | refine Bl.alloc ?_ _ | (refine Bl.trans ?_ (by with_reducible assumption)))); done))); exact Rd.bl hown5.rd.1 (by (focus ((repeat (first | with_reducible assumption | exact Bl.refl _ | refine Bl.drew ?_ | refine Bl.drewN ?_ _ | refine Bl.alloc ?_ _ | (refine Bl.trans ?_ (by with_reducible assumption)))); done))); exact Rd.bl hown6.rd.1 (by (focus ((repeat (first | with_reducible assumption | exact Bl.refl _ | refine Bl.drew ?_ | refine Bl.drewN ?_ _ | refine Bl.alloc ?_ _ | (refine Bl.trans ?_ (by with_reducible assumption)))); done))))).mono ?_; rintro e w7 ⟨v7, rfl, hown7, hbl7⟩))
    obtain ⟨q0, q1, q2, q3, q4, q5, _⟩ := HK.out w7 (by (focus ((repeat (first | with_reducible assumption | exact Bl.refl _ | refine Bl.drew ?_ | refine Bl.drewN ?_ _ | refine Bl.alloc ?_ _ | (refine Bl.trans ?_ (by with_reducible assumption)))); done)))
    have hB7 : Bl w w7 := HW1.out.trans (by (focus ((repeat (first | with_reducible assumption | exact Bl.refl _ | refine Bl.drew ?_ | refine Bl.drewN ?_ _ | refine Bl.alloc ?_ _ | (refine Bl.trans ?_ (by with_reducible assumption)))); done)))
    have hB6 : Bl w w6 := HW1.out.trans (by (focus ((repeat (first | with_reducible assumption | exact Bl.refl _ | refine Bl.drew ?_ | refine Bl.drewN ?_ _ | refine Bl.alloc ?_ _ | (refine Bl.trans ?_ (by with_reducible assumption)))); done)))
    have hS6 := hB6.size
    have hown8 : App w7 w.heap.size 5 1 v7 (lebPut e.toNat ++ lebPut id.toNat ++ lebPut n.toNat ++ lebRowPut b ++ lebListPut is).length ((lebPut e.toNat ++ lebPut id.toNat ++ lebPut n.toNat ++ lebRowPut b ++ lebListPut is).map bv) := by
      have h := hown7.mono (show w.heap.size ≤ _ by simp; omega)
      simpa [bsum] using h
    have HOW := Lib.hid hown8
    have HB7 := Lib.hid hB7
    have hsz := hB7.size
    have hln := HLEN.out
    clear p0 p1 p2 p3 p4 p5 hown2 hown3 hown4 hown5 hown6 hown7 hbl2 hbl3 hbl4 hbl5 hbl6 hbl7 hB7 hB6 hS6 hown8 HLEN
    generalize hXs : lebPut e.toNat ++ lebPut id.toNat ++ lebPut n.toNat ++ lebRowPut b ++ lebListPut is = X at HOW hln
    have HX := Lib.hid hXs
    clear hXs
    cases more
    all_goals
      go_wp2_with (at_builtin; go_must (refine append_one rfl _ _ 24 5 (.int .u8 0) 1 1 rfl Try.underlying24 Try.infoU8 rfl (by decide) w.heap.size HOW.out (by rfl) (by rfl) (by rfl) (by intro u hu; simp at hu; subst hu; rfl) (by omega) (by omega) hsz ?_); intro v9 w9 hown9 hgr9 hat9)
      go_ret2
      refine RetPut.mk HP.out ?_ (HB7.out.grown hgr9 (fun q hq => HOW.out.ge q hq))
      rw [ansBytes, HX.out]
      simpa [bv] using hown9

theorem ref_ansPut (e id n : Int) (A I : Option Addr) (b : List UInt8) (is : List Nat) (c d : Nat) (more : Bool) (w : World) (hm : b.length ≤ 281474976710656) (hk : is.length ≤ 281474976710656) (h0 : 0 ≤ id) (h1 : Hid (id < 18446744073709551616)) (hn1 : Hid (n < 9223372036854775808)) (h64 : Hid (∀ n ∈ is, n < 2 ^ 64)) (hr : Rd w A (b.map bv)) (hi : Rd w I (is.map wv)) :
    Calls Try.prog 41 #[ansV e id n A b.length c I is.length d more] w (RetPut (ansPut e id n b is more) w) := by
  have HR := Lib.hid hr
  have HI := Lib.hid hi
  clear hr hi
  cases hb : ansMay e n b.length is.length
  · have HB := Lib.hid hb
    have HP := Lib.hid (show ansPut e id n b is more = ([], 2) by unfold ansPut; rw [if_pos hb])
    clear hb
    go_enter Try.func41, Try.ntmps41
    go_wp2_with (first | (go_at_call 80; go_must (refine (RetBl.at (ref_ansMay e id n A I b.length c is.length d more _ hm hk) HB.out).mono ?_); rintro e w1 ⟨rfl, hbl⟩))
    go_ret2
    exact RetPut.mk HP.out (App.nil _ _ _ _) (((Bl.refl w).alloc _).trans hbl)
  · have HB := Lib.hid hb
    have hq : 0 ≤ e ∧ e ≤ 13 ∧ 0 ≤ n ∧ b.length ≤ 65536 ∧ is.length ≤ 65536 := by unfold ansMay at hb; simp only [decide_eq_true_eq] at hb; omega
    have HP := Lib.hid (show ansPut e id n b is more = (ansBytes e id n b is more, 0) by unfold ansPut; rw [hb, if_neg (by simp)])
    have HQ := Lib.hid hq
    have hwe := (show IntKind.u64.wrap e = e from IntWalk.u64_in _ (by omega))
    have hwn := (show IntKind.u64.wrap n = n from IntWalk.u64_in _ (by have := hn1.out; omega))
    have hLE := (lebPut_ten (n := e.toNat) (by omega)).1
    have hLI := (lebPut_ten (n := id.toNat) (by have := h1.out; omega)).1
    have hLN := (lebPut_ten (n := n.toNat) (by have := hn1.out; omega)).1
    have hLB := lebRowPut_len b (by omega)
    have hLL := lebListPut_len is (by omega) h64.out
    have HC : Hid (∀ w' : World, Bl (w.alloc (.cells #[.int .i64 e, .int .u64 id, .int .i64 n, .slice A b.length c, .slice I is.length d, .bool more] 56)) w' → w'.cell? ⟨w.heap.size, 0, none⟩ = some (.int .i64 e) ∧ w'.cell? ⟨w.heap.size, 1, none⟩ = some (.int .u64 id) ∧ w'.cell? ⟨w.heap.size, 2, none⟩ = some (.int .i64 n) ∧ w'.cell? ⟨w.heap.size, 3, none⟩ = some (.slice A b.length c) ∧ w'.cell? ⟨w.heap.size, 4, none⟩ = some (.slice I is.length d) ∧ w'.cell? ⟨w.heap.size, 5, none⟩ = some (.bool more)) := fun w' hw => by
      obtain ⟨a0, a1, a2, a3, a4, a5, _⟩ := Ob.all6 ((Ob.new w _ 56).bl hw)
      exact ⟨a0, a1, a2, a3, a4, a5⟩
    have HQ0 := Lib.hid HQ.out.1
    have HQ2 := Lib.hid HQ.out.2.2.1
    have HE64 := Lib.hid (show e < 18446744073709551616 by have := HQ.out; omega)
    have HN64 := Lib.hid (show n < 18446744073709551616 by have := hn1.out; omega)
    have HBL := Lib.hid (show b.length + 10 ≤ 140737488355328 by have := HQ.out; omega)
    have HIL := Lib.hid (show 10 * is.length + 10 ≤ 140737488355328 by have := HQ.out; omega)
    clear hb
    cases more
    all_goals
      go_enter Try.func41, Try.ntmps41
      go_wp2_with (first
        | (go_at_call 80; go_must (refine (RetBl.at (ref_ansMay e id n A I b.length c is.length d _ _ hm hk) HB.out).mono ?_); rintro e w1 ⟨rfl, hbl⟩; have HL := Lib.hid hbl; have HW1 := Lib.hid (((Bl.refl w).alloc _).trans hbl); obtain ⟨p0, p1, p2, p3, p4, p5⟩ := HC.out _ hbl; clear hbl)
        | (go_at_call 60; (with_reducible refine (ref_Put e HQ0.out HE64.out w1).mono ?_); rintro e w2 ⟨v2, rfl, hown2, hbl2⟩; obtain ⟨A2, c2, rfl, hcc2⟩ := hown2.slice; obtain ⟨a0, a1, a2, a3, a4, a5⟩ := HC.out _ (HL.out.trans hbl2))
        | (go_at_call 60; (with_reducible refine (ref_Put id h0 h1.out w2).mono ?_); rintro e w3 ⟨v3, rfl, hown3, hbl3⟩; obtain ⟨A3, c3, rfl, hcc3⟩ := hown3.slice)
        | (at_builtin; refine append_row rfl _ _ 24 5 (.int .u8 0) 1 1 rfl Try.underlying24 Try.infoU8 rfl (by decide) w1.heap.size (hown2.bl hbl3) (by rfl) (by rfl) hown3.rd.1 (by simp) (bv_one _) (by (try simp only [List.length_append]); omega) (by (try simp only [List.length_append]); omega) (by have := hbl2.size; have := hbl3.size; omega) ?_; intro v4 w4 hown4 hgr4 hat4; have hb4 : Bl w1 w4 := Bl.grown (Bl.trans hbl2 hbl3) hgr4 (fun q hq => hown2.ge q hq); clear hgr4 hat4 hown3; obtain ⟨e0, e1, e2, e3, e4, e5⟩ := HC.out _ (HL.out.trans hb4))
        | (go_at_call 60; (with_reducible refine (ref_Put n HQ2.out HN64.out w4).mono ?_); rintro e w5 ⟨v5, rfl, hown5, hbl5⟩; obtain ⟨A5, c5, rfl, hcc5⟩ := hown5.slice)
        | (at_builtin; refine append_row rfl _ _ 24 5 (.int .u8 0) 1 1 rfl Try.underlying24 Try.infoU8 rfl (by decide) w1.heap.size (hown4.bl hbl5) (by rfl) (by rfl) hown5.rd.1 (by simp) (bv_one _) (by (try simp only [List.length_append]); omega) (by (try simp only [List.length_append]); omega) (by have := hb4.size; have := hbl5.size; omega) ?_; intro v6 w6 hown6 hgr6 hat6; have hb6 : Bl w1 w6 := Bl.grown (Bl.trans hb4 hbl5) hgr6 (fun q hq => hown4.ge q hq); clear hgr6 hat6 hown5; obtain ⟨g0, g1, g2, g3, g4, g5⟩ := HC.out _ (HL.out.trans hb6))
        | (go_at_call 61; go_must (refine (ref_PutRow A c b w6 HBL.out (HR.out.bl (HW1.out.trans hb6))).mono ?_); rintro e w7 ⟨v7, rfl, hown7, hbl7⟩; obtain ⟨A7, c7, rfl, hcc7⟩ := hown7.slice)
        | (at_builtin; refine append_row rfl _ _ 24 5 (.int .u8 0) 1 1 rfl Try.underlying24 Try.infoU8 rfl (by decide) w1.heap.size (hown6.bl hbl7) (by rfl) (by rfl) hown7.rd.1 (by simp) (bv_one _) (by (try simp only [List.length_append]); omega) (by (try simp only [List.length_append]); omega) (by have := hb6.size; have := hbl7.size; omega) ?_; intro v8 w8 hown8 hgr8 hat8; have hb8 : Bl w1 w8 := Bl.grown (Bl.trans hb6 hbl7) hgr8 (fun q hq => hown6.ge q hq); clear hgr8 hat8 hown7; obtain ⟨i0, i1, i2, i3, i4, i5⟩ := HC.out _ (HL.out.trans hb8))
        | (go_at_call 81; go_must (refine (ref_PutList I d is w8 HIL.out h64 (HI.out.bl (HW1.out.trans hb8))).mono ?_); rintro e w9 ⟨v9, rfl, hown9, hbl9⟩; obtain ⟨A9, c9, rfl, hcc9⟩ := hown9.slice)
        | (at_builtin; refine append_row rfl _ _ 24 5 (.int .u8 0) 1 1 rfl Try.underlying24 Try.infoU8 rfl (by decide) w1.heap.size (hown8.bl hbl9) (by rfl) (by rfl) hown9.rd.1 (by simp) (bv_one _) (by (try simp only [List.length_append]); omega) (by (try simp only [List.length_append]); omega) (by have := hb8.size; have := hbl9.size; omega) ?_; intro v10 w10 hown10 hgr10 hat10; have hb10 : Bl w1 w10 := Bl.grown (Bl.trans hb8 hbl9) hgr10 (fun q hq => hown8.ge q hq); clear hgr10 hat10 hown9; obtain ⟨k0, k1, k2, k3, k4, k5⟩ := HC.out _ (HL.out.trans hb10))
        | (at_builtin; go_must (refine append_one rfl _ _ 24 5 (.int .u8 0) 1 1 rfl Try.underlying24 Try.infoU8 rfl (by decide) w1.heap.size hown10 (by rfl) (by rfl) (by rfl) (by intro u hu; simp at hu; subst hu; rfl) (by (try simp only [List.length_append]); omega) (by (try simp only [List.length_append]); omega) hb10.size ?_); intro v12 w12 hown12 hgr12 hat12; have hb12 : Bl w1 w12 := hb10.grown hgr12 (fun q hq => hown10.ge q hq)))
      go_ret2
      refine RetPut.mk HP.out ?_ (HW1.out.trans hb12)
      have hfin := hown12.mono HW1.out.size
      simpa [ansBytes, bv, Nat.add_comm, Nat.add_left_comm, Nat.add_assoc] using hfin
end Go.Proofs.Ytpcbigadnkeflaa
