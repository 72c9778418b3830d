/- Layer 22 (deed) and its reference walked: Put. -/
import Derived.Test.YtedmamchfgkkfaaDeedA
import Derived.Test.YtedmamchfgkkfaaRefLebB
namespace Go.Proofs.Ytedmamchfgkkfaa
open Go.RowKit
set_option maxRecDepth 100000
set_option maxHeartbeats 2000000

def deedBytes (k id n : Int) (b : List UInt8) : List UInt8 := [k.toNat.toUInt8] ++ lebPut id.toNat ++ lebPut n.toNat ++ lebRowPut b
def deedPut (k id n : Int) (b : List UInt8) : List UInt8 × Int :=
  if deedMay k id n b.length = false then ([], 2) else if 65504 < b.length then ([], 3) else (deedBytes k id n b, 0)
def RetPut (r : List UInt8 × Int) (w : World) (e : Ending) (w' : World) : Prop :=
  ∃ v, e = .returned (.tuple #[v, .int .i64 r.2]) ∧ App w' w.heap.size 5 1 v r.1.length (r.1.map bv) ∧ Bl w w'
theorem RetPut.mk {r : List UInt8 × Int} {w w' : World} {v : Value} {xs : List UInt8} {e : Int} (h : r = (xs, e)) (ho : App w' w.heap.size 5 1 v xs.length (xs.map bv)) (hw : Bl w w') : RetPut r w (.returned (.tuple #[v, .int .i64 e])) w' := by subst h; exact ⟨v, rfl, ho, hw⟩
theorem Bl.size {w w' : World} (h : Bl w w') : w.heap.size ≤ w'.heap.size := Below.size h
theorem lebRowPut_len (b : List UInt8) (h : b.length < 2 ^ 64) : (lebRowPut b).length ≤ b.length + 10 := by
  unfold lebRowPut
  have := (lebPut_ten h).1
  rw [List.length_append]; omega

theorem deed_Put (k id n : Int) (A : Option Addr) (b : List UInt8) (c : Nat) (w : World) (hm : b.length ≤ 281474976710656) (h0 : 0 ≤ id) (h1 : Hid (id < 18446744073709551616)) (hr : Rd w A (b.map bv)) :
    Calls Try.prog 13 #[deedV k id n A b.length c] w (RetPut (deedPut k id n b) w) := by
  have HR := Lib.hid hr
  clear hr
  cases hb : deedMay k id n b.length
  · have HB := Lib.hid hb
    have HP := Lib.hid (show deedPut k id n b = ([], 2) by unfold deedPut; rw [if_pos hb])
    clear hb
    go_enter Try.func13, Try.ntmps13
    go_wp2_with (first | (go_at_call 15; go_must (refine (deed_May _ id n A b.length c _ hm).mono ?_); rintro e w1 ⟨rfl, hbl⟩; rw [HB.out]))
    go_ret2
    exact RetPut.mk HP.out (App.nil _ _ _ _) (((Bl.refl w).alloc _).trans hbl)
  · have HB := Lib.hid hb
    have hk : 1 ≤ k ∧ k ≤ 9 ∧ 0 ≤ n ∧ n ≤ 65536 := by unfold deedMay at hb; simp only [decide_eq_true_eq] at hb; omega
    have hpc : ∀ w' : World, Bl (w.alloc (.cells #[.int .u8 k, .int .u64 id, .int .i64 n, .slice A b.length c] 26)) w' → w'.cell? ⟨w.heap.size, 0, none⟩ = some (.int .u8 k) ∧ w'.cell? ⟨w.heap.size, 1, none⟩ = some (.int .u64 id) ∧ w'.cell? ⟨w.heap.size, 2, none⟩ = some (.int .i64 n) ∧ w'.cell? ⟨w.heap.size, 3, none⟩ = some (.slice A b.length c) := fun w' hw => by
      have hh := hw.heap (heap_alloc_new w _)
      exact ⟨cell_of_row _ _ 0 _ _ _ hh, cell_of_row _ _ 1 _ _ _ hh, cell_of_row _ _ 2 _ _ _ hh, cell_of_row _ _ 3 _ _ _ hh⟩
    have HC := Lib.hid hpc
    by_cases hlong : 65504 < b.length
    · have HP := Lib.hid (show deedPut k id n b = ([], 3) by unfold deedPut; rw [hb, if_neg (by simp), if_pos hlong])
      clear hb hpc
      go_enter Try.func13, Try.ntmps13
      go_wp2_with (first | (go_at_call 15; go_must (refine (deed_May _ id n A b.length c _ hm).mono ?_); rintro e w1 ⟨rfl, hbl⟩; rw [HB.out]; obtain ⟨p0, p1, p2, p3⟩ := HC.out _ hbl))
      go_ret2
      exact RetPut.mk HP.out (App.nil _ _ _ _) (((Bl.refl w).alloc _).trans hbl)
    · have HP := Lib.hid (show deedPut k id n b = (deedBytes k id n b, 0) by unfold deedPut; rw [hb, if_neg (by simp), if_neg hlong])
      clear hb hpc
      go_enter Try.func13, Try.ntmps13
      go_wp2_with (first | (go_at_call 15; go_must (refine (deed_May _ id n A b.length c _ hm).mono ?_); rintro e w1 ⟨rfl, hbl⟩; rw [HB.out]; obtain ⟨p0, p1, p2, p3⟩ := HC.out _ hbl))
      have hw1 := Lib.hid (((Bl.refl w).alloc _).trans hbl)
      have HL := Lib.hid hbl
      have HK : Hid (∀ w' : World, Bl w1 w' → w'.cell? ⟨w.heap.size, 0, none⟩ = some (.int .u8 k) ∧ w'.cell? ⟨w.heap.size, 1, none⟩ = some (.int .u64 id) ∧ Bl w1 w') := fun w' h => ⟨h.cellAt p0, h.cellAt p1, h⟩
      have HKB := Lib.hid (show k = ((k.toNat.toUInt8).toNat : Int) by rw [u8_toNat _ (by omega)]; omega)
      have h64 : id.toNat < 2 ^ 64 := by have := h1.out; omega
      have hten := Lib.hid (lebPut_ten h64).1
      clear hbl h64
      go_region_held3 (fun w' => w'.cell? ⟨w.heap.size, 0, none⟩ = some (.int .u8 k) ∧ w'.cell? ⟨w.heap.size, 1, none⟩ = some (.int .u64 id) ∧ Bl w1 w')
        (exact HK.out _ (by (focus ((repeat (first | with_reducible assumption | exact Bl.refl _ | refine Bl.drew ?_ | refine Bl.drewN ?_ _ | refine Bl.alloc ?_ _ | (refine Bl.trans ?_ (by with_reducible assumption)))); done))))
        (first
          | (go_at_call 58; refine (leb_Put id h0 h1.out _).mono ?_; rintro e w2 ⟨v2, rfl, hown2, hbl2⟩; obtain ⟨A2, c2, rfl, hcc2⟩ := hown2.slice)
          | (refine step_row rfl _ _ 24 5 (.int .u8 0) 1 1 (by rfl) Try.underlying24 Try.infoU8 rfl (by decide) w1.heap.size (n := 1) (cs := [k.toNat.toUInt8].map bv)
              (by first | (refine App.bl (app_byte _ _ _ HKB.out) ?_; (focus ((repeat (first | with_reducible assumption | exact Bl.refl _ | refine Bl.drew ?_ | refine Bl.drewN ?_ _ | refine Bl.alloc ?_ _ | (refine Bl.trans ?_ (by with_reducible assumption)))); done))) | (refine App.bl (App.mono (app_byte ?_ _ _ HKB.out) ?_) ?_; rotate_left 2; (focus ((repeat (first | with_reducible assumption | exact Bl.refl _ | refine Bl.drew ?_ | refine Bl.drewN ?_ _ | refine Bl.alloc ?_ _ | (refine Bl.trans ?_ (by with_reducible assumption)))); done)); all_goals (refine Bl.size ?_; (focus ((repeat (first | with_reducible assumption | exact Bl.refl _ | refine Bl.drew ?_ | refine Bl.drewN ?_ _ | refine Bl.alloc ?_ _ | (refine Bl.trans ?_ (by with_reducible assumption)))); done))))) (by rfl) (by rfl) (news := (lebPut id.toNat).map bv)
              (by first | exact hown2.rd.1 | (refine Rd.bl hown2.rd.1 ?_; (focus ((repeat (first | with_reducible assumption | exact Bl.refl _ | refine Bl.drew ?_ | refine Bl.drewN ?_ _ | refine Bl.alloc ?_ _ | (refine Bl.trans ?_ (by with_reducible assumption)))); done)))) (by simp) (bv_one _) (by have := hten.out; omega) (by have := hten.out; omega) (by refine Bl.size ?_; (focus ((repeat (first | with_reducible assumption | exact Bl.refl _ | refine Bl.drew ?_ | refine Bl.drewN ?_ _ | refine Bl.alloc ?_ _ | (refine Bl.trans ?_ (by with_reducible assumption)))); done))) ?_; intro v3 w3 hown3 hgr3 hat3; have hb3 : Bl w1 w3 := Bl.grown (by (focus ((repeat (first | with_reducible assumption | exact Bl.refl _ | refine Bl.drew ?_ | refine Bl.drewN ?_ _ | refine Bl.alloc ?_ _ | (refine Bl.trans ?_ (by with_reducible assumption)))); done))) hgr3 (fun q hq => by simp [Value.ownBlock] at hq; subst hq; first | exact Nat.le_refl _ | (refine Bl.size ?_; (focus ((repeat (first | with_reducible assumption | exact Bl.refl _ | refine Bl.drew ?_ | refine Bl.drewN ?_ _ | refine Bl.alloc ?_ _ | (refine Bl.trans ?_ (by with_reducible assumption)))); done)))); clear hgr3 hat3))
      all_goals
        clear p0 p1 p2 p3
        have hw3 := Lib.hid (hw1.out.trans hb3)
        have hHL := Lib.hid (HL.out.trans hb3)
        obtain ⟨p0, p1, p2, p3⟩ := HC.out _ hHL.out
        have hsz := hb3.size
        have hz0 := hw1.out.size
        have hn2 := lebPut_ten (n := n.toNat) (by omega)
        have hrow := lebRowPut_len b (by omega)
        have hten2 := hten.out
        have hwn : IntKind.u64.wrap n = n := IntWalk.u64_in _ (by omega)
        go_wp2_with (first
          | (go_at_call 58; go_must (refine (leb_Put n (by omega) (by omega) _).mono ?_); rintro e w4 ⟨v4, rfl, hown4, hbl4⟩; obtain ⟨A4, c4, rfl, hcc4⟩ := hown4.slice)
          | (at_builtin; refine append_row rfl _ _ 24 5 (.int .u8 0) 1 1 rfl Try.underlying24 Try.infoU8 rfl (by decide) w1.heap.size (hown3.bl hbl4) (by rfl) (by rfl) hown4.rd.1 (by simp) (bv_one _) (by omega) (by omega) (Nat.le_trans hsz hbl4.size) ?_; intro v5 w5 hown5 hgr5 hat5; have hb5 : Bl w1 w5 := Bl.grown (Bl.trans hb3 hbl4) hgr5 (fun q hq => hown3.ge q hq); clear hgr5 hat5 hown4; obtain ⟨d0, d1, d2, d3⟩ := HC.out _ (HL.out.trans hb5))
          | (go_at_call 59; go_must (refine (leb_PutRow A c b _ (by omega) (HR.out.bl (hw1.out.trans hb5))).mono ?_); rintro e w6 ⟨v6, rfl, hown6, hbl6⟩; obtain ⟨A6, c6, rfl, hcc6⟩ := hown6.slice)
          | (at_builtin; refine append_row rfl _ _ 24 5 (.int .u8 0) 1 1 rfl Try.underlying24 Try.infoU8 rfl (by decide) w1.heap.size (hown5.bl hbl6) (by rfl) (by rfl) hown6.rd.1 (by simp) (bv_one _) (by omega) (by omega) (by have := hb5.size; have := hbl6.size; omega) ?_; intro v7 w7 hown7 hgr7 hat7; have hb7 : Bl w1 w7 := Bl.grown (Bl.trans hb5 hbl6) hgr7 (fun q hq => hown5.ge q hq)))
        go_ret2
        refine RetPut.mk HP.out ?_ (hw1.out.trans hb7)
        have hfin := hown7.mono hz0
        simpa [deedBytes, Nat.add_comm, Nat.add_left_comm, Nat.add_assoc] using hfin

theorem ref_deedPut (k id n : Int) (A : Option Addr) (b : List UInt8) (c : Nat) (w : World) (hm : b.length ≤ 281474976710656) (h0 : 0 ≤ id) (h1 : Hid (id < 18446744073709551616)) (hr : Rd w A (b.map bv)) :
    Calls Try.prog 14 #[deedV k id n A b.length c] w (RetPut (deedPut k id n b) w) := by
  have HR := Lib.hid hr
  clear hr
  cases hb : deedMay k id n b.length
  · have HB := Lib.hid hb
    have HP := Lib.hid (show deedPut k id n b = ([], 2) by unfold deedPut; rw [if_pos hb])
    clear hb
    go_enter Try.func14, Try.ntmps14
    go_wp2_with (first | (go_at_call 16; go_must (refine (ref_deedMay _ id n A b.length c _ hm).mono ?_); rintro e w1 ⟨rfl, hbl⟩; rw [HB.out]))
    go_ret2
    exact RetPut.mk HP.out (App.nil _ _ _ _) (((Bl.refl w).alloc _).trans hbl)
  · have HB := Lib.hid hb
    have hk : 1 ≤ k ∧ k ≤ 9 ∧ 0 ≤ n ∧ n ≤ 65536 := by unfold deedMay at hb; simp only [decide_eq_true_eq] at hb; omega
    have HC : Hid (∀ w' : World, Bl (w.alloc (.cells #[.int .u8 k, .int .u64 id, .int .i64 n, .slice A b.length c] 26)) w' → w'.cell? ⟨w.heap.size, 0, none⟩ = some (.int .u8 k) ∧ w'.cell? ⟨w.heap.size, 1, none⟩ = some (.int .u64 id) ∧ w'.cell? ⟨w.heap.size, 2, none⟩ = some (.int .i64 n) ∧ w'.cell? ⟨w.heap.size, 3, none⟩ = some (.slice A b.length c)) := fun w' hw => by
      have hh := hw.heap (heap_alloc_new w _)
      exact ⟨cell_of_row _ _ 0 _ _ _ hh, cell_of_row _ _ 1 _ _ _ hh, cell_of_row _ _ 2 _ _ _ hh, cell_of_row _ _ 3 _ _ _ hh⟩
    by_cases hlong : 65504 < b.length
    · have HP := Lib.hid (show deedPut k id n b = ([], 3) by unfold deedPut; rw [hb, if_neg (by simp), if_pos hlong])
      clear hb
      go_enter Try.func14, Try.ntmps14
      go_wp2_with (first | (go_at_call 16; go_must (refine (ref_deedMay _ id n A b.length c _ hm).mono ?_); rintro e w1 ⟨rfl, hbl⟩; rw [HB.out]; obtain ⟨p0, p1, p2, p3⟩ := HC.out _ hbl))
      go_ret2
      exact RetPut.mk HP.out (App.nil _ _ _ _) (((Bl.refl w).alloc _).trans hbl)
    · have HP := Lib.hid (show deedPut k id n b = (deedBytes k id n b, 0) by unfold deedPut; rw [hb, if_neg (by simp), if_neg hlong])
      have hn2 := lebPut_ten (n := n.toNat) (by omega)
      have hrow := lebRowPut_len b (by omega)
      have hten2 := (lebPut_ten (n := id.toNat) (by have := h1.out; omega)).1
      have hwn : IntKind.u64.wrap n = n := IntWalk.u64_in _ (by omega)
      have hkk : k = ((k.toNat.toUInt8).toNat : Int) := by rw [u8_toNat _ (by omega)]; omega
      have HKB := Lib.hid hkk
      clear hb hkk
      go_enter Try.func14, Try.ntmps14
      go_wp2_with (first
        | (go_at_call 16; go_must (refine (ref_deedMay _ id n A b.length c _ hm).mono ?_); rintro e w1 ⟨rfl, hbl⟩; rw [HB.out]; obtain ⟨p0, p1, p2, p3⟩ := HC.out _ hbl; have hw1 := Lib.hid (((Bl.refl w).alloc _).trans hbl); have HL := Lib.hid hbl; clear hbl)
        | (at_builtin; refine append_one rfl _ _ 24 5 (.int .u8 0) 1 1 rfl Try.underlying24 Try.infoU8 rfl (by decide) w1.heap.size (App.nil _ _ _ _) (by rfl) (by rfl) (by rfl) (by intro u hu; simp at hu; subst hu; rfl) (by omega) (by omega) (Nat.le_refl _) ?_; intro v3 w3 hown3 hgr3 hat3; have hb3 : Bl w1 w3 := Bl.grown (Bl.refl _) hgr3 (fun q hq => by simp [Value.ownBlock] at hq); clear hgr3 hat3; obtain ⟨d0, d1, d2, d3⟩ := HC.out _ (HL.out.trans hb3))
        | (go_at_call 60; have tok1 : True := trivial; (with_reducible refine (ref_Put id h0 h1.out w3).mono ?_); rintro e w4 ⟨v4, rfl, hown4, hbl4⟩; obtain ⟨A4, c4, rfl, hcc4⟩ := hown4.slice)
        | (at_builtin; refine append_row rfl _ _ 24 5 (.int .u8 0) 1 1 rfl Try.underlying24 Try.infoU8 rfl (by decide) w1.heap.size (hown3.bl hbl4) (by rfl) (by rfl) hown4.rd.1 (by simp) (bv_one _) (by omega) (by omega) (Nat.le_trans hb3.size hbl4.size) ?_; intro v5 w5 hown5 hgr5 hat5; have hb5 : Bl w1 w5 := Bl.grown (Bl.trans hb3 hbl4) hgr5 (fun q hq => hown3.ge q hq); clear hgr5 hat5 hown4; obtain ⟨e0, e1, e2, e3⟩ := HC.out _ (HL.out.trans hb5))
        | (go_at_call 60; (with_reducible refine (ref_Put n (by omega) (by omega) w5).mono ?_); rintro e w6 ⟨v6, rfl, hown6, hbl6⟩; obtain ⟨A6, c6, rfl, hcc6⟩ := hown6.slice)
        | (at_builtin; refine append_row rfl _ _ 24 5 (.int .u8 0) 1 1 rfl Try.underlying24 Try.infoU8 rfl (by decide) w1.heap.size (hown5.bl hbl6) (by rfl) (by rfl) hown6.rd.1 (by simp) (bv_one _) (by omega) (by omega) (by have := hb5.size; have := hbl6.size; omega) ?_; intro v7 w7 hown7 hgr7 hat7; have hb7 : Bl w1 w7 := Bl.grown (Bl.trans hb5 hbl6) hgr7 (fun q hq => hown5.ge q hq); clear hgr7 hat7 hown6; obtain ⟨f0, f1, f2, f3⟩ := HC.out _ (HL.out.trans hb7))
        | (go_at_call 61; go_must (refine (ref_PutRow A c b w7 (by omega) (HR.out.bl (hw1.out.trans hb7))).mono ?_); rintro e w8 ⟨v8, rfl, hown8, hbl8⟩; obtain ⟨A8, c8, rfl, hcc8⟩ := hown8.slice)
        | (at_builtin; refine append_row rfl _ _ 24 5 (.int .u8 0) 1 1 rfl Try.underlying24 Try.infoU8 rfl (by decide) w1.heap.size (hown7.bl hbl8) (by rfl) (by rfl) hown8.rd.1 (by simp) (bv_one _) (by omega) (by omega) (by have := hb7.size; have := hbl8.size; omega) ?_; intro v9 w9 hown9 hgr9 hat9; have hb9 : Bl w1 w9 := Bl.grown (Bl.trans hb7 hbl8) hgr9 (fun q hq => hown7.ge q hq)))
      go_ret2
      refine RetPut.mk HP.out ?_ (hw1.out.trans hb9)
      have hfin := hown9.mono hw1.out.size
      have hkv : (Value.int .u8 k) = bv k.toNat.toUInt8 := by unfold bv; rw [← HKB.out]
      rw [hkv] at hfin
      simpa [deedBytes, Nat.add_comm, Nat.add_left_comm, Nat.add_assoc] using hfin
end Go.Proofs.Ytedmamchfgkkfaa
