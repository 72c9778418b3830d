/- Texts of the claim NodeMaps, part 3: DeedB, NodeG, DeedC, NodeH, NodeI, Lib8, NodeQ. -/
import Derived.Test.YtedmamchfgkkfaaGNodeMaps2
/- Layer 22 (deed) and its reference walked: Put. -/
namespace Go.Proofs.Ytedmamchfgkkfaa
open Go.RowKit
set_option maxRecDepth 100000
set_option maxHeartbeats 2000000

def deedBytes (k id n : Int) (b : List UInt8) : List UInt8 := [k.toNat.toUInt8] ++ lebPut id.toNat ++ lebPut n.toNat ++ lebRowPut b
def deedPut (k id n : Int) (b : List UInt8) : List UInt8 × Int :=
  if deedMay k id n b.length = false then ([], 2) else if 65504 < b.length then ([], 3) else (deedBytes k id n b, 0)
def RetPut (r : List UInt8 × Int) (w : World) (e : Ending) (w' : World) : Prop :=
  ∃ v, e = .returned (.tuple #[v, .int .i64 r.2]) ∧ App w' w.heap.size 5 1 v r.1.length (r.1.map bv) ∧ Bl w w'
theorem RetPut.mk {r : List UInt8 × Int} {w w' : World} {v : Value} {xs : List UInt8} {e : Int} (h : r = (xs, e)) (ho : App w' w.heap.size 5 1 v xs.length (xs.map bv)) (hw : Bl w w') : RetPut r w (.returned (.tuple #[v, .int .i64 e])) w' := by subst h; exact ⟨v, rfl, ho, hw⟩
theorem Bl.size {w w' : World} (h : Bl w w') : w.heap.size ≤ w'.heap.size := Below.size h
theorem lebRowPut_len (b : List UInt8) (h : b.length < 2 ^ 64) : (lebRowPut b).length ≤ b.length + 10 := by
  unfold lebRowPut
  have := (lebPut_ten h).1
  rw [List.length_append]; omega

theorem deed_Put (k id n : Int) (A : Option Addr) (b : List UInt8) (c : Nat) (w : World) (hm : b.length ≤ 281474976710656) (h0 : 0 ≤ id) (h1 : Hid (id < 18446744073709551616)) (hr : Rd w A (b.map bv)) :
    Calls Try.prog 13 #[deedV k id n A b.length c] w (RetPut (deedPut k id n b) w) := by
  have HR := Lib.hid hr
  clear hr
  cases hb : deedMay k id n b.length
  · have HB := Lib.hid hb
    have HP := Lib.hid (show deedPut k id n b = ([], 2) by unfold deedPut; rw [if_pos hb])
    clear hb
    go_enter Try.func13, Try.ntmps13
    go_wp2_with (first | (go_at_call 15; go_must (refine (deed_May _ id n A b.length c _ hm).mono ?_); rintro e w1 ⟨rfl, hbl⟩; rw [HB.out]))
    go_ret2
    exact RetPut.mk HP.out (App.nil _ _ _ _) (((Bl.refl w).alloc _).trans hbl)
  · have HB := Lib.hid hb
    have hk : 1 ≤ k ∧ k ≤ 9 ∧ 0 ≤ n ∧ n ≤ 65536 := by unfold deedMay at hb; simp only [decide_eq_true_eq] at hb; omega
    have hpc : ∀ w' : World, Bl (w.alloc (.cells #[.int .u8 k, .int .u64 id, .int .i64 n, .slice A b.length c] 26)) w' → w'.cell? ⟨w.heap.size, 0, none⟩ = some (.int .u8 k) ∧ w'.cell? ⟨w.heap.size, 1, none⟩ = some (.int .u64 id) ∧ w'.cell? ⟨w.heap.size, 2, none⟩ = some (.int .i64 n) ∧ w'.cell? ⟨w.heap.size, 3, none⟩ = some (.slice A b.length c) := fun w' hw => by
      have hh := hw.heap (heap_alloc_new w _)
      exact ⟨cell_of_row _ _ 0 _ _ _ hh, cell_of_row _ _ 1 _ _ _ hh, cell_of_row _ _ 2 _ _ _ hh, cell_of_row _ _ 3 _ _ _ hh⟩
    have HC := Lib.hid hpc
    by_cases hlong : 65504 < b.length
    · have HP := Lib.hid (show deedPut k id n b = ([], 3) by unfold deedPut; rw [hb, if_neg (by simp), if_pos hlong])
      clear hb hpc
      go_enter Try.func13, Try.ntmps13
      go_wp2_with (first | (go_at_call 15; go_must (refine (deed_May _ id n A b.length c _ hm).mono ?_); rintro e w1 ⟨rfl, hbl⟩; rw [HB.out]; obtain ⟨p0, p1, p2, p3⟩ := HC.out _ hbl))
      go_ret2
      exact RetPut.mk HP.out (App.nil _ _ _ _) (((Bl.refl w).alloc _).trans hbl)
    · have HP := Lib.hid (show deedPut k id n b = (deedBytes k id n b, 0) by unfold deedPut; rw [hb, if_neg (by simp), if_neg hlong])
      clear hb hpc
      go_enter Try.func13, Try.ntmps13
      go_wp2_with (first | (go_at_call 15; go_must (refine (deed_May _ id n A b.length c _ hm).mono ?_); rintro e w1 ⟨rfl, hbl⟩; rw [HB.out]; obtain ⟨p0, p1, p2, p3⟩ := HC.out _ hbl))
      have hw1 := Lib.hid (((Bl.refl w).alloc _).trans hbl)
      have HL := Lib.hid hbl
      have HK : Hid (∀ w' : World, Bl w1 w' → w'.cell? ⟨w.heap.size, 0, none⟩ = some (.int .u8 k) ∧ w'.cell? ⟨w.heap.size, 1, none⟩ = some (.int .u64 id) ∧ Bl w1 w') := fun w' h => ⟨h.cellAt p0, h.cellAt p1, h⟩
      have HKB := Lib.hid (show k = ((k.toNat.toUInt8).toNat : Int) by rw [u8_toNat _ (by omega)]; omega)
      have h64 : id.toNat < 2 ^ 64 := by have := h1.out; omega
      have hten := Lib.hid (lebPut_ten h64).1
      clear hbl h64
      go_region_held3 (fun w' => w'.cell? ⟨w.heap.size, 0, none⟩ = some (.int .u8 k) ∧ w'.cell? ⟨w.heap.size, 1, none⟩ = some (.int .u64 id) ∧ Bl w1 w')
        (exact HK.out _ (by (focus ((repeat (first | with_reducible assumption | exact Bl.refl _ | refine Bl.drew ?_ | refine Bl.drewN ?_ _ | refine Bl.alloc ?_ _ | (refine Bl.trans ?_ (by with_reducible assumption)))); done))))
        (first
          | (go_at_call 58; refine (leb_Put id h0 h1.out _).mono ?_; rintro e w2 ⟨v2, rfl, hown2, hbl2⟩; obtain ⟨A2, c2, rfl, hcc2⟩ := hown2.slice)
          | (refine step_row rfl _ _ 24 5 (.int .u8 0) 1 1 (by rfl) Try.underlying24 Try.infoU8 rfl (by decide) w1.heap.size (n := 1) (cs := [k.toNat.toUInt8].map bv)
              (by first | (refine App.bl (app_byte _ _ _ HKB.out) ?_; (focus ((repeat (first | with_reducible assumption | exact Bl.refl _ | refine Bl.drew ?_ | refine Bl.drewN ?_ _ | refine Bl.alloc ?_ _ | (refine Bl.trans ?_ (by with_reducible assumption)))); done))) | (refine App.bl (App.mono (app_byte ?_ _ _ HKB.out) ?_) ?_; rotate_left 2; (focus ((repeat (first | with_reducible assumption | exact Bl.refl _ | refine Bl.drew ?_ | refine Bl.drewN ?_ _ | refine Bl.alloc ?_ _ | (refine Bl.trans ?_ (by with_reducible assumption)))); done)); all_goals (refine Bl.size ?_; (focus ((repeat (first | with_reducible assumption | exact Bl.refl _ | refine Bl.drew ?_ | refine Bl.drewN ?_ _ | refine Bl.alloc ?_ _ | (refine Bl.trans ?_ (by with_reducible assumption)))); done))))) (by rfl) (by rfl) (news := (lebPut id.toNat).map bv)
              (by first | exact hown2.rd.1 | (refine Rd.bl hown2.rd.1 ?_; (focus ((repeat (first | with_reducible assumption | exact Bl.refl _ | refine Bl.drew ?_ | refine Bl.drewN ?_ _ | refine Bl.alloc ?_ _ | (refine Bl.trans ?_ (by with_reducible assumption)))); done)))) (by simp) (bv_one _) (by have := hten.out; omega) (by have := hten.out; omega) (by refine Bl.size ?_; (focus ((repeat (first | with_reducible assumption | exact Bl.refl _ | refine Bl.drew ?_ | refine Bl.drewN ?_ _ | refine Bl.alloc ?_ _ | (refine Bl.trans ?_ (by with_reducible assumption)))); done))) ?_; intro v3 w3 hown3 hgr3 hat3; have hb3 : Bl w1 w3 := Bl.grown (by (focus ((repeat (first | with_reducible assumption | exact Bl.refl _ | refine Bl.drew ?_ | refine Bl.drewN ?_ _ | refine Bl.alloc ?_ _ | (refine Bl.trans ?_ (by with_reducible assumption)))); done))) hgr3 (fun q hq => by simp [Value.ownBlock] at hq; subst hq; first | exact Nat.le_refl _ | (refine Bl.size ?_; (focus ((repeat (first | with_reducible assumption | exact Bl.refl _ | refine Bl.drew ?_ | refine Bl.drewN ?_ _ | refine Bl.alloc ?_ _ | (refine Bl.trans ?_ (by with_reducible assumption)))); done)))); clear hgr3 hat3))
      all_goals
        clear p0 p1 p2 p3
        have hw3 := Lib.hid (hw1.out.trans hb3)
        have hHL := Lib.hid (HL.out.trans hb3)
        obtain ⟨p0, p1, p2, p3⟩ := HC.out _ hHL.out
        have hsz := hb3.size
        have hz0 := hw1.out.size
        have hn2 := lebPut_ten (n := n.toNat) (by omega)
        have hrow := lebRowPut_len b (by omega)
        have hten2 := hten.out
        have hwn : IntKind.u64.wrap n = n := IntWalk.u64_in _ (by omega)
        go_wp2_with (first
          | (go_at_call 58; go_must (refine (leb_Put n (by omega) (by omega) _).mono ?_); rintro e w4 ⟨v4, rfl, hown4, hbl4⟩; obtain ⟨A4, c4, rfl, hcc4⟩ := hown4.slice)
          | (at_builtin; refine append_row rfl _ _ 24 5 (.int .u8 0) 1 1 rfl Try.underlying24 Try.infoU8 rfl (by decide) w1.heap.size (hown3.bl hbl4) (by rfl) (by rfl) hown4.rd.1 (by simp) (bv_one _) (by omega) (by omega) (Nat.le_trans hsz hbl4.size) ?_; intro v5 w5 hown5 hgr5 hat5; have hb5 : Bl w1 w5 := Bl.grown (Bl.trans hb3 hbl4) hgr5 (fun q hq => hown3.ge q hq); clear hgr5 hat5 hown4; obtain ⟨d0, d1, d2, d3⟩ := HC.out _ (HL.out.trans hb5))
          | (go_at_call 59; go_must (refine (leb_PutRow A c b _ (by omega) (HR.out.bl (hw1.out.trans hb5))).mono ?_); rintro e w6 ⟨v6, rfl, hown6, hbl6⟩; obtain ⟨A6, c6, rfl, hcc6⟩ := hown6.slice)
          | (at_builtin; refine append_row rfl _ _ 24 5 (.int .u8 0) 1 1 rfl Try.underlying24 Try.infoU8 rfl (by decide) w1.heap.size (hown5.bl hbl6) (by rfl) (by rfl) hown6.rd.1 (by simp) (bv_one _) (by omega) (by omega) (by have := hb5.size; have := hbl6.size; omega) ?_; intro v7 w7 hown7 hgr7 hat7; have hb7 : Bl w1 w7 := Bl.grown (Bl.trans hb5 hbl6) hgr7 (fun q hq => hown5.ge q hq)))
        go_ret2
        refine RetPut.mk HP.out ?_ (hw1.out.trans hb7)
        have hfin := hown7.mono hz0
        simpa [deedBytes, Nat.add_comm, Nat.add_left_comm, Nat.add_assoc] using hfin

theorem ref_deedPut (k id n : Int) (A : Option Addr) (b : List UInt8) (c : Nat) (w : World) (hm : b.length ≤ 281474976710656) (h0 : 0 ≤ id) (h1 : Hid (id < 18446744073709551616)) (hr : Rd w A (b.map bv)) :
    Calls Try.prog 14 #[deedV k id n A b.length c] w (RetPut (deedPut k id n b) w) := by
  have HR := Lib.hid hr
  clear hr
  cases hb : deedMay k id n b.length
  · have HB := Lib.hid hb
    have HP := Lib.hid (show deedPut k id n b = ([], 2) by unfold deedPut; rw [if_pos hb])
    clear hb
    go_enter Try.func14, Try.ntmps14
    go_wp2_with (first | (go_at_call 16; go_must (refine (ref_deedMay _ id n A b.length c _ hm).mono ?_); rintro e w1 ⟨rfl, hbl⟩; rw [HB.out]))
    go_ret2
    exact RetPut.mk HP.out (App.nil _ _ _ _) (((Bl.refl w).alloc _).trans hbl)
  · have HB := Lib.hid hb
    have hk : 1 ≤ k ∧ k ≤ 9 ∧ 0 ≤ n ∧ n ≤ 65536 := by unfold deedMay at hb; simp only [decide_eq_true_eq] at hb; omega
    have HC : Hid (∀ w' : World, Bl (w.alloc (.cells #[.int .u8 k, .int .u64 id, .int .i64 n, .slice A b.length c] 26)) w' → w'.cell? ⟨w.heap.size, 0, none⟩ = some (.int .u8 k) ∧ w'.cell? ⟨w.heap.size, 1, none⟩ = some (.int .u64 id) ∧ w'.cell? ⟨w.heap.size, 2, none⟩ = some (.int .i64 n) ∧ w'.cell? ⟨w.heap.size, 3, none⟩ = some (.slice A b.length c)) := fun w' hw => by
      have hh := hw.heap (heap_alloc_new w _)
      exact ⟨cell_of_row _ _ 0 _ _ _ hh, cell_of_row _ _ 1 _ _ _ hh, cell_of_row _ _ 2 _ _ _ hh, cell_of_row _ _ 3 _ _ _ hh⟩
    by_cases hlong : 65504 < b.length
    · have HP := Lib.hid (show deedPut k id n b = ([], 3) by unfold deedPut; rw [hb, if_neg (by simp), if_pos hlong])
      clear hb
      go_enter Try.func14, Try.ntmps14
      go_wp2_with (first | (go_at_call 16; go_must (refine (ref_deedMay _ id n A b.length c _ hm).mono ?_); rintro e w1 ⟨rfl, hbl⟩; rw [HB.out]; obtain ⟨p0, p1, p2, p3⟩ := HC.out _ hbl))
      go_ret2
      exact RetPut.mk HP.out (App.nil _ _ _ _) (((Bl.refl w).alloc _).trans hbl)
    · have HP := Lib.hid (show deedPut k id n b = (deedBytes k id n b, 0) by unfold deedPut; rw [hb, if_neg (by simp), if_neg hlong])
      have hn2 := lebPut_ten (n := n.toNat) (by omega)
      have hrow := lebRowPut_len b (by omega)
      have hten2 := (lebPut_ten (n := id.toNat) (by have := h1.out; omega)).1
      have hwn : IntKind.u64.wrap n = n := IntWalk.u64_in _ (by omega)
      have hkk : k = ((k.toNat.toUInt8).toNat : Int) := by rw [u8_toNat _ (by omega)]; omega
      have HKB := Lib.hid hkk
      clear hb hkk
      go_enter Try.func14, Try.ntmps14
      go_wp2_with (first
        | (go_at_call 16; go_must (refine (ref_deedMay _ id n A b.length c _ hm).mono ?_); rintro e w1 ⟨rfl, hbl⟩; rw [HB.out]; obtain ⟨p0, p1, p2, p3⟩ := HC.out _ hbl; have hw1 := Lib.hid (((Bl.refl w).alloc _).trans hbl); have HL := Lib.hid hbl; clear hbl)
        | (at_builtin; refine append_one rfl _ _ 24 5 (.int .u8 0) 1 1 rfl Try.underlying24 Try.infoU8 rfl (by decide) w1.heap.size (App.nil _ _ _ _) (by rfl) (by rfl) (by rfl) (by intro u hu; simp at hu; subst hu; rfl) (by omega) (by omega) (Nat.le_refl _) ?_; intro v3 w3 hown3 hgr3 hat3; have hb3 : Bl w1 w3 := Bl.grown (Bl.refl _) hgr3 (fun q hq => by simp [Value.ownBlock] at hq); clear hgr3 hat3; obtain ⟨d0, d1, d2, d3⟩ := HC.out _ (HL.out.trans hb3))
        | (go_at_call 60; have tok1 : True := trivial; (with_reducible refine (ref_Put id h0 h1.out w3).mono ?_); rintro e w4 ⟨v4, rfl, hown4, hbl4⟩; obtain ⟨A4, c4, rfl, hcc4⟩ := hown4.slice)
        | (at_builtin; refine append_row rfl _ _ 24 5 (.int .u8 0) 1 1 rfl Try.underlying24 Try.infoU8 rfl (by decide) w1.heap.size (hown3.bl hbl4) (by rfl) (by rfl) hown4.rd.1 (by simp) (bv_one _) (by omega) (by omega) (Nat.le_trans hb3.size hbl4.size) ?_; intro v5 w5 hown5 hgr5 hat5; have hb5 : Bl w1 w5 := Bl.grown (Bl.trans hb3 hbl4) hgr5 (fun q hq => hown3.ge q hq); clear hgr5 hat5 hown4; obtain ⟨e0, e1, e2, e3⟩ := HC.out _ (HL.out.trans hb5))
        | (go_at_call 60; (with_reducible refine (ref_Put n (by omega) (by omega) w5).mono ?_); rintro e w6 ⟨v6, rfl, hown6, hbl6⟩; obtain ⟨A6, c6, rfl, hcc6⟩ := hown6.slice)
        | (at_builtin; refine append_row rfl _ _ 24 5 (.int .u8 0) 1 1 rfl Try.underlying24 Try.infoU8 rfl (by decide) w1.heap.size (hown5.bl hbl6) (by rfl) (by rfl) hown6.rd.1 (by simp) (bv_one _) (by omega) (by omega) (by have := hb5.size; have := hbl6.size; omega) ?_; intro v7 w7 hown7 hgr7 hat7; have hb7 : Bl w1 w7 := Bl.grown (Bl.trans hb5 hbl6) hgr7 (fun q hq => hown5.ge q hq); clear hgr7 hat7 hown6; obtain ⟨f0, f1, f2, f3⟩ := HC.out _ (HL.out.trans hb7))
        | (go_at_call 61; go_must (refine (ref_PutRow A c b w7 (by omega) (HR.out.bl (hw1.out.trans hb7))).mono ?_); rintro e w8 ⟨v8, rfl, hown8, hbl8⟩; obtain ⟨A8, c8, rfl, hcc8⟩ := hown8.slice)
        | (at_builtin; refine append_row rfl _ _ 24 5 (.int .u8 0) 1 1 rfl Try.underlying24 Try.infoU8 rfl (by decide) w1.heap.size (hown7.bl hbl8) (by rfl) (by rfl) hown8.rd.1 (by simp) (bv_one _) (by omega) (by omega) (by have := hb7.size; have := hbl8.size; omega) ?_; intro v9 w9 hown9 hgr9 hat9; have hb9 : Bl w1 w9 := Bl.grown (Bl.trans hb7 hbl8) hgr9 (fun q hq => hown7.ge q hq)))
      go_ret2
      refine RetPut.mk HP.out ?_ (hw1.out.trans hb9)
      have hfin := hown9.mono hw1.out.size
      have hkv : (Value.int .u8 k) = bv k.toNat.toUInt8 := by unfold bv; rw [← HKB.out]
      rw [hkv] at hfin
      simpa [deedBytes, Nat.add_comm, Nat.add_left_comm, Nat.add_assoc] using hfin
end Go.Proofs.Ytedmamchfgkkfaa
/- Layer 18 (node) and its reference walked: a node's bytes. -/
set_option linter.unusedVariables false
set_option linter.unusedSimpArgs false
namespace Go.Proofs.Ytedmamchfgkkfaa
open Go.RowKit
set_option maxRecDepth 100000
set_option maxHeartbeats 4000000

theorem keysOK_at {keys : List ByteArray} (h : keysOK keys = true) {j : Nat} {x : ByteArray} (hx : keys[j]? = some x) : 1 ≤ x.size ∧ x.size ≤ 40 := by
  have hj := (List.getElem?_eq_some_iff.1 hx).1
  have h1 := List.all_eq_true.1 h j (List.mem_range.2 hj)
  rcases keyOK_cases hx with ⟨hf, _⟩ | ⟨hf, _⟩ | ⟨_, _, _, hf, _⟩ | ⟨_, _, h2, h3⟩ | ⟨_, _, _, _, h2, h3, _⟩
  · rw [hf] at h1; cases h1
  · rw [hf] at h1; cases h1
  · rw [hf] at h1; cases h1
  · exact ⟨h2, h3⟩
  · exact ⟨h2, h3⟩
theorem nodeRight_or {k : Int} {keys vals : List ByteArray} {kids : List Int} {leaf inner : Nat} (h : nodeRight k keys vals kids leaf inner = true) :
    keysOK keys = true ∧ ((k = 1 ∧ keys.length ≤ leaf ∧ vals.length = keys.length ∧ kids = [] ∧ valsOK vals = true) ∨ (k = 2 ∧ 1 ≤ keys.length ∧ keys.length ≤ inner ∧ kids.length = keys.length + 1 ∧ vals = [] ∧ kidsOK kids = true)) := by
  unfold nodeRight at h
  simp only [Bool.and_eq_true, Bool.or_eq_true, decide_eq_true_eq] at h
  obtain ⟨h1, h2 | h2⟩ := h
  · exact ⟨h1, .inl ⟨h2.1.1, h2.2.1, h2.2.2.1, List.eq_nil_of_length_eq_zero h2.2.2.2, h2.1.2⟩⟩
  · exact ⟨h1, .inr ⟨h2.1.1, h2.2.1, h2.2.2.1, h2.2.2.2.1, List.eq_nil_of_length_eq_zero h2.2.2.2.2, h2.1.2⟩⟩
theorem valsOK_at {vals : List ByteArray} (h : valsOK vals = true) {j : Nat} {x : ByteArray} (hx : vals[j]? = some x) : x.size ≤ 40 := by
  have := List.all_eq_true.1 h x (List.mem_of_getElem? hx)
  simpa using this
theorem kidsOK_at {kids : List Int} (h : kidsOK kids = true) {j : Nat} {x : Int} (hx : kids[j]? = some x) : 2 ≤ x ∧ x < 65536 := by
  have := List.all_eq_true.1 h x (List.mem_of_getElem? hx)
  simpa using this

/-- The bytes of one key and of what belongs to it. -/
def nodePiece (k : Int) (keys vals : List ByteArray) (kids : List Int) (j : Nat) : List UInt8 :=
  lebRowPut (tb (keys.getD j .empty)) ++ if k = 2 then lebPut (kids.getD (j + 1) 0).toNat else lebRowPut (tb (vals.getD j .empty))
def nodeHead (k : Int) (keys : List ByteArray) (kids : List Int) : List UInt8 := lebPut keys.length ++ if k = 2 then lebPut (kids.getD 0 0).toNat else []
def nodeUpto (k : Int) (keys vals : List ByteArray) (kids : List Int) (j : Nat) : List UInt8 := nodeHead k keys kids ++ (List.range j).flatMap (nodePiece k keys vals kids)
def nodeBytes (k : Int) (keys vals : List ByteArray) (kids : List Int) : List UInt8 := nodeUpto k keys vals kids keys.length
def nodePut (k : Int) (keys vals : List ByteArray) (kids : List Int) : List UInt8 × Int :=
  if nodeRight k keys vals kids 6 6 = false then ([], 2) else (nodeBytes k keys vals kids, 0)
theorem nodeUpto_succ (k : Int) (keys vals : List ByteArray) (kids : List Int) (j : Nat) : nodeUpto k keys vals kids (j + 1) = nodeUpto k keys vals kids j ++ nodePiece k keys vals kids j := by
  unfold nodeUpto
  rw [List.range_succ, List.flatMap_append, List.append_assoc]; simp
theorem getD_of {α : Type} {l : List α} {j : Nat} {x : α} (h : l[j]? = some x) (d : α) : l.getD j d = x := by simp [List.getD_eq_getElem?_getD, h]

theorem node_Put (k : Int) (A B I : Option Addr) (keys vals : List ByteArray) (kids : List Int) (c d ci : Nat) (w : World) (hk : keys.length ≤ 281474976710656) (hv : vals.length ≤ 281474976710656) (hn : kids.length ≤ 281474976710656)
    (rk : Rd w A (keys.map sv)) (rv : Rd w B (vals.map sv)) (rn : Rd w I (kids.map iv)) :
    Calls Try.prog 32 #[nodeV k A keys.length c B vals.length d I kids.length ci] w (RetPut (nodePut k keys vals kids) w) := by
  have RK := Lib.hid rk
  have RV := Lib.hid rv
  have RN := Lib.hid rn
  have HW := Lib.hid ((Bl.refl w).alloc (.cells #[.int .u8 k, .slice A keys.length c, .slice B vals.length d, .slice I kids.length ci] 52))
  have HO := Lib.hid (Ob.new w #[.int .u8 k, .slice A keys.length c, .slice B vals.length d, .slice I kids.length ci] 52)
  clear rk rv rn
  cases hb : nodeRight k keys vals kids 6 6
  · have HP := Lib.hid (show nodePut k keys vals kids = ([], 2) by unfold nodePut; rw [if_pos hb])
    have HB := Lib.hid hb
    clear hb
    go_enter Try.func32, Try.ntmps32
    go_wp2_with (first | (go_at_call 36; go_must (refine (node_May k A B I keys vals kids c d ci _ hk hv hn (RK.out.bl HW.out) (RV.out.bl HW.out) (RN.out.bl HW.out)).mono ?_); rintro e w1 ⟨rfl, hbl⟩; rw [HB.out]))
    go_ret2
    exact RetPut.mk HP.out (App.nil _ _ _ _) (HW.out.trans hbl)
  · have HP := Lib.hid (show nodePut k keys vals kids = (nodeBytes k keys vals kids, 0) by unfold nodePut; rw [if_neg (by rw [hb]; decide)])
    have HB := Lib.hid hb
    obtain ⟨hko, hcase⟩ := nodeRight_or hb
    have HKO := Lib.hid hko
    have hk66 : keys.length ≤ 6 := by rcases hcase with h | h <;> omega
    have hten := (lebPut_ten (n := keys.length) (by omega)).1
    have hwr : IntKind.u64.wrap (keys.length : Int) = (keys.length : Int) := IntWalk.u64_in _ (by omega)
    have hmay := node_May k A B I keys vals kids c d ci
    rw [hb] at hmay
    clear hb hko hk66
    rcases hcase with ⟨hk1, hk6, hvl, hkn, hvo⟩ | ⟨hk2, hk1, hk6, hkl, hvn, hno⟩
    · subst hk1
      subst hkn
      have HVO := Lib.hid hvo
      have HV := Lib.hid hvl
      have HH := Lib.hid (show lebPut keys.length = nodeUpto 1 keys vals [] 0 by simp [nodeUpto, nodeHead])
      clear hvo hvl
      have hmay := Lib.hid (hmay _ hk hv hn (RK.out.bl HW.out) (RV.out.bl HW.out) (RN.out.bl HW.out))
      go_enter Try.func32, Try.ntmps32
      go_wp2_with fail
      simp only [List.length_nil] at HW HO hmay ⊢
      generalize w.alloc (.cells #[.int .u8 1, .slice A keys.length c, .slice B vals.length d, .slice I 0 ci] 52) = u at HW HO hmay ⊢
      obtain ⟨o0, o1, o2, o3, _⟩ := Ob.all4 HO.out
      go_wp2_with (first
        | (go_at_call 36; go_must (refine hmay.out.mono ?_); rintro e w1 ⟨rfl, hbl⟩; clear o0 o1 o2 o3; obtain ⟨o0, o1, o2, o3, _⟩ := Ob.all4 (HO.out.bl hbl))
        | (go_at_call 58; (with_reducible refine (leb_Put (keys.length : Int) (by omega) (by omega) _).mono ?_); rintro e w2 ⟨v2, rfl, hown2, hbl2⟩; rw [Int.toNat_natCast] at hown2; have hown2 := hown2.mono (show u.heap.size ≤ _ from hbl.size); have hb2 := Bl.trans hbl hbl2; clear o0 o1 o2 o3; obtain ⟨o0, o1, o2, o3, _⟩ := Ob.all4 (HO.out.bl hb2)))
      rw [HH.out] at hown2 hten
      have HB2 := Lib.hid hb2
      have HOW := Lib.hid hown2
      have hL0 : (nodeUpto 1 keys vals [] 0).length ≤ 20 := by omega
      clear hown2 hb2 hbl hbl2
      clear o0 o1 o2 o3
      go_loopw [4, 5, 6, 29] (fun out _ _ i wr => ∃ j : Nat, j ≤ keys.length ∧ i = .int .i64 j ∧ App wr u.heap.size 5 1 out (nodeUpto 1 keys vals [] j).length ((nodeUpto 1 keys vals [] j).map bv) ∧ (nodeUpto 1 keys vals [] j).length ≤ 20 + 100 * j ∧ Hid (Bl u wr)) (fun _ _ _ i _ => keys.length - (intOf i).toNat)
      case atStart => exact ⟨0, by omega, rfl, HOW.out, by omega, HB2.out⟩
      case round =>
        obtain ⟨j, hj, rfl, hown, hlen, HB⟩ := hrel
        obtain ⟨v, rfl⟩ : ∃ v : World, v = wr := ⟨_, rfl⟩
        obtain ⟨o0, o1, o2, o3, _⟩ := Ob.all4 (HO.out.bl HB.out)
        clear HOW
        by_cases hlt : j < keys.length
        · obtain ⟨x, hx⟩ := get_some keys j hlt
          have hx4 := keysOK_at HKO.out hx
          obtain ⟨b, o, rfl, hc⟩ := (RK.out.bl (HW.out.trans HB.out)).get hx
          simp only [sv] at hc
          have hrx := lebRowPut_len (tb x) (by rw [tb_len]; omega)
          rw [tb_len] at hrx
          obtain ⟨y, hy⟩ := get_some vals j (by rw [HV.out]; exact hlt)
          have hy4 := valsOK_at HVO.out hy
          obtain ⟨b', o', rfl, hc'⟩ := RV.out.get hy
          simp only [sv] at hc'
          have HC := Lib.hid hc'
          have hry := lebRowPut_len (tb y) (by rw [tb_len]; omega)
          rw [tb_len] at hry
          have hjv : j < vals.length := by rw [HV.out]; exact hlt
          have HS := Lib.hid (show nodeUpto 1 keys vals [] (j + 1) = nodeUpto 1 keys vals [] j ++ lebRowPut (tb x) ++ lebRowPut (tb y) by rw [nodeUpto_succ, nodePiece, getD_of hx, getD_of hy, if_neg (by decide), List.append_assoc])
          clear hx hy hc'
          go_wp2_with (first
            | (refine strb_step rfl 9 24 5 _ (by rfl) Try.underlying9 Try.underlying24 Try.underlying5 (t := x) (by rfl) ?_; intro A3 c3 w3 hrd3 hbl3)
            | (go_at_call 59; (with_reducible refine (leb_PutRow A3 c3 (tb x) w3 (by rw [tb_len]; omega) hrd3).mono ?_); rintro e w4 ⟨v4, rfl, hown4, hbl4⟩; obtain ⟨A4, c4, rfl, hcc4⟩ := hown4.slice; have hz4 := Bl.trans hbl3 hbl4)
            | (at_builtin; refine append_row rfl _ _ 24 5 (.int .u8 0) 1 1 rfl Try.underlying24 Try.infoU8 rfl (by decide) u.heap.size (hown.bl hz4) (by rfl) (by rfl) hown4.rd.1 (by simp) (bv_one _) (by (try simp only [List.length_append]); omega) (by (try simp only [List.length_append]); omega) (HB.out.trans hz4).size ?_; intro v5 w5 hown5 hgr5 hat5; rw [← List.map_append, ← List.length_append] at hown5; have hb5 := (HB.out.trans hz4).grown hgr5 (fun q hq => (hown.bl hz4).ge q hq); clear hgr5 hat5; clear o0 o1 o2 o3 hc; obtain ⟨o0, o1, o2, o3, _⟩ := Ob.all4 (HO.out.bl hb5); have hc := (HW.out.trans hb5).cellAt HC.out)
            | (refine strb_step rfl 9 24 5 _ (by rfl) Try.underlying9 Try.underlying24 Try.underlying5 (t := y) (by rfl) ?_; intro A6 c6 w6 hrd6 hbl6)
            | (go_at_call 59; (with_reducible refine (leb_PutRow A6 c6 (tb y) w6 (by rw [tb_len]; omega) hrd6).mono ?_); rintro e w7 ⟨v7, rfl, hown7, hbl7⟩; obtain ⟨A7, c7, rfl, hcc7⟩ := hown7.slice; have hz7 := Bl.trans hbl6 hbl7)
            | (at_builtin; refine append_row rfl _ _ 24 5 (.int .u8 0) 1 1 rfl Try.underlying24 Try.infoU8 rfl (by decide) u.heap.size (hown5.bl hz7) (by rfl) (by rfl) hown7.rd.1 (by simp) (bv_one _) (by (try simp only [List.length_append]); omega) (by (try simp only [List.length_append]); omega) (hb5.trans hz7).size ?_; intro v8 w8 hown8 hgr8 hat8; rw [← List.map_append, ← List.length_append] at hown8; have hb8 := (hb5.trans hz7).grown hgr8 (fun q hq => (hown5.bl hz7).ge q hq); clear hgr8 hat8; obtain ⟨o0, o1, o2, o3, _⟩ := Ob.all4 (HO.out.bl hb8)))
          rw [← HS.out] at hown8
          go_roundw
          case rel => exact ⟨j + 1, by omega, by go_num, hown8, by rw [HS.out]; simp only [List.length_append]; omega, hb8⟩
          case measure => simp [intOf]; omega
        · obtain rfl : j = keys.length := by omega
          go_wp2_with fail
          go_ret2
          exact RetPut.mk HP.out (hown.mono HW.out.size) (HW.out.trans HB.out)
    · subst hk2
      subst hvn
      have HNO := Lib.hid hno
      have HN := Lib.hid hkl
      obtain ⟨x0, hx0⟩ := get_some kids 0 (by omega)
      have hx04 := kidsOK_at hno hx0
      have hten0 := (lebPut_ten (n := x0.toNat) (by omega)).1
      have hwr0 : IntKind.u64.wrap x0 = x0 := IntWalk.u64_in _ (by omega)
      have HH := Lib.hid (show lebPut keys.length ++ lebPut x0.toNat = nodeUpto 2 keys [] kids 0 by simp [nodeUpto, nodeHead, hx0])
      have h0n : 0 < kids.length := by omega
      obtain ⟨ib, io, rfl, hc0⟩ := RN.out.get hx0
      simp only [iv, Nat.add_zero] at hc0
      have HC0 := Lib.hid hc0
      clear hno hkl hx0 hc0
      have hmay := Lib.hid (hmay _ hk hv hn (RK.out.bl HW.out) (RV.out.bl HW.out) (RN.out.bl HW.out))
      go_enter Try.func32, Try.ntmps32
      go_wp2_with fail
      simp only [List.length_nil] at HW HO hmay ⊢
      generalize w.alloc (.cells #[.int .u8 2, .slice A keys.length c, .slice B 0 d, .slice (some ⟨ib, io, none⟩) kids.length ci] 52) = u at HW HO hmay ⊢
      obtain ⟨o0, o1, o2, o3, _⟩ := Ob.all4 HO.out
      go_wp2_with (first
        | (go_at_call 36; go_must (refine hmay.out.mono ?_); rintro e w1 ⟨rfl, hbl⟩; clear o0 o1 o2 o3; obtain ⟨o0, o1, o2, o3, _⟩ := Ob.all4 (HO.out.bl hbl))
        | (go_at_call 58; (with_reducible refine (leb_Put (keys.length : Int) (by omega) (by omega) _).mono ?_); rintro e w2 ⟨v2, rfl, hown2, hbl2⟩; rw [Int.toNat_natCast] at hown2; have hown2 := hown2.mono (show u.heap.size ≤ _ from hbl.size); have hb2 := Bl.trans hbl hbl2; have hc0 := (HW.out.trans hb2).cellAt HC0.out; clear o0 o1 o2 o3; obtain ⟨o0, o1, o2, o3, _⟩ := Ob.all4 (HO.out.bl hb2))
        | (go_at_call 58; (with_reducible refine (leb_Put x0 (by omega) (by omega) w2).mono ?_); rintro e w3 ⟨v3, rfl, hown3, hbl3⟩; obtain ⟨A3, c3, rfl, hcc3⟩ := hown3.slice)
        | (at_builtin; refine append_row rfl _ _ 24 5 (.int .u8 0) 1 1 rfl Try.underlying24 Try.infoU8 rfl (by decide) u.heap.size (hown2.bl hbl3) (by rfl) (by rfl) hown3.rd.1 (by simp) (bv_one _) (by (try simp only [List.length_append]); omega) (by (try simp only [List.length_append]); omega) (hb2.trans hbl3).size ?_; intro v4 w4 hown4 hgr4 hat4; rw [← List.map_append, ← List.length_append] at hown4; have hb4 := (hb2.trans hbl3).grown hgr4 (fun q hq => (hown2.bl hbl3).ge q hq); clear hgr4 hat4; obtain ⟨o0, o1, o2, o3, _⟩ := Ob.all4 (HO.out.bl hb4)))
      rw [HH.out] at hown4
      have HB2 := Lib.hid hb4
      have HOW := Lib.hid hown4
      have hL0 : (nodeUpto 2 keys [] kids 0).length ≤ 20 := by rw [← HH.out, List.length_append]; omega
      clear hown2 hown3 hown4 hb2 hb4 hbl hbl2 hbl3
      clear o0 o1 o2 o3
      go_loopw [4, 5, 6, 29] (fun out _ _ i wr => ∃ j : Nat, j ≤ keys.length ∧ i = .int .i64 j ∧ App wr u.heap.size 5 1 out (nodeUpto 2 keys [] kids j).length ((nodeUpto 2 keys [] kids j).map bv) ∧ (nodeUpto 2 keys [] kids j).length ≤ 20 + 100 * j ∧ Hid (Bl u wr)) (fun _ _ _ i _ => keys.length - (intOf i).toNat)
      case atStart => exact ⟨0, by omega, rfl, HOW.out, by omega, HB2.out⟩
      case round =>
        obtain ⟨j, hj, rfl, hown, hlen, HB⟩ := hrel
        obtain ⟨v, rfl⟩ : ∃ v : World, v = wr := ⟨_, rfl⟩
        obtain ⟨o0, o1, o2, o3, _⟩ := Ob.all4 (HO.out.bl HB.out)
        clear HOW
        by_cases hlt : j < keys.length
        · obtain ⟨x, hx⟩ := get_some keys j hlt
          have hx4 := keysOK_at HKO.out hx
          obtain ⟨b, o, rfl, hc⟩ := (RK.out.bl (HW.out.trans HB.out)).get hx
          simp only [sv] at hc
          have hrx := lebRowPut_len (tb x) (by rw [tb_len]; omega)
          rw [tb_len] at hrx
          obtain ⟨y, hy⟩ := get_some kids (j + 1) (by rw [HN.out]; omega)
          have hy4 := kidsOK_at HNO.out hy
          obtain ⟨b', o', e', hc'⟩ := RN.out.get hy
          cases e'
          simp only [iv] at hc'
          have HC := Lib.hid hc'
          have hry := (lebPut_ten (n := y.toNat) (by omega)).1
          have hwy : IntKind.u64.wrap y = y := IntWalk.u64_in _ (by omega)
          have hjv : j + 1 < kids.length := by rw [HN.out]; omega
          have HS := Lib.hid (show nodeUpto 2 keys [] kids (j + 1) = nodeUpto 2 keys [] kids j ++ lebRowPut (tb x) ++ lebPut y.toNat by rw [nodeUpto_succ, nodePiece, getD_of hx, getD_of hy, if_pos rfl, List.append_assoc])
          clear hx hy hc'
          go_wp2_with (first
            | (refine strb_step rfl 9 24 5 _ (by rfl) Try.underlying9 Try.underlying24 Try.underlying5 (t := x) (by rfl) ?_; intro A3 c3 w3 hrd3 hbl3)
            | (go_at_call 59; (with_reducible refine (leb_PutRow A3 c3 (tb x) w3 (by rw [tb_len]; omega) hrd3).mono ?_); rintro e w4 ⟨v4, rfl, hown4, hbl4⟩; obtain ⟨A4, c4, rfl, hcc4⟩ := hown4.slice; have hz4 := Bl.trans hbl3 hbl4)
            | (at_builtin; refine append_row rfl _ _ 24 5 (.int .u8 0) 1 1 rfl Try.underlying24 Try.infoU8 rfl (by decide) u.heap.size (hown.bl hz4) (by rfl) (by rfl) hown4.rd.1 (by simp) (bv_one _) (by (try simp only [List.length_append]); omega) (by (try simp only [List.length_append]); omega) (HB.out.trans hz4).size ?_; intro v5 w5 hown5 hgr5 hat5; rw [← List.map_append, ← List.length_append] at hown5; have hb5 := (HB.out.trans hz4).grown hgr5 (fun q hq => (hown.bl hz4).ge q hq); clear hgr5 hat5; clear o0 o1 o2 o3 hc; obtain ⟨o0, o1, o2, o3, _⟩ := Ob.all4 (HO.out.bl hb5); have hc := (HW.out.trans hb5).cellAt HC.out)
            | (go_at_call 58; (with_reducible refine (leb_Put y (by omega) (by omega) w5).mono ?_); rintro e w7 ⟨v7, rfl, hown7, hbl7⟩; obtain ⟨A7, c7, rfl, hcc7⟩ := hown7.slice; have hz7 := hbl7)
            | (at_builtin; refine append_row rfl _ _ 24 5 (.int .u8 0) 1 1 rfl Try.underlying24 Try.infoU8 rfl (by decide) u.heap.size (hown5.bl hz7) (by rfl) (by rfl) hown7.rd.1 (by simp) (bv_one _) (by (try simp only [List.length_append]); omega) (by (try simp only [List.length_append]); omega) (hb5.trans hz7).size ?_; intro v8 w8 hown8 hgr8 hat8; rw [← List.map_append, ← List.length_append] at hown8; have hb8 := (hb5.trans hz7).grown hgr8 (fun q hq => (hown5.bl hz7).ge q hq); clear hgr8 hat8; obtain ⟨o0, o1, o2, o3, _⟩ := Ob.all4 (HO.out.bl hb8)))
          rw [← HS.out] at hown8
          go_roundw
          case rel => exact ⟨j + 1, by omega, by go_num, hown8, by rw [HS.out]; simp only [List.length_append]; omega, hb8⟩
          case measure => simp [intOf]; omega
        · obtain rfl : j = keys.length := by omega
          go_wp2_with fail
          go_ret2
          exact RetPut.mk HP.out (hown.mono HW.out.size) (HW.out.trans HB.out)
theorem ref_row (s : ByteArray) (w : World) (hs : s.size + 10 ≤ 140737488355328) : Calls Try.prog 77 #[.string s] w (RetBytes (lebRowPut (tb s)) w) := by
  go_enter Try.func77, Try.ntmps77
  go_wp2_with (first
    | (refine strb_step rfl 9 24 5 _ (by rfl) Try.underlying9 Try.underlying24 Try.underlying5 (by rfl) ?_; intro A3 c3 w3 hrd3 hbl3)
    | (go_at_call 61; go_must (refine (ref_PutRow A3 c3 (tb s) w3 (by rw [tb_len]; omega) hrd3).mono ?_); rintro e w4 ⟨v4, rfl, hown4, hbl4⟩))
  go_ret
  exact RetBytes.mk (hown4.mono hbl3.size) (hbl3.trans hbl4)
theorem ref_nodePut (k : Int) (A B I : Option Addr) (keys vals : List ByteArray) (kids : List Int) (c d ci : Nat) (w : World) (hk : keys.length ≤ 281474976710656) (hv : vals.length ≤ 281474976710656) (hn : kids.length ≤ 281474976710656)
    (rk : Rd w A (keys.map sv)) (rv : Rd w B (vals.map sv)) (rn : Rd w I (kids.map iv)) :
    Calls Try.prog 33 #[nodeV k A keys.length c B vals.length d I kids.length ci] w (RetPut (nodePut k keys vals kids) w) := by
  have RK := Lib.hid rk
  have RV := Lib.hid rv
  have RN := Lib.hid rn
  have HW := Lib.hid ((Bl.refl w).alloc (.cells #[.int .u8 k, .slice A keys.length c, .slice B vals.length d, .slice I kids.length ci] 52))
  have HO := Lib.hid (Ob.new w #[.int .u8 k, .slice A keys.length c, .slice B vals.length d, .slice I kids.length ci] 52)
  clear rk rv rn
  cases hb : nodeRight k keys vals kids 6 6
  · have HP := Lib.hid (show nodePut k keys vals kids = ([], 2) by unfold nodePut; rw [if_pos hb])
    have HB := Lib.hid hb
    clear hb
    go_enter Try.func33, Try.ntmps33
    go_wp2_with (first | (go_at_call 37; go_must (refine (ref_nodeMay k A B I keys vals kids c d ci _ hk hv hn (RK.out.bl HW.out) (RV.out.bl HW.out) (RN.out.bl HW.out)).mono ?_); rintro e w1 ⟨rfl, hbl⟩; rw [HB.out]))
    go_ret2
    exact RetPut.mk HP.out (App.nil _ _ _ _) (HW.out.trans hbl)
  · have HP := Lib.hid (show nodePut k keys vals kids = (nodeBytes k keys vals kids, 0) by unfold nodePut; rw [if_neg (by rw [hb]; decide)])
    have HB := Lib.hid hb
    obtain ⟨hko, hcase⟩ := nodeRight_or hb
    have HKO := Lib.hid hko
    have hk66 : keys.length ≤ 6 := by rcases hcase with h | h <;> omega
    have hten := (lebPut_ten (n := keys.length) (by omega)).1
    have hwr : IntKind.u64.wrap (keys.length : Int) = (keys.length : Int) := IntWalk.u64_in _ (by omega)
    have hmay := ref_nodeMay k A B I keys vals kids c d ci
    rw [hb] at hmay
    clear hb hko hk66
    rcases hcase with ⟨hk1, hk6, hvl, hkn, hvo⟩ | ⟨hk2, hk1, hk6, hkl, hvn, hno⟩
    · subst hk1
      subst hkn
      have HVO := Lib.hid hvo
      have HV := Lib.hid hvl
      have HH := Lib.hid (show lebPut keys.length = nodeUpto 1 keys vals [] 0 by simp [nodeUpto, nodeHead])
      clear hvo hvl
      have hmay := Lib.hid (hmay _ hk hv hn (RK.out.bl HW.out) (RV.out.bl HW.out) (RN.out.bl HW.out))
      go_enter Try.func33, Try.ntmps33
      go_wp2_with fail
      simp only [List.length_nil] at HW HO hmay ⊢
      generalize w.alloc (.cells #[.int .u8 1, .slice A keys.length c, .slice B vals.length d, .slice I 0 ci] 52) = u at HW HO hmay ⊢
      obtain ⟨o0, o1, o2, o3, _⟩ := Ob.all4 HO.out
      go_wp2_with (first
        | (go_at_call 37; go_must (refine hmay.out.mono ?_); rintro e w1 ⟨rfl, hbl⟩; clear o0 o1 o2 o3; obtain ⟨o0, o1, o2, o3, _⟩ := Ob.all4 (HO.out.bl hbl))
        | (go_at_call 60; (with_reducible refine (ref_Put (keys.length : Int) (by omega) (by omega) _).mono ?_); rintro e w2 ⟨v2, rfl, hown2, hbl2⟩; rw [Int.toNat_natCast] at hown2; have hown2 := hown2.mono (show u.heap.size ≤ _ from hbl.size); have hb2 := Bl.trans hbl hbl2; clear o0 o1 o2 o3; obtain ⟨o0, o1, o2, o3, _⟩ := Ob.all4 (HO.out.bl hb2)))
      rw [HH.out] at hown2 hten
      have HB2 := Lib.hid hb2
      have HOW := Lib.hid hown2
      have hL0 : (nodeUpto 1 keys vals [] 0).length ≤ 20 := by omega
      clear hown2 hb2 hbl hbl2
      clear o0 o1 o2 o3
      go_loopw [4, 5] (fun out i wr => ∃ j : Nat, j ≤ keys.length ∧ i = .int .i64 j ∧ App wr u.heap.size 5 1 out (nodeUpto 1 keys vals [] j).length ((nodeUpto 1 keys vals [] j).map bv) ∧ (nodeUpto 1 keys vals [] j).length ≤ 20 + 100 * j ∧ Hid (Bl u wr)) (fun _ i _ => keys.length - (intOf i).toNat)
      case atStart => exact ⟨0, by omega, rfl, HOW.out, by omega, HB2.out⟩
      case round =>
        obtain ⟨j, hj, rfl, hown, hlen, HB⟩ := hrel
        obtain ⟨v, rfl⟩ : ∃ v : World, v = wr := ⟨_, rfl⟩
        obtain ⟨o0, o1, o2, o3, _⟩ := Ob.all4 (HO.out.bl HB.out)
        clear HOW
        by_cases hlt : j < keys.length
        · obtain ⟨x, hx⟩ := get_some keys j hlt
          have hx4 := keysOK_at HKO.out hx
          obtain ⟨b, o, rfl, hc⟩ := (RK.out.bl (HW.out.trans HB.out)).get hx
          simp only [sv] at hc
          have hrx := lebRowPut_len (tb x) (by rw [tb_len]; omega)
          rw [tb_len] at hrx
          obtain ⟨y, hy⟩ := get_some vals j (by rw [HV.out]; exact hlt)
          have hy4 := valsOK_at HVO.out hy
          obtain ⟨b', o', rfl, hc'⟩ := RV.out.get hy
          simp only [sv] at hc'
          have HC := Lib.hid hc'
          have hry := lebRowPut_len (tb y) (by rw [tb_len]; omega)
          rw [tb_len] at hry
          have hjv : j < vals.length := by rw [HV.out]; exact hlt
          have HS := Lib.hid (show nodeUpto 1 keys vals [] (j + 1) = nodeUpto 1 keys vals [] j ++ lebRowPut (tb x) ++ lebRowPut (tb y) by rw [nodeUpto_succ, nodePiece, getD_of hx, getD_of hy, if_neg (by decide), List.append_assoc])
          clear hx hy hc'
          go_wp2_with (first
            | (go_at_call 77; (with_reducible refine (ref_row x v (by omega)).mono ?_); rintro e w4 ⟨v4, rfl, hown4, hbl4⟩; obtain ⟨A4, c4, rfl, hcc4⟩ := hown4.slice; have hz4 := hbl4)
            | (at_builtin; refine append_row rfl _ _ 24 5 (.int .u8 0) 1 1 rfl Try.underlying24 Try.infoU8 rfl (by decide) u.heap.size (hown.bl hz4) (by rfl) (by rfl) hown4.rd.1 (by simp) (bv_one _) (by (try simp only [List.length_append]); omega) (by (try simp only [List.length_append]); omega) (HB.out.trans hz4).size ?_; intro v5 w5 hown5 hgr5 hat5; rw [← List.map_append, ← List.length_append] at hown5; have hb5 := (HB.out.trans hz4).grown hgr5 (fun q hq => (hown.bl hz4).ge q hq); clear hgr5 hat5; clear o0 o1 o2 o3 hc; obtain ⟨o0, o1, o2, o3, _⟩ := Ob.all4 (HO.out.bl hb5); have hc := (HW.out.trans hb5).cellAt HC.out)
            | (go_at_call 77; (with_reducible refine (ref_row y w5 (by omega)).mono ?_); rintro e w7 ⟨v7, rfl, hown7, hbl7⟩; obtain ⟨A7, c7, rfl, hcc7⟩ := hown7.slice; have hz7 := hbl7)
            | (at_builtin; refine append_row rfl _ _ 24 5 (.int .u8 0) 1 1 rfl Try.underlying24 Try.infoU8 rfl (by decide) u.heap.size (hown5.bl hz7) (by rfl) (by rfl) hown7.rd.1 (by simp) (bv_one _) (by (try simp only [List.length_append]); omega) (by (try simp only [List.length_append]); omega) (hb5.trans hz7).size ?_; intro v8 w8 hown8 hgr8 hat8; rw [← List.map_append, ← List.length_append] at hown8; have hb8 := (hb5.trans hz7).grown hgr8 (fun q hq => (hown5.bl hz7).ge q hq); clear hgr8 hat8; obtain ⟨o0, o1, o2, o3, _⟩ := Ob.all4 (HO.out.bl hb8)))
          rw [← HS.out] at hown8
          go_roundw
          case rel => exact ⟨j + 1, by omega, by go_num, hown8, by rw [HS.out]; simp only [List.length_append]; omega, hb8⟩
          case measure => simp [intOf]; omega
        · obtain rfl : j = keys.length := by omega
          go_wp2_with fail
          go_ret2
          exact RetPut.mk HP.out (hown.mono HW.out.size) (HW.out.trans HB.out)
    · subst hk2
      subst hvn
      have HNO := Lib.hid hno
      have HN := Lib.hid hkl
      obtain ⟨x0, hx0⟩ := get_some kids 0 (by omega)
      have hx04 := kidsOK_at hno hx0
      have hten0 := (lebPut_ten (n := x0.toNat) (by omega)).1
      have hwr0 : IntKind.u64.wrap x0 = x0 := IntWalk.u64_in _ (by omega)
      have HH := Lib.hid (show lebPut keys.length ++ lebPut x0.toNat = nodeUpto 2 keys [] kids 0 by simp [nodeUpto, nodeHead, hx0])
      have h0n : 0 < kids.length := by omega
      obtain ⟨ib, io, rfl, hc0⟩ := RN.out.get hx0
      simp only [iv, Nat.add_zero] at hc0
      have HC0 := Lib.hid hc0
      clear hno hkl hx0 hc0
      have hmay := Lib.hid (hmay _ hk hv hn (RK.out.bl HW.out) (RV.out.bl HW.out) (RN.out.bl HW.out))
      go_enter Try.func33, Try.ntmps33
      go_wp2_with fail
      simp only [List.length_nil] at HW HO hmay ⊢
      generalize w.alloc (.cells #[.int .u8 2, .slice A keys.length c, .slice B 0 d, .slice (some ⟨ib, io, none⟩) kids.length ci] 52) = u at HW HO hmay ⊢
      obtain ⟨o0, o1, o2, o3, _⟩ := Ob.all4 HO.out
      go_wp2_with (first
        | (go_at_call 37; go_must (refine hmay.out.mono ?_); rintro e w1 ⟨rfl, hbl⟩; clear o0 o1 o2 o3; obtain ⟨o0, o1, o2, o3, _⟩ := Ob.all4 (HO.out.bl hbl))
        | (go_at_call 60; (with_reducible refine (ref_Put (keys.length : Int) (by omega) (by omega) _).mono ?_); rintro e w2 ⟨v2, rfl, hown2, hbl2⟩; rw [Int.toNat_natCast] at hown2; have hown2 := hown2.mono (show u.heap.size ≤ _ from hbl.size); have hb2 := Bl.trans hbl hbl2; have hc0 := (HW.out.trans hb2).cellAt HC0.out; clear o0 o1 o2 o3; obtain ⟨o0, o1, o2, o3, _⟩ := Ob.all4 (HO.out.bl hb2))
        | (go_at_call 60; (with_reducible refine (ref_Put x0 (by omega) (by omega) w2).mono ?_); rintro e w3 ⟨v3, rfl, hown3, hbl3⟩; obtain ⟨A3, c3, rfl, hcc3⟩ := hown3.slice)
        | (at_builtin; refine append_row rfl _ _ 24 5 (.int .u8 0) 1 1 rfl Try.underlying24 Try.infoU8 rfl (by decide) u.heap.size (hown2.bl hbl3) (by rfl) (by rfl) hown3.rd.1 (by simp) (bv_one _) (by (try simp only [List.length_append]); omega) (by (try simp only [List.length_append]); omega) (hb2.trans hbl3).size ?_; intro v4 w4 hown4 hgr4 hat4; rw [← List.map_append, ← List.length_append] at hown4; have hb4 := (hb2.trans hbl3).grown hgr4 (fun q hq => (hown2.bl hbl3).ge q hq); clear hgr4 hat4; obtain ⟨o0, o1, o2, o3, _⟩ := Ob.all4 (HO.out.bl hb4)))
      rw [HH.out] at hown4
      have HB2 := Lib.hid hb4
      have HOW := Lib.hid hown4
      have hL0 : (nodeUpto 2 keys [] kids 0).length ≤ 20 := by rw [← HH.out, List.length_append]; omega
      clear hown2 hown3 hown4 hb2 hb4 hbl hbl2 hbl3
      clear o0 o1 o2 o3
      go_loopw [4, 5] (fun out i wr => ∃ j : Nat, j ≤ keys.length ∧ i = .int .i64 j ∧ App wr u.heap.size 5 1 out (nodeUpto 2 keys [] kids j).length ((nodeUpto 2 keys [] kids j).map bv) ∧ (nodeUpto 2 keys [] kids j).length ≤ 20 + 100 * j ∧ Hid (Bl u wr)) (fun _ i _ => keys.length - (intOf i).toNat)
      case atStart => exact ⟨0, by omega, rfl, HOW.out, by omega, HB2.out⟩
      case round =>
        obtain ⟨j, hj, rfl, hown, hlen, HB⟩ := hrel
        obtain ⟨v, rfl⟩ : ∃ v : World, v = wr := ⟨_, rfl⟩
        obtain ⟨o0, o1, o2, o3, _⟩ := Ob.all4 (HO.out.bl HB.out)
        clear HOW
        by_cases hlt : j < keys.length
        · obtain ⟨x, hx⟩ := get_some keys j hlt
          have hx4 := keysOK_at HKO.out hx
          obtain ⟨b, o, rfl, hc⟩ := (RK.out.bl (HW.out.trans HB.out)).get hx
          simp only [sv] at hc
          have hrx := lebRowPut_len (tb x) (by rw [tb_len]; omega)
          rw [tb_len] at hrx
          obtain ⟨y, hy⟩ := get_some kids (j + 1) (by rw [HN.out]; omega)
          have hy4 := kidsOK_at HNO.out hy
          obtain ⟨b', o', e', hc'⟩ := RN.out.get hy
          cases e'
          simp only [iv] at hc'
          have HC := Lib.hid hc'
          have hry := (lebPut_ten (n := y.toNat) (by omega)).1
          have hwy : IntKind.u64.wrap y = y := IntWalk.u64_in _ (by omega)
          have hjv : j + 1 < kids.length := by rw [HN.out]; omega
          have HS := Lib.hid (show nodeUpto 2 keys [] kids (j + 1) = nodeUpto 2 keys [] kids j ++ lebRowPut (tb x) ++ lebPut y.toNat by rw [nodeUpto_succ, nodePiece, getD_of hx, getD_of hy, if_pos rfl, List.append_assoc])
          clear hx hy hc'
          go_wp2_with (first
            | (go_at_call 77; (with_reducible refine (ref_row x v (by omega)).mono ?_); rintro e w4 ⟨v4, rfl, hown4, hbl4⟩; obtain ⟨A4, c4, rfl, hcc4⟩ := hown4.slice; have hz4 := hbl4)
            | (at_builtin; refine append_row rfl _ _ 24 5 (.int .u8 0) 1 1 rfl Try.underlying24 Try.infoU8 rfl (by decide) u.heap.size (hown.bl hz4) (by rfl) (by rfl) hown4.rd.1 (by simp) (bv_one _) (by (try simp only [List.length_append]); omega) (by (try simp only [List.length_append]); omega) (HB.out.trans hz4).size ?_; intro v5 w5 hown5 hgr5 hat5; rw [← List.map_append, ← List.length_append] at hown5; have hb5 := (HB.out.trans hz4).grown hgr5 (fun q hq => (hown.bl hz4).ge q hq); clear hgr5 hat5; clear o0 o1 o2 o3 hc; obtain ⟨o0, o1, o2, o3, _⟩ := Ob.all4 (HO.out.bl hb5); have hc := (HW.out.trans hb5).cellAt HC.out)
            | (go_at_call 60; (with_reducible refine (ref_Put y (by omega) (by omega) w5).mono ?_); rintro e w7 ⟨v7, rfl, hown7, hbl7⟩; obtain ⟨A7, c7, rfl, hcc7⟩ := hown7.slice; have hz7 := hbl7)
            | (at_builtin; refine append_row rfl _ _ 24 5 (.int .u8 0) 1 1 rfl Try.underlying24 Try.infoU8 rfl (by decide) u.heap.size (hown5.bl hz7) (by rfl) (by rfl) hown7.rd.1 (by simp) (bv_one _) (by (try simp only [List.length_append]); omega) (by (try simp only [List.length_append]); omega) (hb5.trans hz7).size ?_; intro v8 w8 hown8 hgr8 hat8; rw [← List.map_append, ← List.length_append] at hown8; have hb8 := (hb5.trans hz7).grown hgr8 (fun q hq => (hown5.bl hz7).ge q hq); clear hgr8 hat8; obtain ⟨o0, o1, o2, o3, _⟩ := Ob.all4 (HO.out.bl hb8)))
          rw [← HS.out] at hown8
          go_roundw
          case rel => exact ⟨j + 1, by omega, by go_num, hown8, by rw [HS.out]; simp only [List.length_append]; omega, hb8⟩
          case measure => simp [intOf]; omega
        · obtain rfl : j = keys.length := by omega
          go_wp2_with fail
          go_ret2
          exact RetPut.mk HP.out (hown.mono HW.out.size) (HW.out.trans HB.out)
end Go.Proofs.Ytedmamchfgkkfaa
/- Layer 22 (deed) walked: the reader that takes fields off. -/
namespace Go.Proofs.Ytedmamchfgkkfaa
open Go.RowKit
set_option maxRecDepth 100000
set_option maxHeartbeats 2000000

/-- The reader: a place, an error. -/
def rdNum (b : List UInt8) (p e : Int) : Int × Int × Int := if e ≠ 0 then (0, p, e) else if (lebGet b p).2.2 = 0 then lebGet b p else ((lebGet b p).1, p, (lebGet b p).2.2)
def rdRow (b : List UInt8) (p e most : Int) : List UInt8 × Int × Int := if e ≠ 0 then ([], p, e) else if (lebRow b p most).2.2 = 0 then lebRow b p most else ([], p, (lebRow b p most).2.2)
abbrev rdrV (A : Option Addr) (n c : Nat) (p e : Int) : Array Value := #[.slice A n c, .int .i64 p, .int .i64 e]
theorem Try.sizeInt : (Try.prog.info? 3).map (·.size) = some 1 := by kernel_rfl
theorem Try.sizeErr : (Try.prog.info? 28).map (·.size) = some 1 := by kernel_rfl

def RetNum (b : List UInt8) (p e0 : Int) (R : Nat) (A : Option Addr) (c : Nat) (w : World) (e : Ending) (w' : World) : Prop :=
  e = .returned (.int .u64 (rdNum b p e0).1) ∧ Ob w' R 85 (rdrV A b.length c (rdNum b p e0).2.1 (rdNum b p e0).2.2) ∧ Ch [R] w w'
theorem RetNum.mk {b : List UInt8} {p e0 n q f : Int} {R : Nat} {A : Option Addr} {c : Nat} {w w' : World} (h : rdNum b p e0 = (n, q, f)) (ho : Ob w' R 85 (rdrV A b.length c q f)) (hc : Ch [R] w w') : RetNum b p e0 R A c w (.returned (.int .u64 n)) w' := by
  unfold RetNum; rw [h]; exact ⟨rfl, ho, hc⟩

theorem rdr_number (R : Nat) (A : Option Addr) (c : Nat) (b : List UInt8) (p e0 : Int) (w : World) (hb : b.length ≤ 140737488351232) (hp : Hid (-9223372036854775808 ≤ p ∧ p ≤ 9223372036854775807)) (hr : Rd w A (b.map bv)) (hob : Ob w R 85 (rdrV A b.length c p e0)) :
    Calls Try.prog 63 #[.pointer (some ⟨R, 0, none⟩)] w (RetNum b p e0 R A c w) := by
  have HR := Lib.hid hr
  have HO := Lib.hid hob
  have c0 := hob.cell 0 rfl
  have c1 := hob.cell 1 rfl
  have c2 := hob.cell 2 rfl
  have f1 := hob.free 1
  have f2 := hob.free 2
  clear hr hob
  by_cases he : e0 = 0
  · subst he
    have hnum : rdNum b p 0 = if (lebGet b p).2.2 = 0 then lebGet b p else ((lebGet b p).1, p, (lebGet b p).2.2) := by unfold rdNum; rw [if_neg (by simp)]
    rcases lebGet_or b p with ⟨e, h, hne, _⟩ | ⟨v, m, h, _⟩
    · have HN := Lib.hid (show rdNum b p 0 = (0, p, e) by rw [hnum, h, if_neg hne])
      have H := Lib.hid h
      have he1 : (e == 0) = false := by simpa using hne
      clear h hne hnum
      go_enter Try.func63, Try.ntmps63
      go_wp2_with fail
      go_quiet ((go_at_call 81; exact Calls.quiet_of (leb_Get_at A c b p _ _ _ _ hb hp.out (HR.out.dr ⟨_, rfl⟩) H.out)))
      go_wp2_with fail
      go_ret
      exact RetNum.mk HN.out (Ob.set (w := w.drewN nq) HO.out 2 _) (Ch.same ((Ch.refl _ w).drewN nq) (Ch.put _ R 2 _))
    · have HN := Lib.hid (show rdNum b p 0 = ((v : Int), (m : Int), 0) by rw [hnum, h, if_pos rfl])
      have H := Lib.hid h
      clear h hnum
      go_enter Try.func63, Try.ntmps63
      go_wp2_with fail
      go_quiet ((go_at_call 81; exact Calls.quiet_of (leb_Get_at A c b p _ _ _ _ hb hp.out (HR.out.dr ⟨_, rfl⟩) H.out)))
      go_wp2_with fail
      go_ret
      exact RetNum.mk HN.out (Ob.set (Ob.set (w := w.drewN nq) HO.out 2 (.int .i64 0)) 1 (.int .i64 m)) (Ch.same (Ch.same ((Ch.refl _ w).drewN nq) (Ch.put _ R 2 _)) (Ch.put _ R 1 _))
  · have HN := Lib.hid (show rdNum b p e0 = (0, p, e0) by unfold rdNum; rw [if_pos he])
    have he1 : (e0 != 0) = true := by simpa using he
    clear he
    go_enter Try.func63, Try.ntmps63
    go_wp2_with fail
    go_ret
    exact RetNum.mk HN.out HO.out (Ch.refl _ _)

def RetRdRow (r : List UInt8 × Int × Int) (b : List UInt8) (R : Nat) (A : Option Addr) (c : Nat) (w : World) (e : Ending) (w' : World) : Prop :=
  ∃ B, e = .returned (.slice B r.1.length r.1.length) ∧ App w' w.heap.size 5 1 (.slice B r.1.length r.1.length) r.1.length (r.1.map bv) ∧ Ob w' R 85 (rdrV A b.length c r.2.1 r.2.2) ∧ Ch [R] w w'
theorem RetRdRow.mk {r : List UInt8 × Int × Int} {b : List UInt8} {R : Nat} {A : Option Addr} {c : Nat} {w w' : World} {xs : List UInt8} {q f : Int} {n : Nat} {B : Option Addr} (h : r = (xs, q, f)) (hn : n = xs.length)
    (hown : App w' w.heap.size 5 1 (.slice B n n) n (xs.map bv)) (ho : Ob w' R 85 (rdrV A b.length c q f)) (hc : Ch [R] w w') : RetRdRow r b R A c w (.returned (.slice B n n)) w' := by subst h; subst hn; exact ⟨B, rfl, hown, ho, hc⟩

theorem leb_GetRow_at (A : Option Addr) (c : Nat) (b : List UInt8) (p most : Int) (xs : List UInt8) (m e : Int) (w : World) (hb : b.length ≤ 140737488351232) (hc : b.length ≤ c) (hp : -9223372036854775808 ≤ p ∧ p ≤ 9223372036854775807) (hm : -9223372036854775808 ≤ most ∧ most ≤ 9223372036854775807) (hr : Rd w A (b.map bv)) (h : lebRow b p most = (xs, m, e)) :
    Calls Try.prog 83 #[.slice A b.length c, .int .i64 p, .int .i64 most] w fun e' w' => ∃ B, e' = .returned (.tuple #[.slice B xs.length xs.length, .int .i64 m, .int .i64 e]) ∧ App w' w.heap.size 5 1 (.slice B xs.length xs.length) xs.length (xs.map bv) ∧ Bl w w' := by
  refine (leb_GetRow A c b p most w hb hc hp hm hr).mono ?_
  rintro e' w' ⟨B, h1, h2, h3⟩
  rw [h] at h1 h2
  exact ⟨B, h1, h2, h3⟩
theorem lebRow_or (b : List UInt8) (p most : Int) : (∃ e : Int, lebRow b p most = ([], 0, e) ∧ e ≠ 0 ∧ 0 ≤ e ∧ e ≤ 13) ∨ ∃ xs : List UInt8, ∃ m : Nat, lebRow b p most = (xs, (m : Int), 0) ∧ (xs.length : Int) ≤ most ∧ m ≤ b.length ∧ xs.length ≤ b.length := by
  rcases lebCount_or b p most with ⟨e, h, he, h2⟩ | ⟨v, m, h, hgg, hv, hmost, hmm, _⟩
  · exact .inl ⟨e, by unfold lebRow; rw [h]; simp [he], he, h2⟩
  · by_cases hl : (b.length : Int) - m < v
    · exact .inl ⟨4, by unfold lebRow; rw [h]; simp [hl], by omega, by omega, by omega⟩
    · refine .inr ⟨(b.drop m).take v, m + v, by unfold lebRow; rw [h]; simp [hl], ?_, by omega, ?_⟩
      · rw [List.length_take, List.length_drop]; omega
      · rw [List.length_take, List.length_drop]; omega

theorem rdr_row (R : Nat) (A : Option Addr) (c : Nat) (b : List UInt8) (p e0 most : Int) (w : World) (hb : b.length ≤ 140737488351232) (hcb : b.length ≤ c) (hp : Hid (-9223372036854775808 ≤ p ∧ p ≤ 9223372036854775807)) (hm : Hid (-9223372036854775808 ≤ most ∧ most ≤ 9223372036854775807)) (hr : Rd w A (b.map bv)) (hob : Ob w R 85 (rdrV A b.length c p e0)) :
    Calls Try.prog 64 #[.pointer (some ⟨R, 0, none⟩), .int .i64 most] w (RetRdRow (rdRow b p e0 most) b R A c w) := by
  have HR := Lib.hid hr
  have HO := Lib.hid hob
  have c0 := hob.cell 0 rfl
  have c1 := hob.cell 1 rfl
  have c2 := hob.cell 2 rfl
  clear hr hob
  by_cases he : e0 = 0
  · subst he
    have hnum : rdRow b p 0 most = if (lebRow b p most).2.2 = 0 then lebRow b p most else ([], p, (lebRow b p most).2.2) := by unfold rdRow; rw [if_neg (by simp)]
    have hX : ∃ (xs : List UInt8) (m e : Int), lebRow b p most = (xs, m, e) ∧ (e ≠ 0 → xs = []) := by
      rcases lebRow_or b p most with ⟨e, h, _⟩ | ⟨xs, m, h, _⟩
      · exact ⟨[], 0, e, h, fun _ => rfl⟩
      · exact ⟨xs, m, 0, h, fun h => absurd rfl h⟩
    obtain ⟨xs, m, e, h, hnil⟩ := hX
    have H := Lib.hid h
    by_cases hne : e = 0
    · subst hne
      have HN := Lib.hid (show rdRow b p 0 most = (xs, m, 0) by rw [hnum, h, if_pos rfl])
      have HK : Hid (∀ w' : World, Bl w w' → w'.cell? ⟨R, 0, none⟩ = some (.slice A b.length c) ∧ w'.cell? ⟨R, 1, none⟩ = some (.int .i64 p) ∧ Bl w w') := fun w' h => ⟨h.cellAt c0, h.cellAt c1, h⟩
      clear h hnum hnil
      go_enter Try.func64, Try.ntmps64
      go_wp2_with fail
      go_region_held3 (fun w' => w'.cell? ⟨R, 0, none⟩ = some (.slice A b.length c) ∧ w'.cell? ⟨R, 1, none⟩ = some (.int .i64 p) ∧ Bl w w')
        (exact HK.out _ (by (focus ((repeat (first | with_reducible assumption | exact Bl.refl _ | refine Bl.drew ?_ | refine Bl.drewN ?_ _ | refine Bl.alloc ?_ _ | (refine Bl.trans ?_ (by with_reducible assumption)))); done))))
        (first | (go_at_call 83; refine (leb_GetRow_at A c b p most _ _ _ _ hb hcb hp.out hm.out (HR.out.dr ⟨1, rfl⟩) H.out).mono ?_; rintro e' w1 ⟨B, rfl, hown, hbl⟩))
      have hb1 : Bl w w1 := Bl.trans (Bl.drew (Bl.refl w)) hbl
      have hO := HO.out.bl hb1
      have f1 := hO.free 1
      have f2 := hO.free 2
      have d0 := hO.cell 0 rfl
      have d1 := hO.cell 1 rfl
      have d2 := hO.cell 2 rfl
      have HO1 := Lib.hid hO
      have HOW := Lib.hid hown
      have HB1 := Lib.hid hb1
      clear c0 c1 c2 hO hown hbl hb1
      go_wp2_with fail
      go_ret
      refine RetRdRow.mk HN.out rfl (App.ch ((HOW.out).mono (by simp)) (Ch.same (Ch.put w1 R 2 (.int .i64 0)) (Ch.put _ R 1 (.int .i64 m))) ?_) (Ob.set (Ob.set HO1.out 2 (.int .i64 0)) 1 (.int .i64 m)) (Ch.same (Ch.same (HB1.out.ch [R]) (Ch.put _ R 2 _)) (Ch.put _ R 1 _))
      intro g hg
      simp at hg
      subst hg
      exact HO1.out.app HOW.out (by decide)
    · have HN := Lib.hid (show rdRow b p 0 most = ([], p, e) by rw [hnum, h, if_neg hne])
      have HK : Hid (∀ w' : World, Bl w w' → w'.cell? ⟨R, 0, none⟩ = some (.slice A b.length c) ∧ w'.cell? ⟨R, 1, none⟩ = some (.int .i64 p) ∧ Bl w w') := fun w' h => ⟨h.cellAt c0, h.cellAt c1, h⟩
      have he1 : (e == 0) = false := by simpa using hne
      obtain rfl : xs = [] := hnil hne
      clear h hnum hnil hne
      go_enter Try.func64, Try.ntmps64
      go_wp2_with fail
      go_region_held3 (fun w' => w'.cell? ⟨R, 0, none⟩ = some (.slice A b.length c) ∧ w'.cell? ⟨R, 1, none⟩ = some (.int .i64 p) ∧ Bl w w')
        (exact HK.out _ (by (focus ((repeat (first | with_reducible assumption | exact Bl.refl _ | refine Bl.drew ?_ | refine Bl.drewN ?_ _ | refine Bl.alloc ?_ _ | (refine Bl.trans ?_ (by with_reducible assumption)))); done))))
        (first | (go_at_call 83; refine (leb_GetRow_at A c b p most _ _ _ _ hb hcb hp.out hm.out (HR.out.dr ⟨1, rfl⟩) H.out).mono ?_; rintro e' w1 ⟨B, rfl, hown, hbl⟩))
      have hb1 : Bl w w1 := Bl.trans (Bl.drew (Bl.refl w)) hbl
      have hO := HO.out.bl hb1
      have f1 := hO.free 1
      have f2 := hO.free 2
      have d0 := hO.cell 0 rfl
      have d1 := hO.cell 1 rfl
      have d2 := hO.cell 2 rfl
      have HO1 := Lib.hid hO
      have HOW := Lib.hid hown
      have HB1 := Lib.hid hb1
      clear c0 c1 c2 hO hown hbl hb1
      go_wp2_with fail
      go_ret
      refine RetRdRow.mk HN.out rfl (App.ch ((HOW.out).mono (by simp)) (Ch.put w1 R 2 (.int .i64 e)) ?_) (Ob.set HO1.out 2 (.int .i64 e)) (Ch.same (HB1.out.ch [R]) (Ch.put _ R 2 _))
      intro g hg
      simp at hg
      subst hg
      exact HO1.out.app HOW.out (by decide)
  · have HN := Lib.hid (show rdRow b p e0 most = ([], p, e0) by unfold rdRow; rw [if_pos he])
    have he1 : (e0 != 0) = true := by simpa using he
    clear he
    go_enter Try.func64, Try.ntmps64
    go_wp2_with fail
    go_ret
    exact RetRdRow.mk HN.out rfl (App.nil _ _ _ _) HO.out (Ch.refl _ _)

/-- What deed.Get takes off: two numbers and a row, a place, an error. -/
structure Took where
  id : Int
  n : Int
  row : List UInt8
  p : Int
  e : Int
def took (b : List UInt8) (p e most : Int) : Took :=
  let a := rdNum b p e
  let c := rdNum b a.2.1 a.2.2
  let r := rdRow b c.2.1 c.2.2 most
  ⟨a.1, c.1, r.1, r.2.1, r.2.2⟩
theorem rdNum_place (b : List UInt8) (p e : Int) (hp : -9223372036854775808 ≤ p ∧ p ≤ 9223372036854775807) (hb : b.length ≤ 140737488351232) : -9223372036854775808 ≤ (rdNum b p e).2.1 ∧ (rdNum b p e).2.1 ≤ 9223372036854775807 := by
  unfold rdNum
  split
  · exact hp
  · rcases lebGet_or b p with ⟨f, h, hf, _⟩ | ⟨v, m, h, _, hm, _⟩
    · rw [h, if_neg hf]; exact hp
    · rw [h, if_pos rfl]; simp only; omega
def RetTook (t : Took) (b : List UInt8) (R : Nat) (A : Option Addr) (c : Nat) (w : World) (e : Ending) (w' : World) : Prop :=
  ∃ B, e = .returned (.tuple #[.int .u64 t.id, .int .u64 t.n, .slice B t.row.length t.row.length]) ∧ App w' w.heap.size 5 1 (.slice B t.row.length t.row.length) t.row.length (t.row.map bv) ∧ Ob w' R 85 (rdrV A b.length c t.p t.e) ∧ Ch [R] w w'

theorem deed_Get1 (V R : Nat) (A : Option Addr) (c : Nat) (b : List UInt8) (p e0 : Int) (w : World) (hb : b.length ≤ 140737488351232) (hcb : b.length ≤ c) (hp : Hid (-9223372036854775808 ≤ p ∧ p ≤ 9223372036854775807)) (hr : Rd w A (b.map bv)) (hAR : ∀ a, A = some a → a.block ≠ R) (hVR : V ≠ R)
    (hv : Ob w V 83 #[.pointer (some ⟨R, 0, none⟩)]) (hob : Ob w R 85 (rdrV A b.length c p e0)) :
    Calls Try.prog 62 #[.pointer (some ⟨V, 0, none⟩)] w (RetTook (took b p e0 65504) b R A c w) := by
  have HR := Lib.hid hr
  have HO := Lib.hid hob
  have HV := Lib.hid hv
  have HAR := Lib.hid (show ∀ a, A = some a → a.block ∉ [R] from fun a ha => by simpa using hAR a ha)
  have HVR := Lib.hid (show V ∉ [R] by simpa using hVR)
  have v0 := hv.cell 0 rfl
  clear hr hob hv hAR hVR
  go_enter Try.func62, Try.ntmps62
  go_wp2_with fail
  refine (rdr_number R A c b p e0 w hb hp HR.out HO.out).mono ?_
  rintro e w1 ⟨rfl, ho1, hc1⟩
  have HC1 := Lib.hid hc1
  have HO1 := Lib.hid ho1
  have v1 := (HV.out.ch hc1 HVR.out).cell 0 rfl
  have HP1 := Lib.hid (rdNum_place b p e0 hp.out hb)
  clear hc1 ho1 v0
  go_wp2_with fail
  refine (rdr_number R A c b _ _ w1 hb HP1 (HR.out.ch HC1.out HAR.out) HO1.out).mono ?_
  rintro e w2 ⟨rfl, ho2, hc2⟩
  have HC2 := Lib.hid (HC1.out.same hc2)
  have HO2 := Lib.hid ho2
  have v2 := (HV.out.ch HC2.out HVR.out).cell 0 rfl
  have HP2 := Lib.hid (rdNum_place b _ (rdNum b p e0).2.2 HP1.out hb)
  clear hc2 ho2 v1 HO1
  go_wp2_with fail
  refine (rdr_row R A c b _ _ 65504 w2 hb hcb HP2 (by unfold Hid; omega) (HR.out.ch HC2.out HAR.out) HO2.out).mono ?_
  rintro e w3 ⟨B, rfl, hown, ho3, hc3⟩
  have HC3 := Lib.hid (HC2.out.same hc3)
  have HOW := Lib.hid (hown.mono HC2.out.size)
  have HO3 := Lib.hid ho3
  clear hc3 ho3 hown v2
  go_wp2_with fail
  go_ret3
  exact ⟨B, rfl, HOW.out, HO3.out, HC3.out⟩
end Go.Proofs.Ytedmamchfgkkfaa
/- Layer 18 (node) walked: the closures of Get. -/
set_option linter.unusedVariables false
set_option linter.unusedSimpArgs false
namespace Go.Proofs.Ytedmamchfgkkfaa
open Go.RowKit
set_option maxRecDepth 100000
set_option maxHeartbeats 4000000

/-- What 'number' and 'text' answer: the number (the text), the place and the error behind it. -/
def ndNum (b : List UInt8) (most p e : Int) : Int × Int × Int := if e ≠ 0 then (0, p, e) else if (lebCount b p most).2.2 = 0 then lebCount b p most else (0, p, (lebCount b p most).2.2)
def ndText (b : List UInt8) (most p e : Int) : List UInt8 × Int × Int := if e ≠ 0 then ([], p, e) else if (lebRow b p most).2.2 = 0 then lebRow b p most else ([], p, (lebRow b p most).2.2)
/-- The three captured variables. -/
structure Cap (w : World) (gE gB gA : Nat) (A : Option Addr) (n c : Nat) (p e : Int) : Prop where
  oE : Ob w gE 28 #[.int .i64 e]
  oB : Ob w gB 24 #[.slice A n c]
  oA : Ob w gA 3 #[.int .i64 p]
  neB : gB ≠ gE ∧ gB ≠ gA ∧ gE ≠ gA
theorem Cap.bl {w w' : World} {gE gB gA : Nat} {A : Option Addr} {n c : Nat} {p e : Int} (h : Cap w gE gB gA A n c p e) (k : Bl w w') : Cap w' gE gB gA A n c p e := ⟨h.oE.bl k, h.oB.bl k, h.oA.bl k, h.neB⟩
theorem Cap.setE {w : World} {gE gB gA : Nat} {A : Option Addr} {n c : Nat} {p e : Int} (h : Cap w gE gB gA A n c p e) (f : Int) : Cap (w.setCell ⟨gE, 0, none⟩ (.int .i64 f)) gE gB gA A n c p f :=
  ⟨by have := h.oE.set 0 (.int .i64 f); simpa using this, h.oB.ch (Ch.put w gE 0 _) (by simp; exact h.neB.1), h.oA.ch (Ch.put w gE 0 _) (by simp; exact fun e => h.neB.2.2 e.symm), h.neB⟩
theorem Cap.setA {w : World} {gE gB gA : Nat} {A : Option Addr} {n c : Nat} {p e : Int} (h : Cap w gE gB gA A n c p e) (q : Int) : Cap (w.setCell ⟨gA, 0, none⟩ (.int .i64 q)) gE gB gA A n c q e :=
  ⟨h.oE.ch (Ch.put w gA 0 _) (by simp; exact h.neB.2.2), h.oB.ch (Ch.put w gA 0 _) (by simp; exact h.neB.2.1), by have := h.oA.set 0 (.int .i64 q); simpa using this, h.neB⟩
def RetNdN (r : Int × Int × Int) (gE gB gA : Nat) (A : Option Addr) (n c : Nat) (w : World) (e : Ending) (w' : World) : Prop :=
  e = .returned (.int .i64 r.1) ∧ Cap w' gE gB gA A n c r.2.1 r.2.2 ∧ Ch [gE, gA] w w'
theorem RetNdN.mk {r : Int × Int × Int} {gE gB gA : Nat} {A : Option Addr} {n c : Nat} {w w' : World} {v p e : Int} (h : r = (v, p, e)) (hc : Cap w' gE gB gA A n c p e) (hw : Ch [gE, gA] w w') : RetNdN r gE gB gA A n c w (.returned (.int .i64 v)) w' := by subst h; exact ⟨rfl, hc, hw⟩
def RetNdT (r : List UInt8 × Int × Int) (gE gB gA : Nat) (A : Option Addr) (n c : Nat) (w : World) (e : Ending) (w' : World) : Prop :=
  e = .returned (.string ⟨r.1.toArray⟩) ∧ Cap w' gE gB gA A n c r.2.1 r.2.2 ∧ Ch [gE, gA] w w'
theorem RetNdT.mk {r : List UInt8 × Int × Int} {gE gB gA : Nat} {A : Option Addr} {n c : Nat} {w w' : World} {xs : List UInt8} {p e : Int} (h : r = (xs, p, e)) (hc : Cap w' gE gB gA A n c p e) (hw : Ch [gE, gA] w w') : RetNdT r gE gB gA A n c w (.returned (.string ⟨xs.toArray⟩)) w' := by subst h; exact ⟨rfl, hc, hw⟩

theorem nd_number (gE gB gA : Nat) (A : Option Addr) (c : Nat) (b : List UInt8) (p e0 most : Int) (w : World) (hb : b.length ≤ 140737488351232) (hp : Hid (-9223372036854775808 ≤ p ∧ p ≤ 9223372036854775807)) (hm : 0 ≤ most ∧ most ≤ 100000) (hr : Rd w A (b.map bv)) (hcap : Cap w gE gB gA A b.length c p e0) :
    Calls Try.prog 80 #[.int .u64 most, .pointer (some ⟨gE, 0, none⟩), .pointer (some ⟨gB, 0, none⟩), .pointer (some ⟨gA, 0, none⟩)] w (RetNdN (ndNum b most p e0) gE gB gA A b.length c w) := by
  have HR := Lib.hid hr
  have HC := Lib.hid hcap
  have cE : w.cell? ⟨gE, 0, none⟩ = some (.int .i64 e0) := hcap.oE.cell 0 rfl
  have cB : w.cell? ⟨gB, 0, none⟩ = some (.slice A b.length c) := hcap.oB.cell 0 rfl
  have cA : w.cell? ⟨gA, 0, none⟩ = some (.int .i64 p) := hcap.oA.cell 0 rfl
  have fE := hcap.oE.free 0
  have fA := hcap.oA.free 0
  clear hr hcap
  by_cases he : e0 = 0
  · subst he
    have hnum : ndNum b most p 0 = if (lebCount b p most).2.2 = 0 then lebCount b p most else (0, p, (lebCount b p most).2.2) := by unfold ndNum; rw [if_neg (by simp)]
    rcases lebGet_or b p with ⟨e, h, hne, _⟩ | ⟨v, m, h, hv, hml, hpm, h0⟩
    · have HN := Lib.hid (show ndNum b most p 0 = (0, p, e) by rw [hnum]; unfold lebCount; rw [h]; simp [hne])
      have H := Lib.hid h
      have he1 : (e != 0) = true := by simpa using hne
      clear h hne hnum
      go_enter Try.func80, Try.ntmps80
      go_wp2_with (first
        | (go_at_call 81; go_must (refine (leb_Get_at A c b p _ _ _ w hb hp.out HR.out H.out).mono ?_); rintro e w1 ⟨rfl, n1, rfl⟩))
      go_ret
      exact RetNdN.mk HN.out (Cap.setE (HC.out.bl ((Bl.refl w).drewN n1)) e) (((Ch.refl _ w).drewN n1).trans (Ch.put _ gE 0 _) (by simp))
    · by_cases hvm : most < (v : Int)
      · have HN := Lib.hid (show ndNum b most p 0 = (0, p, 3) by rw [hnum]; unfold lebCount; rw [h]; simp [hvm])
        have H := Lib.hid h
        clear h hnum hv
        go_enter Try.func80, Try.ntmps80
        go_wp2_with (first
          | (go_at_call 81; go_must (refine (leb_Get_at A c b p _ _ _ w hb hp.out HR.out H.out).mono ?_); rintro e w1 ⟨rfl, n1, rfl⟩))
        go_ret
        exact RetNdN.mk HN.out (Cap.setE (HC.out.bl ((Bl.refl w).drewN n1)) 3) (((Ch.refl _ w).drewN n1).trans (Ch.put _ gE 0 _) (by simp))
      · have HN := Lib.hid (show ndNum b most p 0 = ((v : Int), (m : Int), 0) by have hc : lebCount b p most = ((v : Int), (m : Int), 0) := (by unfold lebCount; rw [h, if_neg (by simp), if_neg (by simp only; omega)]); rw [hnum, hc]; rfl)
        have H := Lib.hid h
        have hw6 : wrap64 (v : Int) = (v : Int) := by unfold wrap64; omega
        clear h hnum hv
        go_enter Try.func80, Try.ntmps80
        go_wp2_with (first
          | (go_at_call 81; go_must (refine (leb_Get_at A c b p _ _ _ w hb hp.out HR.out H.out).mono ?_); rintro e w1 ⟨rfl, n1, rfl⟩))
        go_ret
        exact RetNdN.mk HN.out (Cap.setA (HC.out.bl ((Bl.refl w).drewN n1)) _) (((Ch.refl _ w).drewN n1).trans (Ch.put _ gA 0 _) (by simp))
  · have HN := Lib.hid (show ndNum b most p e0 = (0, p, e0) by unfold ndNum; rw [if_pos he])
    have he1 : (e0 != 0) = true := by simpa using he
    clear he
    go_enter Try.func80, Try.ntmps80
    go_wp2_with fail
    go_ret
    exact RetNdN.mk HN.out HC.out (Ch.refl _ w)

theorem nd_text (gE gB gA : Nat) (A : Option Addr) (c : Nat) (b : List UInt8) (p e0 most : Int) (w : World) (hb : b.length ≤ 140737488351232) (hbc : b.length ≤ c) (hp : Hid (-9223372036854775808 ≤ p ∧ p ≤ 9223372036854775807)) (hm : 0 ≤ most ∧ most ≤ 100000) (hr : Rd w A (b.map bv)) (hcap : Cap w gE gB gA A b.length c p e0) :
    Calls Try.prog 82 #[.int .i64 most, .pointer (some ⟨gE, 0, none⟩), .pointer (some ⟨gB, 0, none⟩), .pointer (some ⟨gA, 0, none⟩)] w (RetNdT (ndText b most p e0) gE gB gA A b.length c w) := by
  have HR := Lib.hid hr
  have HC := Lib.hid hcap
  have cE : w.cell? ⟨gE, 0, none⟩ = some (.int .i64 e0) := hcap.oE.cell 0 rfl
  have cB : w.cell? ⟨gB, 0, none⟩ = some (.slice A b.length c) := hcap.oB.cell 0 rfl
  have cA : w.cell? ⟨gA, 0, none⟩ = some (.int .i64 p) := hcap.oA.cell 0 rfl
  clear hr hcap
  by_cases he : e0 = 0
  · subst he
    have hnum : ndText b most p 0 = if (lebRow b p most).2.2 = 0 then lebRow b p most else ([], p, (lebRow b p most).2.2) := by unfold ndText; rw [if_neg (by simp)]
    rcases lebRow_or b p most with ⟨f, h, hf, _⟩ | ⟨xs, m, h, h1, h2, h3⟩
    · have HN := Lib.hid (show ndText b most p 0 = ([], p, f) by rw [hnum, h, if_neg hf])
      have H := Lib.hid h
      have he1 : (f == 0) = false := by simpa using hf
      clear h hf hnum
      go_enter Try.func82, Try.ntmps82
      go_wp2_with (first
        | (go_at_call 83; go_must (refine (leb_GetRow A c b p most w hb hbc hp.out (by omega) HR.out).mono ?_); rw [H.out]; rintro e w1 ⟨B, rfl, hown1, hbl1⟩; have HC1 := Lib.hid (HC.out.bl hbl1); have cE1 : w1.cell? ⟨gE, 0, none⟩ = some (.int .i64 0) := HC1.out.oE.cell 0 rfl; have fE := HC1.out.oE.free 0)
        | (refine conv_step rfl 24 9 5 _ (by rfl) Try.underlying24 Try.underlying5 Try.underlying9 (xs := []) (by rfl) rfl (Rd.nil _ _) ?_))
      go_ret
      exact RetNdT.mk HN.out (HC1.out.setE f) ((hbl1.ch _).trans (Ch.put _ gE 0 _) (by simp))
    · have HN := Lib.hid (show ndText b most p 0 = (xs, (m : Int), 0) by rw [hnum, h]; rfl)
      have H := Lib.hid h
      clear h hnum
      go_enter Try.func82, Try.ntmps82
      go_wp2_with (first
        | (go_at_call 83; go_must (refine (leb_GetRow A c b p most w hb hbc hp.out (by omega) HR.out).mono ?_); rw [H.out]; rintro e w1 ⟨B, rfl, hown1, hbl1⟩; have HC1 := Lib.hid (HC.out.bl hbl1); have HC2 := Lib.hid (HC1.out.setE 0); have cE1 : w1.cell? ⟨gE, 0, none⟩ = some (.int .i64 0) := HC1.out.oE.cell 0 rfl; have fE := HC1.out.oE.free 0; have cA1 : w1.cell? ⟨gA, 0, none⟩ = some (.int .i64 p) := HC1.out.oA.cell 0 rfl; have fA := HC1.out.oA.free 0; have HNE := Lib.hid HC.out.neB; have hEA : gE ≠ gA := HC.out.neB.2.2; have hAE : gA ≠ gE := fun e => HC.out.neB.2.2 e.symm)
        | (refine conv_step rfl 24 9 5 _ (by rfl) Try.underlying24 Try.underlying5 Try.underlying9 (xs := xs) (by rfl) rfl (App.rd (hown1.ch (((Ch.put w1 gE 0 _).mono (M := [gE, gA]) (by simp)).same ((Ch.put _ gA 0 _).mono (by simp))) (by intro g hg e; have h1 := hown1.ge g e; have h2 := HC.out.oE.lt; have h3 := HC.out.oA.lt; simp at hg; omega))).1 ?_))
      go_ret
      exact RetNdT.mk HN.out (HC2.out.setA m) ((hbl1.ch _).trans (((Ch.put w1 gE 0 _).mono (M := [gE, gA]) (by simp)).same ((Ch.put _ gA 0 _).mono (by simp))) (by simp))
  · have HN := Lib.hid (show ndText b most p e0 = ([], p, e0) by unfold ndText; rw [if_pos he])
    have he1 : (e0 != 0) = true := by simpa using he
    clear he
    go_enter Try.func82, Try.ntmps82
    go_wp2_with fail
    go_ret
    exact RetNdT.mk HN.out HC.out (Ch.refl _ w)
end Go.Proofs.Ytedmamchfgkkfaa
/- Layer 18 (node): what is read of bytes, as a plain function; and Get walked. -/
set_option linter.unusedVariables false
set_option linter.unusedSimpArgs false
namespace Go.Proofs.Ytedmamchfgkkfaa
open Go.RowKit
set_option maxRecDepth 100000
set_option maxHeartbeats 4000000

structure NodeR where
  k : Int
  keys : List ByteArray
  vals : List ByteArray
  kids : List Int
  e : Int
def nodeNo (e : Int) : NodeR := ⟨0, [], [], [], e⟩
def nodeEnd (k : Int) (b : List UInt8) (p : Int) (ks vs : List ByteArray) (is : List Int) : NodeR :=
  if p ≠ b.length ∨ nodeRight k ks vs is 6 6 = false then nodeNo 5 else ⟨k, ks, vs, is, 0⟩
def nodeLoop (k : Int) (b : List UInt8) : Nat → Int → List ByteArray → List ByteArray → List Int → NodeR
  | 0, p, ks, vs, is => nodeEnd k b p ks vs is
  | n + 1, p, ks, vs, is =>
    if (lebRow b p 40).2.2 ≠ 0 then nodeNo (lebRow b p 40).2.2
    else if k = 2 then
      if (lebCount b (lebRow b p 40).2.1 65535).2.2 ≠ 0 then nodeNo (lebCount b (lebRow b p 40).2.1 65535).2.2
      else nodeLoop k b n (lebCount b (lebRow b p 40).2.1 65535).2.1 (ks ++ [⟨(lebRow b p 40).1.toArray⟩]) vs (is ++ [(lebCount b (lebRow b p 40).2.1 65535).1])
    else
      if (lebRow b (lebRow b p 40).2.1 40).2.2 ≠ 0 then nodeNo (lebRow b (lebRow b p 40).2.1 40).2.2
      else nodeLoop k b n (lebRow b (lebRow b p 40).2.1 40).2.1 (ks ++ [⟨(lebRow b p 40).1.toArray⟩]) (vs ++ [⟨(lebRow b (lebRow b p 40).2.1 40).1.toArray⟩]) is
def nodeGet (k : Int) (b : List UInt8) : NodeR :=
  if k ≠ 1 ∧ k ≠ 2 then nodeNo 2
  else if (lebCount b 0 6).2.2 ≠ 0 then nodeNo (lebCount b 0 6).2.2
  else if k = 2 then
    if (lebCount b (lebCount b 0 6).2.1 65535).2.2 ≠ 0 then nodeNo (lebCount b (lebCount b 0 6).2.1 65535).2.2
    else nodeLoop k b (lebCount b 0 6).1.toNat (lebCount b (lebCount b 0 6).2.1 65535).2.1 [] [] [(lebCount b (lebCount b 0 6).2.1 65535).1]
  else nodeLoop k b (lebCount b 0 6).1.toNat (lebCount b 0 6).2.1 [] [] []
/-- A node of the call's own, and an error, are handed back. -/
def RetNode (r : NodeR) (w : World) (e : Ending) (w' : World) : Prop :=
  ∃ A c B d I ci, e = .returned (.tuple #[nodeV r.k A r.keys.length c B r.vals.length d I r.kids.length ci, .int .i64 r.e]) ∧
    App w' w.heap.size 9 1 (.slice A r.keys.length c) r.keys.length (r.keys.map sv) ∧ App w' w.heap.size 9 1 (.slice B r.vals.length d) r.vals.length (r.vals.map sv) ∧ App w' w.heap.size 3 1 (.slice I r.kids.length ci) r.kids.length (r.kids.map iv) ∧ Bl w w'
theorem RetNode.no {r : NodeR} {w w' : World} {e : Int} (h : r = nodeNo e) (hb : Bl w w') : RetNode r w (.returned (.tuple #[nodeV 0 none 0 0 none 0 0 none 0 0, .int .i64 e])) w' := by
  subst h; exact ⟨none, 0, none, 0, none, 0, rfl, App.nil _ _ _ _, App.nil _ _ _ _, App.nil _ _ _ _, hb⟩
theorem Try.sizeNode : (Try.prog.info? 52).map (·.size) = some 4 := by kernel_rfl

/-- The state of Get's loop: the captured variables, the result's variable, the node's variable. -/
structure GetSt (w0 : World) (k : Int) (gB gR gA gE gN base : Nat) (A : Option Addr) (n c : Nat) (w : World) (p e : Int) (ks vs : List ByteArray) (is : List Int) (K V I : Value) : Prop where
  cap : Cap w gE gB gA A n c p e
  oR : Ob w gR 52 #[.int .u8 0, .slice none 0 0, .slice none 0 0, .slice none 0 0]
  oN : Ob w gN 52 #[.int .u8 k, K, V, I]
  aK : App w base 9 1 K ks.length (ks.map sv)
  aV : App w base 9 1 V vs.length (vs.map sv)
  aI : App w base 3 1 I is.length (is.map iv)
  ord : gB < gR ∧ gR < gA ∧ gA < gE ∧ gE < gN ∧ gN < base ∧ base ≤ w.heap.size
  wb : Bl w0 w
  w0b : w0.heap.size ≤ gB
  ap : K.ownBlock = none ∨ K.ownBlock ≠ V.ownBlock
theorem node_setup (k : Int) (A : Option Addr) (n c : Nat) (w : World) :
    GetSt w k w.heap.size (w.heap.size + 1) (w.heap.size + 1 + 1) (w.heap.size + 1 + 1 + 1) (w.heap.size + 1 + 1 + 1 + 1) (w.heap.size + 1 + 1 + 1 + 1 + 1) A n c
      (((((w.alloc (.cells #[.slice A n c] 24)).alloc (.cells #[.int .u8 0, .slice none 0 0, .slice none 0 0, .slice none 0 0] 52)).alloc (.cells #[.int .i64 0] 3)).alloc (.cells #[.int .i64 0] 28)).alloc (.cells #[.int .u8 k, .slice none 0 0, .slice none 0 0, .slice none 0 0] 52))
      0 0 [] [] [] (.slice none 0 0) (.slice none 0 0) (.slice none 0 0) := by
  have o1 := Ob.new w #[.slice A n c] 24
  generalize h1 : w.alloc (.cells #[.slice A n c] 24) = w1 at o1 ⊢
  have s1 : w1.heap.size = w.heap.size + 1 := by rw [← h1]; simp
  have o2 := Ob.new w1 #[.int .u8 0, .slice none 0 0, .slice none 0 0, .slice none 0 0] 52
  have o1 := o1.bl ((Bl.refl _).alloc (.cells #[.int .u8 0, .slice none 0 0, .slice none 0 0, .slice none 0 0] 52))
  generalize h2 : w1.alloc (.cells #[.int .u8 0, .slice none 0 0, .slice none 0 0, .slice none 0 0] 52) = w2 at o1 o2 ⊢
  have s2 : w2.heap.size = w.heap.size + 1 + 1 := by rw [← h2]; simp [s1]
  have o3 := Ob.new w2 #[.int .i64 0] 3
  have o1 := o1.bl ((Bl.refl _).alloc (.cells #[.int .i64 0] 3))
  have o2 := o2.bl ((Bl.refl _).alloc (.cells #[.int .i64 0] 3))
  generalize h3 : w2.alloc (.cells #[.int .i64 0] 3) = w3 at o1 o2 o3 ⊢
  have s3 : w3.heap.size = w.heap.size + 1 + 1 + 1 := by rw [← h3]; simp [s2]
  have o4 := Ob.new w3 #[.int .i64 0] 28
  have o1 := o1.bl ((Bl.refl _).alloc (.cells #[.int .i64 0] 28))
  have o2 := o2.bl ((Bl.refl _).alloc (.cells #[.int .i64 0] 28))
  have o3 := o3.bl ((Bl.refl _).alloc (.cells #[.int .i64 0] 28))
  generalize h4 : w3.alloc (.cells #[.int .i64 0] 28) = w4 at o1 o2 o3 o4 ⊢
  have s4 : w4.heap.size = w.heap.size + 1 + 1 + 1 + 1 := by rw [← h4]; simp [s3]
  have hb := (Bl.refl w4).alloc (.cells #[.int .u8 k, .slice none 0 0, .slice none 0 0, .slice none 0 0] 52)
  have o5 := Ob.new w4 #[.int .u8 k, .slice none 0 0, .slice none 0 0, .slice none 0 0] 52
  rw [s1] at o2
  rw [s2] at o3
  rw [s3] at o4
  rw [s4] at o5
  refine ⟨⟨o4.bl hb, o1.bl hb, o3.bl hb, by omega, by omega, by omega⟩, o2.bl hb, o5, App.nil _ _ _ _, App.nil _ _ _ _, App.nil _ _ _ _, ⟨by omega, by omega, by omega, by omega, by omega, by simp [s4]⟩, ?_, Nat.le_refl _, .inl rfl⟩
  rw [← h4, ← h3, ← h2, ← h1]
  exact (((((Bl.refl w).alloc _).alloc _).alloc _).alloc _).alloc _
theorem GetSt.bl {w0 : World} {k : Int} {gB gR gA gE gN base : Nat} {A : Option Addr} {n c : Nat} {w w' : World} {p e : Int} {ks vs : List ByteArray} {is : List Int} {K V I : Value} (h : GetSt w0 k gB gR gA gE gN base A n c w p e ks vs is K V I) (hb : Bl w w') : GetSt w0 k gB gR gA gE gN base A n c w' p e ks vs is K V I :=
  ⟨h.cap.bl hb, h.oR.bl hb, h.oN.bl hb, h.aK.bl hb, h.aV.bl hb, h.aI.bl hb, ⟨h.ord.1, h.ord.2.1, h.ord.2.2.1, h.ord.2.2.2.1, h.ord.2.2.2.2.1, Nat.le_trans h.ord.2.2.2.2.2 hb.size⟩, h.wb.trans hb, h.w0b, h.ap⟩
/-- Behind a closure's call. -/
theorem GetSt.call {w0 : World} {k : Int} {gB gR gA gE gN base : Nat} {A : Option Addr} {n c : Nat} {w w' : World} {p e p' e' : Int} {ks vs : List ByteArray} {is : List Int} {K V I : Value} (h : GetSt w0 k gB gR gA gE gN base A n c w p e ks vs is K V I) (hc : Cap w' gE gB gA A n c p' e') (hw : Ch [gE, gA] w w') : GetSt w0 k gB gR gA gE gN base A n c w' p' e' ks vs is K V I := by
  obtain ⟨h1, h2, h3, h4, h5, h6⟩ := h.ord
  have key : ∀ {T : TypeId} {v : Value} {m : Nat} {cs : List Value}, App w base T 1 v m cs → App w' base T 1 v m cs := fun a => a.ch hw (fun g hg e => by have := a.ge g e; simp at hg; omega)
  exact ⟨hc, h.oR.ch hw (by simp; omega), h.oN.ch hw (by simp; omega), key h.aK, key h.aV, key h.aI, ⟨h1, h2, h3, h4, h5, Nat.le_trans h6 hw.size⟩, ((h.wb.ch [gE, gA]).same hw).bl (by have := h.w0b; simp; omega), h.w0b, h.ap⟩
theorem app_ne {w : World} {b1 b2 : Nat} {e e' : TypeId} {s s' n n' : Nat} {v v' : Value} {cs cs' : List Value} (h : App w b1 e s v n cs) (h' : App w b2 e' s' v' n' cs') (hne : e ≠ e') : v.ownBlock = none ∨ v.ownBlock ≠ v'.ownBlock := by
  rcases h.is with ⟨rfl, _⟩ | ⟨g, o, cap, cur, rfl, _, hg, _⟩
  · exact .inl rfl
  · right
    rcases h'.is with ⟨rfl, _⟩ | ⟨g', o', cap', cur', rfl, _, hg', _⟩
    · simp [Value.ownBlock]
    · intro e1
      simp [Value.ownBlock] at e1
      subst e1
      rw [hg] at hg'
      injection hg' with hg'
      injection hg' with _ ht
      exact hne ht
theorem ne_swap {a b : Option Nat} (h : a = none ∨ a ≠ b) : b = none ∨ b ≠ a := by
  cases b with
  | none => exact .inl rfl
  | some x =>
    right
    rcases h with h | h
    · rw [h]; simp
    · exact fun e => h e.symm
/-- What an append to one of the three leaves, and the store of it. -/
theorem GetSt.grow {w0 : World} {k : Int} {gB gR gA gE gN base : Nat} {A : Option Addr} {n c : Nat} {w w' : World} {p e : Int} {ks vs : List ByteArray} {is : List Int} {K V I X : Value} (h : GetSt w0 k gB gR gA gE gN base A n c w p e ks vs is K V I) (hg : w.grownBy w' X.ownBlock) (hX : ∀ g, X.ownBlock = some g → base ≤ g) (i : Nat) (u : Value) :
    Cap (w'.setCell ⟨gN, i, none⟩ u) gE gB gA A n c p e ∧ Ob (w'.setCell ⟨gN, i, none⟩ u) gR 52 #[.int .u8 0, .slice none 0 0, .slice none 0 0, .slice none 0 0] ∧ Ob w' gN 52 #[.int .u8 k, K, V, I] ∧ (gB < gR ∧ gR < gA ∧ gA < gE ∧ gE < gN ∧ gN < base ∧ base ≤ (w'.setCell ⟨gN, i, none⟩ u).heap.size) ∧ Bl w0 (w'.setCell ⟨gN, i, none⟩ u) ∧
    (∀ {T : TypeId} {v : Value} {m : Nat} {cs : List Value}, App w base T 1 v m cs → (v.ownBlock = none ∨ v.ownBlock ≠ X.ownBlock) → App (w'.setCell ⟨gN, i, none⟩ u) base T 1 v m cs) := by
  obtain ⟨h1, h2, h3, h4, h5, h6⟩ := h.ord
  have hch := Ch.grown hg
  have nin : ∀ g, g < base → g ∉ X.ownBlock.toList := fun g hlt hm => by
    simp at hm
    have := hX g hm
    omega
  have hp := Ch.put w' gN i u
  refine ⟨⟨(h.cap.oE.ch hch (nin _ (by omega))).ch hp (by simp; omega), (h.cap.oB.ch hch (nin _ (by omega))).ch hp (by simp; omega), (h.cap.oA.ch hch (nin _ (by omega))).ch hp (by simp; omega), h.cap.neB⟩, (h.oR.ch hch (nin _ (by omega))).ch hp (by simp; omega), h.oN.ch hch (nin _ (by omega)), ⟨h1, h2, h3, h4, h5, Nat.le_trans h6 (Nat.le_trans hch.size hp.size)⟩, (h.wb.grown hg (fun q hq => by have := hX q hq; have := h.w0b; omega)).setCell (by have := h.w0b; show w0.heap.size ≤ gN; omega) u, ?_⟩
  intro T v m cs ha hne
  exact (ha.kept hg hne).ch hp (fun g hm e => by have := ha.ge g e; simp at hm; omega)
theorem GetSt.keys {w0 : World} {k : Int} {gB gR gA gE gN base : Nat} {A : Option Addr} {n c : Nat} {w w' : World} {p e : Int} {ks vs : List ByteArray} {is : List Int} {K V I K' : Value} {x : ByteArray} (h : GetSt w0 k gB gR gA gE gN base A n c w p e ks vs is K V I)
    (ha : App w' base 9 1 K' (ks.length + 1) (ks.map sv ++ [sv x])) (hg : w.grownBy w' K.ownBlock) (hat : K'.ownBlock = K.ownBlock ∨ K'.ownBlock = some w.heap.size) : GetSt w0 k gB gR gA gE gN base A n c (w'.setCell ⟨gN, 1, none⟩ K') p e (ks ++ [x]) vs is K' V I := by
  obtain ⟨r1, r2, r3, r4, rb, r5⟩ := h.grow hg h.aK.ge 1 K'
  refine ⟨r1, r2, by have := r3.set 1 K'; simpa using this, ?_, r5 h.aV (ne_swap h.ap), r5 h.aI (ne_swap (app_ne h.aK h.aI (by decide))), r4, rb, h.w0b, ?_⟩
  · have := ha.ch (Ch.put w' gN 1 K') (fun g hm e => by have := ha.ge g e; have := r4; simp at hm; omega)
    simpa using this
  · rcases hat with e1 | e1
    · rw [e1]; exact h.ap
    · right; rw [e1]; intro e2; have := (h.aV.lt _ e2.symm).2; omega
theorem GetSt.vals {w0 : World} {k : Int} {gB gR gA gE gN base : Nat} {A : Option Addr} {n c : Nat} {w w' : World} {p e : Int} {ks vs : List ByteArray} {is : List Int} {K V I V' : Value} {x : ByteArray} (h : GetSt w0 k gB gR gA gE gN base A n c w p e ks vs is K V I)
    (ha : App w' base 9 1 V' (vs.length + 1) (vs.map sv ++ [sv x])) (hg : w.grownBy w' V.ownBlock) (hat : V'.ownBlock = V.ownBlock ∨ V'.ownBlock = some w.heap.size) : GetSt w0 k gB gR gA gE gN base A n c (w'.setCell ⟨gN, 2, none⟩ V') p e ks (vs ++ [x]) is K V' I := by
  obtain ⟨r1, r2, r3, r4, rb, r5⟩ := h.grow hg h.aV.ge 2 V'
  refine ⟨r1, r2, by have := r3.set 2 V'; simpa using this, r5 h.aK h.ap, ?_, r5 h.aI (ne_swap (app_ne h.aV h.aI (by decide))), r4, rb, h.w0b, ?_⟩
  · have := ha.ch (Ch.put w' gN 2 V') (fun g hm e => by have := ha.ge g e; have := r4; simp at hm; omega)
    simpa using this
  · rcases hat with e1 | e1
    · rw [e1]; exact h.ap
    · rcases hk : K.ownBlock with _ | g
      · exact .inl rfl
      · right; rw [e1]; intro e2; simp at e2; have := (h.aK.lt g hk).2; omega
theorem GetSt.kids {w0 : World} {k : Int} {gB gR gA gE gN base : Nat} {A : Option Addr} {n c : Nat} {w w' : World} {p e : Int} {ks vs : List ByteArray} {is : List Int} {K V I I' : Value} {x : Int} (h : GetSt w0 k gB gR gA gE gN base A n c w p e ks vs is K V I)
    (ha : App w' base 3 1 I' (is.length + 1) (is.map iv ++ [iv x])) (hg : w.grownBy w' I.ownBlock) : GetSt w0 k gB gR gA gE gN base A n c (w'.setCell ⟨gN, 3, none⟩ I') p e ks vs (is ++ [x]) K V I' := by
  obtain ⟨r1, r2, r3, r4, rb, r5⟩ := h.grow hg h.aI.ge 3 I'
  refine ⟨r1, r2, by have := r3.set 3 I'; simpa using this, r5 h.aK (app_ne h.aK h.aI (by decide)), r5 h.aV (app_ne h.aV h.aI (by decide)), ?_, r4, rb, h.w0b, h.ap⟩
  have := ha.ch (Ch.put w' gN 3 I') (fun g hm e => by have := ha.ge g e; have := r4; simp at hm; omega)
  simpa using this
/-- The loop from a state on, with its error. -/
def ndGoes (k : Int) (b : List UInt8) (m : Nat) (p e : Int) (ks vs : List ByteArray) (is : List Int) : NodeR := if e ≠ 0 then nodeNo e else nodeLoop k b m p ks vs is
theorem ndNum_facts (b : List UInt8) (most p e : Int) (hm : 0 ≤ most) (hp : 0 ≤ p ∧ p ≤ b.length) : 0 ≤ (ndNum b most p e).1 ∧ (ndNum b most p e).1 ≤ most ∧ 0 ≤ (ndNum b most p e).2.1 ∧ (ndNum b most p e).2.1 ≤ b.length := by
  unfold ndNum
  split
  · simp; omega
  · rcases lebCount_or b p most with ⟨f, h, hf, _⟩ | ⟨v, m, h, _, _, hv, hml, _⟩
    · rw [h, if_neg hf]; simp; omega
    · rw [h, if_pos rfl]; simp; omega
theorem ndText_facts (b : List UInt8) (most p e : Int) (hm : 0 ≤ most) (hp : 0 ≤ p ∧ p ≤ b.length) : ((ndText b most p e).1.length : Int) ≤ most ∧ 0 ≤ (ndText b most p e).2.1 ∧ (ndText b most p e).2.1 ≤ b.length := by
  unfold ndText
  split
  · simp; omega
  · rcases lebRow_or b p most with ⟨f, h, hf, _⟩ | ⟨xs, m, h, h1, h2, h3⟩
    · rw [h, if_neg hf]; simp; omega
    · rw [h, if_pos rfl]; simp; omega
theorem ndGoes_kids (b : List UInt8) (m : Nat) (p : Int) (ks vs : List ByteArray) (is : List Int) :
    ndGoes 2 b (m + 1) p 0 ks vs is = ndGoes 2 b m (ndNum b 65535 (ndText b 40 p 0).2.1 (ndText b 40 p 0).2.2).2.1 (ndNum b 65535 (ndText b 40 p 0).2.1 (ndText b 40 p 0).2.2).2.2 (ks ++ [⟨(ndText b 40 p 0).1.toArray⟩]) vs (is ++ [(ndNum b 65535 (ndText b 40 p 0).2.1 (ndText b 40 p 0).2.2).1]) := by
  unfold ndGoes
  rw [if_neg (by simp), nodeLoop]
  rcases lebRow_or b p 40 with ⟨f, h, hf, _⟩ | ⟨xs, q, h, _⟩
  · have e1 : ndText b 40 p 0 = ([], p, f) := by unfold ndText; rw [if_neg (by simp), h, if_neg hf]
    have e2 : ndNum b 65535 p f = (0, p, f) := by unfold ndNum; rw [if_pos hf]
    rw [e1]; simp only; rw [e2, h, if_pos hf]; simp [hf]
  · have e1 : ndText b 40 p 0 = (xs, (q : Int), 0) := by unfold ndText; rw [if_neg (by simp), h, if_pos rfl]
    rw [e1, h]; simp only; rw [if_neg (by simp), if_pos trivial]
    rcases lebCount_or b q 65535 with ⟨f, h2, hf, _⟩ | ⟨v, m2, h2, _⟩
    · have e2 : ndNum b 65535 q 0 = (0, (q : Int), f) := by unfold ndNum; rw [if_neg (by simp), h2, if_neg hf]
      rw [e2, h2]; simp only; rw [if_pos hf, if_pos hf]
    · have e2 : ndNum b 65535 q 0 = ((v : Int), (m2 : Int), 0) := by unfold ndNum; rw [if_neg (by simp), h2, if_pos rfl]
      rw [e2, h2]; try simp
theorem ndGoes_vals (k : Int) (hk : k ≠ 2) (b : List UInt8) (m : Nat) (p : Int) (ks vs : List ByteArray) (is : List Int) :
    ndGoes k b (m + 1) p 0 ks vs is = ndGoes k b m (ndText b 40 (ndText b 40 p 0).2.1 (ndText b 40 p 0).2.2).2.1 (ndText b 40 (ndText b 40 p 0).2.1 (ndText b 40 p 0).2.2).2.2 (ks ++ [⟨(ndText b 40 p 0).1.toArray⟩]) (vs ++ [⟨(ndText b 40 (ndText b 40 p 0).2.1 (ndText b 40 p 0).2.2).1.toArray⟩]) is := by
  unfold ndGoes
  rw [if_neg (by simp), nodeLoop]
  rcases lebRow_or b p 40 with ⟨f, h, hf, _⟩ | ⟨xs, q, h, _⟩
  · have e1 : ndText b 40 p 0 = ([], p, f) := by unfold ndText; rw [if_neg (by simp), h, if_neg hf]
    have e2 : ndText b 40 p f = ([], p, f) := by unfold ndText; rw [if_pos hf]
    rw [e1]; simp only; rw [e2, h, if_pos hf]; simp [hf]
  · have e1 : ndText b 40 p 0 = (xs, (q : Int), 0) := by unfold ndText; rw [if_neg (by simp), h, if_pos rfl]
    rw [e1, h]; simp only; rw [if_neg (by simp), if_neg hk]
    rcases lebRow_or b q 40 with ⟨f, h2, hf, _⟩ | ⟨v, m2, h2, _⟩
    · have e2 : ndText b 40 q 0 = ([], (q : Int), f) := by unfold ndText; rw [if_neg (by simp), h2, if_neg hf]
      rw [e2, h2]; simp only; rw [if_pos hf, if_pos hf]
    · have e2 : ndText b 40 q 0 = (v, (m2 : Int), 0) := by unfold ndText; rw [if_neg (by simp), h2, if_pos rfl]
      rw [e2, h2]; try simp
theorem nodeGet_inner (b : List UInt8) : nodeGet 2 b = ndGoes 2 b (ndNum b 6 0 0).1.toNat (ndNum b 65535 (ndNum b 6 0 0).2.1 (ndNum b 6 0 0).2.2).2.1 (ndNum b 65535 (ndNum b 6 0 0).2.1 (ndNum b 6 0 0).2.2).2.2 [] [] [(ndNum b 65535 (ndNum b 6 0 0).2.1 (ndNum b 6 0 0).2.2).1] := by
  unfold ndGoes nodeGet
  rw [if_neg (by simp)]
  rcases lebCount_or b 0 6 with ⟨f, h, hf, _⟩ | ⟨v, q, h, _⟩
  · have e1 : ndNum b 6 0 0 = (0, 0, f) := by unfold ndNum; rw [if_neg (by simp), h, if_neg hf]
    have e2 : ndNum b 65535 0 f = (0, 0, f) := by unfold ndNum; rw [if_pos hf]
    rw [e1]; simp only; rw [e2, h, if_pos hf]; simp [hf]
  · have e1 : ndNum b 6 0 0 = ((v : Int), (q : Int), 0) := by unfold ndNum; rw [if_neg (by simp), h, if_pos rfl]
    rw [e1, h]; simp only; rw [if_neg (by simp), if_pos trivial]
    rcases lebCount_or b q 65535 with ⟨f, h2, hf, _⟩ | ⟨v, m2, h2, _⟩
    · have e2 : ndNum b 65535 q 0 = (0, (q : Int), f) := by unfold ndNum; rw [if_neg (by simp), h2, if_neg hf]
      rw [e2, h2]; simp only; rw [if_pos hf, if_pos hf]
    · have e2 : ndNum b 65535 q 0 = ((v : Int), (m2 : Int), 0) := by unfold ndNum; rw [if_neg (by simp), h2, if_pos rfl]
      rw [e2, h2]; try simp
theorem nodeGet_leaf (b : List UInt8) : nodeGet 1 b = ndGoes 1 b (ndNum b 6 0 0).1.toNat (ndNum b 6 0 0).2.1 (ndNum b 6 0 0).2.2 [] [] [] := by
  unfold ndGoes nodeGet
  rw [if_neg (by simp)]
  rcases lebCount_or b 0 6 with ⟨f, h, hf, _⟩ | ⟨v, q, h, _⟩
  · have e1 : ndNum b 6 0 0 = (0, 0, f) := by unfold ndNum; rw [if_neg (by simp), h, if_neg hf]
    rw [e1]; simp only; rw [h, if_pos hf, if_pos hf]
  · have e1 : ndNum b 6 0 0 = ((v : Int), (q : Int), 0) := by unfold ndNum; rw [if_neg (by simp), h, if_pos rfl]
    rw [e1, h]; simp only; rw [if_neg (by simp), if_neg (by simp), if_neg (by simp)]
end Go.Proofs.Ytedmamchfgkkfaa
/- Words that the proofs of this seat share: make as a step of a region that draws; cuts as rules; worlds in which listed blocks have changed, in chains. -/
set_option linter.unusedVariables false
set_option linter.unusedSimpArgs false
namespace Go.Proofs.Ytedmamchfgkkfaa
open Go.RowKit
theorem Ch.cellput {L : List Nat} {w w' : World} (h : Ch L w w') {g i : Nat} (hg : g ∈ L) (v : Value) : Ch L w (w'.setCell ⟨g, i, none⟩ v) := h.trans (Ch.put w' g i v) (fun m hm => by simp at hm; subst hm; exact .inl hg)
theorem Ch.newput {L : List Nat} {w w' : World} (h : Ch L w w') {g i : Nat} (hg : w.heap.size ≤ g) (v : Value) : Ch L w (w'.setCell ⟨g, i, none⟩ v) := h.trans (Ch.put w' g i v) (fun m hm => by simp at hm; subst hm; exact .inr hg)
theorem Ch.step {L : List Nat} {w w' w'' : World} (h : Ch L w w') (k : Bl w' w'') : Ch L w w'' := h.thenBl k
section
variable {P : Program} {ops : Array Oper} {o : Oper} {a : Act} {K : Act → World → Prop} {Q : Exit → Act → World → Prop} {w : World} {E : Prop}
/-- make([]T, n), as a step of a region that draws. -/
theorem step_make (hgd : o.guard = none) (t e : TypeId) (l c : Operand) (ho : o.op = .makeSlice t l c) (z : Value) (size bytes : Nat) (ht : P.underlying t = some (.slice e)) (hinfo : (P.info? e).map (fun i => (i.zero, i.size, i.bytes)) = some (some z, size, bytes))
    (n : Nat) (kl kc : IntKind) (hl : a.eval l = .int kl n) (hc : a.eval c = .int kc n) (hb : n * bytes ≤ 281474976710656) (hn : n ≤ 281474976710656) (base : Nat) (hbase : base ≤ w.heap.size)
    (h : ∀ A w', App w' base e size (.slice A n n) n (madeCells z.cells (n * size)).toList → Bl w w' → w'.heap.size = w.heap.size + 1 → (A = some ⟨w.heap.size, 0, none⟩) → K (a.put o.dst (.slice A n n)) w') : if Region.wanted o (yielded ops a.tmps) = true then Oper.wp P o a w K Q else E := by
  rw [if_pos (by simp [Region.wanted, hgd])]
  obtain ⟨i, hi, hzz⟩ := Option.map_eq_some_iff.1 hinfo
  simp only [Prod.mk.injEq] at hzz
  obtain ⟨hz, hsize, hby⟩ := hzz
  subst hsize
  subst hby
  have hr := run_make (P := P) w t e i z ht hi hz kl kc n n (by omega) (by omega) (by rw [← Int.natCast_mul, Nat.mul_comm]; exact Int.ofNat_le.2 hb) (by omega)
  simp only [Int.toNat_natCast] at hr
  unfold Oper.wp
  simp only [execOp, ho, hl, hc]
  simp [hr, Result.andThen]
  exact h _ _ (App.made w _ n hbase (Nat.le_trans hn (by decide)) (by rw [size_madeCells])) ((Bl.refl w).alloc _) (by simp) rfl
end
theorem heap_alloc_at (w : World) (o : Obj) (i : Nat) : (w.alloc o).heap[i]? = if i = w.heap.size then some o else w.heap[i]? := by show (w.heap.push o)[i]? = _; rw [Array.getElem?_push]
theorem heap_alloc_size (w : World) (o : Obj) : (w.alloc o).heap.size = w.heap.size + 1 := by simp
theorem heap_drew_at (w : World) : w.drew.heap = w.heap := rfl
/-- A block of a row's cells, nothing of it taken. -/
theorem App.fresh {w : World} {base g n : Nat} {e : TypeId} {size : Nat} {cur : Array Value} (h : w.heap[g]? = some (.cells cur e (0, 0))) (hb : base ≤ g) (hm : n ≤ maxLen) (hs : cur.size = n * size) : App w base e size (.slice (some ⟨g, 0, none⟩) n n) n cur.toList :=
  ⟨by simpa using hs, .inr ⟨g, 0, n, cur, rfl, hb, h, Nat.le_refl _, hm, by omega, by rw [List.drop_zero, List.take_of_length_le (by simpa using Nat.le_of_eq hs)]⟩⟩
section
variable {P : Program}
/-- make([]T, n) as a rule for the walk. -/
theorem make_rule (t e : TypeId) (z : Value) (size bytes : Nat) (ht : P.underlying t = some (.slice e)) (hinfo : (P.info? e).map (fun i => (i.zero, i.size, i.bytes)) = some (some z, size, bytes)) (n : Nat) (hb : n * bytes ≤ 281474976710656) (hn : n ≤ 281474976710656) (w : World) :
    (Instr.makeSlice t (.int .i64 (n : Int)) (.int .i64 (n : Int))).run P w = .ok (.slice (some ⟨w.heap.size, 0, none⟩) n n) (w.alloc (.cells (madeCells z.cells (n * size)) e)) := by
  obtain ⟨i, hi, hzz⟩ := Option.map_eq_some_iff.1 hinfo
  simp only [Prod.mk.injEq] at hzz
  obtain ⟨hz, hsize, hby⟩ := hzz
  subst hsize
  subst hby
  have hr := run_make (P := P) w t e i z ht hi hz .i64 .i64 n n (by omega) (by omega) (by rw [← Int.natCast_mul, Nat.mul_comm]; exact Int.ofNat_le.2 hb) (by omega)
  simpa only [Int.toNat_natCast] using hr
/-- x[:k:k], x[k:], x[:k] as rules for the walk. -/
theorem cut_hm (t e : TypeId) (size : Nat) (ht : P.underlying t = some (.slice e)) (hsz : (P.info? e).map (·.size) = some size) (A : Option Addr) (n c k : Nat) (hk : k ≤ c) (w : World) :
    (Instr.sliceAt t (.slice A n c) none (some (.int .i64 (k : Int))) (some (.int .i64 (k : Int)))).run P w = .ok (.slice A k k) w := by
  have h := run_cut (P := P) (w := w) t e size ht hsz A n c none (some (.int .i64 (k : Int))) (some (.int .i64 (k : Int))) 0 k k (by have := bounds_hm (P := P) (w := w) n c .i64 .i64 (k : Int) (k : Int) (by omega) (by omega) (by omega); simpa using this)
  rw [cutAddr_zero] at h
  simpa using h
theorem cut_l (t e : TypeId) (size : Nat) (ht : P.underlying t = some (.slice e)) (hsz : (P.info? e).map (·.size) = some size) (A : Option Addr) (n c k : Nat) (hk : k ≤ n) (w : World) :
    (Instr.sliceAt t (.slice A n c) (some (.int .i64 (k : Int))) none none).run P w = .ok (.slice (cutAddr A size k c) (n - k) (c - k)) w :=
  run_cut (P := P) (w := w) t e size ht hsz A n c _ _ _ k n c (bl_nat n c .i64 k hk)
theorem cut_h (t e : TypeId) (size : Nat) (ht : P.underlying t = some (.slice e)) (hsz : (P.info? e).map (·.size) = some size) (A : Option Addr) (n c k : Nat) (hk : k ≤ c) (w : World) :
    (Instr.sliceAt t (.slice A n c) none (some (.int .i64 (k : Int))) none).run P w = .ok (.slice A k c) w := by
  have h := run_cut (P := P) (w := w) t e size ht hsz A n c none (some (.int .i64 (k : Int))) none 0 k c (bh_nat n c .i64 k hk)
  rw [cutAddr_zero] at h
  simpa using h
end
end Go.Proofs.Ytedmamchfgkkfaa
/- Layer 18 (node) and its reference walked: nodes of their own memory. -/
set_option linter.unusedVariables false
set_option linter.unusedSimpArgs false
namespace Go.Proofs.Ytedmamchfgkkfaa
open Go.RowKit
set_option maxRecDepth 100000
set_option maxHeartbeats 8000000

/-- A list of the call's own is handed back. -/
def RetTexts (xs : List ByteArray) (w : World) (e : Ending) (w' : World) : Prop := ∃ A c, e = .returned (.slice A xs.length c) ∧ xs.length ≤ c ∧ App w' w.heap.size 9 1 (.slice A xs.length c) xs.length (xs.map sv) ∧ Bl w w'
def RetInts (xs : List Int) (w : World) (e : Ending) (w' : World) : Prop := ∃ A c, e = .returned (.slice A xs.length c) ∧ xs.length ≤ c ∧ App w' w.heap.size 3 1 (.slice A xs.length c) xs.length (xs.map iv) ∧ Bl w w'
theorem ref_texts (A : Option Addr) (c : Nat) (xs : List ByteArray) (w : World) (hl : xs.length * 16 ≤ 140737488355328) (hr : Rd w A (xs.map sv)) : Calls Try.prog 87 #[.slice A xs.length c] w (RetTexts xs w) := by
  have HR := Lib.hid hr
  clear hr
  go_enter Try.func87, Try.ntmps87
  go_wp2_with (at_builtin; go_must (refine append_row rfl _ _ 49 9 (.string .empty) 1 16 rfl Try.underlying49 Try.infoStr rfl (by decide) w.heap.size (App.nil w _ _ _) (by rfl) (by rfl) HR.out (by simp) (sv_one _) (by simp; omega) (by simp; omega) (Nat.le_refl _) ?_); intro v1 w1 hown1 hgr1 hat1)
  go_ret
  have hbl : Bl w w1 := Bl.grown (Bl.refl w) hgr1 (fun q hq => by simp [Value.ownBlock] at hq)
  rw [Nat.zero_add, List.nil_append] at hown1
  obtain ⟨A1, c1, rfl, hcc⟩ := hown1.slice
  exact ⟨A1, c1, rfl, hcc, hown1, hbl⟩
theorem ref_copyInts (A : Option Addr) (c : Nat) (xs : List Int) (w : World) (hl : xs.length * 8 ≤ 140737488355328) (hr : Rd w A (xs.map iv)) : Calls Try.prog 88 #[.slice A xs.length c] w (RetInts xs w) := by
  have HR := Lib.hid hr
  clear hr
  go_enter Try.func88, Try.ntmps88
  go_wp2_with (at_builtin; go_must (refine append_row rfl _ _ 50 3 (.int .i64 0) 1 8 rfl Try.underlying50 Try.infoInt rfl (by decide) w.heap.size (App.nil w _ _ _) (by rfl) (by rfl) HR.out (by simp) (iv_one _) (by simp; omega) (by simp; omega) (Nat.le_refl _) ?_); intro v1 w1 hown1 hgr1 hat1)
  go_ret
  have hbl : Bl w w1 := Bl.grown (Bl.refl w) hgr1 (fun q hq => by simp [Value.ownBlock] at hq)
  rw [Nat.zero_add, List.nil_append] at hown1
  obtain ⟨A1, c1, rfl, hcc⟩ := hown1.slice
  exact ⟨A1, c1, rfl, hcc, hown1, hbl⟩

/-- A node of the call's own is handed back. -/
def RetOf (k : Int) (keys vals : List ByteArray) (kids : List Int) (w : World) (e : Ending) (w' : World) : Prop :=
  ∃ A c B d I ci, e = .returned (nodeV k A keys.length c B vals.length d I kids.length ci) ∧ App w' w.heap.size 9 1 (.slice A keys.length c) keys.length (keys.map sv) ∧ App w' w.heap.size 9 1 (.slice B vals.length d) vals.length (vals.map sv) ∧ App w' w.heap.size 3 1 (.slice I kids.length ci) kids.length (kids.map iv) ∧ Bl w w' ∧ ((Value.slice A keys.length c).ownBlock = none ∨ (Value.slice A keys.length c).ownBlock ≠ (Value.slice B vals.length d).ownBlock)
/-- .. whose room is its length. -/
def RetFit (k : Int) (keys vals : List ByteArray) (kids : List Int) (w : World) (e : Ending) (w' : World) : Prop :=
  ∃ A B I, e = .returned (nodeV k A keys.length keys.length B vals.length vals.length I kids.length kids.length) ∧ App w' w.heap.size 9 1 (.slice A keys.length keys.length) keys.length (keys.map sv) ∧ App w' w.heap.size 9 1 (.slice B vals.length vals.length) vals.length (vals.map sv) ∧ App w' w.heap.size 3 1 (.slice I kids.length kids.length) kids.length (kids.map iv) ∧ Bl w w' ∧ ((Value.slice A keys.length keys.length).ownBlock = none ∨ (Value.slice A keys.length keys.length).ownBlock ≠ (Value.slice B vals.length vals.length).ownBlock)

theorem ref_nodeCopy (k : Int) (A B I : Option Addr) (keys vals : List ByteArray) (kids : List Int) (c d ci : Nat) (w : World) (hk : keys.length * 16 ≤ 140737488355328) (hv : vals.length * 16 ≤ 140737488355328) (hn : kids.length * 8 ≤ 140737488355328)
    (rk : Rd w A (keys.map sv)) (rv : Rd w B (vals.map sv)) (rn : Rd w I (kids.map iv)) :
    Calls Try.prog 46 #[nodeV k A keys.length c B vals.length d I kids.length ci] w (RetOf k keys vals kids w) := by
  have RK := Lib.hid rk
  have RV := Lib.hid rv
  have RN := Lib.hid rn
  have o1 := Ob.new w #[.int .u8 k, .slice A keys.length c, .slice B vals.length d, .slice I kids.length ci] 52
  have o2 := Ob.new (w.alloc (.cells #[.int .u8 k, .slice A keys.length c, .slice B vals.length d, .slice I kids.length ci] 52)) #[.int .u8 0, .slice none 0 0, .slice none 0 0, .slice none 0 0] 52
  have o1 := o1.bl ((Bl.refl _).alloc (.cells #[.int .u8 0, .slice none 0 0, .slice none 0 0, .slice none 0 0] 52))
  have HW := Lib.hid (((Bl.refl w).alloc (.cells #[.int .u8 k, .slice A keys.length c, .slice B vals.length d, .slice I kids.length ci] 52)).alloc (.cells #[.int .u8 0, .slice none 0 0, .slice none 0 0, .slice none 0 0] 52))
  rw [show (w.alloc (.cells #[.int .u8 k, .slice A keys.length c, .slice B vals.length d, .slice I kids.length ci] 52)).heap.size = w.heap.size + 1 by simp] at o2
  have HO := Lib.hid o1
  have HZ := Lib.hid o2
  clear rk rv rn o1 o2
  go_enter Try.func46, Try.ntmps46
  go_wp2_with fail
  generalize (w.alloc (.cells #[.int .u8 k, .slice A keys.length c, .slice B vals.length d, .slice I kids.length ci] 52)).alloc (.cells #[.int .u8 0, .slice none 0 0, .slice none 0 0, .slice none 0 0] 52) = u at HO HZ HW ⊢
  have HK : Hid (∀ w' : World, Ch [w.heap.size + 1] u w' → w'.cell? ⟨w.heap.size, 0, none⟩ = some (.int .u8 k) ∧ w'.cell? ⟨w.heap.size, 1, none⟩ = some (.slice A keys.length c) ∧ w'.cell? ⟨w.heap.size, 2, none⟩ = some (.slice B vals.length d) ∧ w'.cell? ⟨w.heap.size, 3, none⟩ = some (.slice I kids.length ci) ∧ Ch [w.heap.size + 1] u w') := fun w' h => by
    obtain ⟨a0, a1, a2, a3, _⟩ := Ob.all4 (HO.out.ch h (by simp))
    exact ⟨a0, a1, a2, a3, h⟩
  have RK1 := Lib.hid (RK.out.bl HW.out)
  have RV1 := Lib.hid (RV.out.bl HW.out)
  have RN1 := Lib.hid (RN.out.bl HW.out)
  go_region_held3 (fun w' => w'.cell? ⟨w.heap.size, 0, none⟩ = some (.int .u8 k) ∧ w'.cell? ⟨w.heap.size, 1, none⟩ = some (.slice A keys.length c) ∧ w'.cell? ⟨w.heap.size, 2, none⟩ = some (.slice B vals.length d) ∧ w'.cell? ⟨w.heap.size, 3, none⟩ = some (.slice I kids.length ci) ∧ Ch [w.heap.size + 1] u w')
    (exact HK.out _ (by (focus ((repeat (first | with_reducible assumption | with_reducible exact Ch.refl _ _ | with_reducible refine Ch.drew ?_ | with_reducible refine Ch.drewN ?_ _ | with_reducible refine Ch.alloc ?_ _ | with_reducible refine Ch.cellput ?_ (by simp) _ | (with_reducible refine Ch.same ?_ (by with_reducible assumption)) | (with_reducible refine Ch.step ?_ (by with_reducible assumption)))); done))))
    (first
      | (go_at_call 87; (with_reducible refine (ref_texts A c keys _ hk (Rd.bl RK1.out (by (focus ((repeat (first | with_reducible assumption | exact Bl.refl _ | refine Bl.drew ?_ | refine Bl.drewN ?_ _ | refine Bl.alloc ?_ _ | (refine Bl.trans ?_ (by with_reducible assumption)))); done))))).mono ?_); rintro e w3 ⟨A3, c3, rfl, hc3, hown3, hbl3⟩)
      | (go_at_call 87; (with_reducible refine (ref_texts B d vals _ hv (Rd.bl RV1.out (by (focus ((repeat (first | with_reducible assumption | exact Bl.refl _ | refine Bl.drew ?_ | refine Bl.drewN ?_ _ | refine Bl.alloc ?_ _ | (refine Bl.trans ?_ (by with_reducible assumption)))); done))))).mono ?_); rintro e w4 ⟨A4, c4, rfl, hc4, hown4, hbl4⟩)
      | (go_at_call 88; (with_reducible refine (ref_copyInts I ci kids _ hn (Rd.bl RN1.out (by (focus ((repeat (first | with_reducible assumption | exact Bl.refl _ | refine Bl.drew ?_ | refine Bl.drewN ?_ _ | refine Bl.alloc ?_ _ | (refine Bl.trans ?_ (by with_reducible assumption)))); done))))).mono ?_); rintro e w5 ⟨A5, c5, rfl, hc5, hown5, hbl5⟩; have hz5 : Bl u w5 := (by (focus ((repeat (first | with_reducible assumption | exact Bl.refl _ | refine Bl.drew ?_ | refine Bl.drewN ?_ _ | refine Bl.alloc ?_ _ | (refine Bl.trans ?_ (by with_reducible assumption)))); done))); obtain ⟨z0, z1, z2, z3, f0, f1, f2, f3⟩ := Ob.all4 (HZ.out.bl hz5)))
  go_wp2_with fail
  have hch := ((HZ.out.bl hz5).set4 (.int .u8 k) (.slice A3 keys.length c3) (.slice A4 vals.length c4) (.slice A5 kids.length c5)).2
  refine bodyPost_ret (v := nodeV k A3 keys.length c3 A4 vals.length c4 A5 kids.length c5) (results_c rfl _ _ ((HZ.out.bl hz5).set4 _ _ _ _).1 rfl Try.underlying52 rfl Try.sizeNode) rfl ?_
  have s3 : w.heap.size + 2 ≤ u.drew.heap.size := by have := HZ.out.lt; simp; omega
  have s4 : u.drew.heap.size ≤ w3.heap.size := hbl3.size
  have s5 : w3.heap.size ≤ w4.heap.size := hbl4.size
  have key : ∀ {T : TypeId} {v : Value} {m bb : Nat} {cs : List Value}, App w5 bb T 1 v m cs → w.heap.size + 2 ≤ bb → App _ w.heap.size T 1 v m cs := fun a hb => (a.ch hch (fun g hg e => by have := a.ge g e; simp at hg; omega)).mono (by omega)
  refine ⟨A3, c3, A4, c4, A5, c5, rfl, key (hown3.bl (hbl4.trans hbl5)) (by omega), key (hown4.bl hbl5) (by omega), key hown5 (by omega), ((HW.out.trans hz5).ch [w.heap.size + 1]).same hch |>.bl (by simp), ?_⟩
  rcases hq : (Value.slice A3 keys.length c3).ownBlock with _ | g
  · exact .inl rfl
  · right
    intro e
    have h1 := (hown3.lt g hq).2
    have h2 := (hown4.lt g e.symm).1
    omega

theorem copy_all {P : Program} {w : World} {base n : Nat} {e : TypeId} {v : Value} {ds cs : List Value} (h : App w base e 1 v n (cs.take n ++ ds.drop cs.length)) (hl : cs.length = n) (hd : ds.length = n) : App w base e 1 v n cs := by
  rw [List.take_of_length_le (by omega), List.drop_eq_nil_of_le (by omega), List.append_nil] at h
  exact h
theorem made_len (z : Value) (n : Nat) : (madeCells z.cells (n * z.cells.size)).toList.length = n * z.cells.size := by simp [size_madeCells]
theorem Try.sizeStr : (Try.prog.info? 9).map (·.size) = some 1 := by kernel_rfl
theorem node_own (k : Int) (A B I : Option Addr) (keys vals : List ByteArray) (kids : List Int) (c d ci : Nat) (w : World) (hk : keys.length * 16 ≤ 140737488355328) (hv : vals.length * 16 ≤ 140737488355328) (hn : kids.length * 8 ≤ 140737488355328)
    (rk : Rd w A (keys.map sv)) (rv : Rd w B (vals.map sv)) (rn : Rd w I (kids.map iv)) :
    Calls Try.prog 89 #[nodeV k A keys.length c B vals.length d I kids.length ci] w (RetFit k keys vals kids w) := by
  have RK := Lib.hid rk
  have RV := Lib.hid rv
  have RN := Lib.hid rn
  have o1 := Ob.new w #[.int .u8 k, .slice A keys.length c, .slice B vals.length d, .slice I kids.length ci] 52
  have o2 := Ob.new (w.alloc (.cells #[.int .u8 k, .slice A keys.length c, .slice B vals.length d, .slice I kids.length ci] 52)) #[.int .u8 0, .slice none 0 0, .slice none 0 0, .slice none 0 0] 52
  have o1 := o1.bl ((Bl.refl _).alloc (.cells #[.int .u8 0, .slice none 0 0, .slice none 0 0, .slice none 0 0] 52))
  have HW := Lib.hid (((Bl.refl w).alloc (.cells #[.int .u8 k, .slice A keys.length c, .slice B vals.length d, .slice I kids.length ci] 52)).alloc (.cells #[.int .u8 0, .slice none 0 0, .slice none 0 0, .slice none 0 0] 52))
  rw [show (w.alloc (.cells #[.int .u8 k, .slice A keys.length c, .slice B vals.length d, .slice I kids.length ci] 52)).heap.size = w.heap.size + 1 by simp] at o2
  have HO := Lib.hid o1
  have HZ := Lib.hid o2
  clear rk rv rn o1 o2
  go_enter Try.func89, Try.ntmps89
  go_wp2_with fail
  generalize (w.alloc (.cells #[.int .u8 k, .slice A keys.length c, .slice B vals.length d, .slice I kids.length ci] 52)).alloc (.cells #[.int .u8 0, .slice none 0 0, .slice none 0 0, .slice none 0 0] 52) = u at HO HZ HW ⊢
  have HK : Hid (∀ w' : World, Bl u w' → w'.cell? ⟨w.heap.size, 0, none⟩ = some (.int .u8 k) ∧ w'.cell? ⟨w.heap.size, 1, none⟩ = some (.slice A keys.length c) ∧ w'.cell? ⟨w.heap.size, 2, none⟩ = some (.slice B vals.length d) ∧ w'.cell? ⟨w.heap.size, 3, none⟩ = some (.slice I kids.length ci) ∧ Bl u w') := fun w' h => by
    obtain ⟨a0, a1, a2, a3, _⟩ := Ob.all4 (HO.out.bl h)
    exact ⟨a0, a1, a2, a3, h⟩
  go_cut [3, 9, 13, 17] (fun s sa sb sc wx => Hid (∃ (g : Nat) (A' B' I' : Option Addr) (xs ys zs : List Value), s = .pointer (some ⟨g, 0, none⟩) ∧ sa = .slice A' keys.length keys.length ∧ sb = .slice B' vals.length vals.length ∧ sc = .slice I' kids.length kids.length ∧ u.heap.size ≤ g ∧ Ob wx g 52 #[.int .u8 k, .slice A' keys.length keys.length, .slice B' vals.length vals.length, .slice I' kids.length kids.length] ∧
    App wx u.heap.size 9 1 (.slice A' keys.length keys.length) keys.length xs ∧ App wx u.heap.size 9 1 (.slice B' vals.length vals.length) vals.length ys ∧ App wx u.heap.size 3 1 (.slice I' kids.length kids.length) kids.length zs ∧ Bl u wx ∧
    ((Value.slice A' keys.length keys.length).ownBlock = none ∨ (Value.slice A' keys.length keys.length).ownBlock ≠ (Value.slice B' vals.length vals.length).ownBlock)))
  case first =>
    have m1 := make_rule (P := Try.prog) 49 9 (.string .empty) 1 16 Try.underlying49 Try.infoStr keys.length (by omega) (by omega)
    have m2 := make_rule (P := Try.prog) 49 9 (.string .empty) 1 16 Try.underlying49 Try.infoStr vals.length (by omega) (by omega)
    have m3 := make_rule (P := Try.prog) 50 3 (.int .i64 0) 1 8 Try.underlying50 Try.infoInt kids.length (by omega) (by omega)
    generalize hz1 : madeCells (Value.string .empty).cells (keys.length * 1) = x1 at m1
    generalize hz2 : madeCells (Value.string .empty).cells (vals.length * 1) = x2 at m2
    generalize hz3 : madeCells (Value.int .i64 0).cells (kids.length * 1) = x3 at m3
    have HS1 := Lib.hid (show x1.size = keys.length * 1 by rw [← hz1, size_madeCells])
    have HS2 := Lib.hid (show x2.size = vals.length * 1 by rw [← hz2, size_madeCells])
    have HS3 := Lib.hid (show x3.size = kids.length * 1 by rw [← hz3, size_madeCells])
    have HM1 := Lib.hid (show keys.length ≤ maxLen from Nat.le_trans (show keys.length ≤ 281474976710656 by omega) (by decide))
    have HM2 := Lib.hid (show vals.length ≤ maxLen from Nat.le_trans (show vals.length ≤ 281474976710656 by omega) (by decide))
    have HM3 := Lib.hid (show kids.length ≤ maxLen from Nat.le_trans (show kids.length ≤ 281474976710656 by omega) (by decide))
    clear hz1 hz2 hz3
    go_region_held3 (fun w' => w'.cell? ⟨w.heap.size, 0, none⟩ = some (.int .u8 k) ∧ w'.cell? ⟨w.heap.size, 1, none⟩ = some (.slice A keys.length c) ∧ w'.cell? ⟨w.heap.size, 2, none⟩ = some (.slice B vals.length d) ∧ w'.cell? ⟨w.heap.size, 3, none⟩ = some (.slice I kids.length ci) ∧ Bl u w')
      (exact HK.out _ (by (focus ((repeat (first | with_reducible assumption | exact Bl.refl _ | refine Bl.drew ?_ | refine Bl.drewN ?_ _ | refine Bl.alloc ?_ _ | (refine Bl.trans ?_ (by with_reducible assumption)))); done))))
      (first
        | fail)
    all_goals
      clear m1 m2 m3
      go_wp2_with fail
      go_meet
      case rel =>
        refine ⟨_, _, _, _, x1.toList, x2.toList, x3.toList, rfl, rfl, rfl, rfl, ?_, ?_, App.fresh ?_ ?_ HM1.out HS1.out, App.fresh ?_ ?_ HM2.out HS2.out, App.fresh ?_ ?_ HM3.out HS3.out, ?_, ?_⟩
        any_goals (first | omega | (simp only [Ob, heap_drew_at, heap_alloc_at, heap_alloc_size, if_true] <;> (repeat' split) <;> first | rfl | omega))
        all_goals first | (right; intro e; simp [Value.ownBlock] at e; done) | (right; intro e; simp [Value.ownBlock] at e; omega) | (focus ((repeat (first | with_reducible assumption | exact Bl.refl _ | refine Bl.drew ?_ | refine Bl.drewN ?_ _ | refine Bl.alloc ?_ _ | (refine Bl.trans ?_ (by with_reducible assumption)))); done))
  case rest =>
    obtain ⟨g, A', B', I', xs, ys, zs, rfl, rfl, rfl, rfl, hge, hob, ha, hb, hi, hbl, hap⟩ := hcut.out
    have lx : xs.length = keys.length := by simpa using ha.len
    have ly : ys.length = vals.length := by simpa using hb.len
    have lz : zs.length = kids.length := by simpa using hi.len
    have HA := Lib.hid ha
    have HB := Lib.hid hb
    have HI := Lib.hid hi
    have HG := Lib.hid hob
    have HBL := Lib.hid hbl
    have HAP := Lib.hid hap
    obtain ⟨a0, a1, a2, a3, _⟩ := HK.out _ hbl
    obtain ⟨b0, b1, b2, b3, _⟩ := Ob.all4 hob
    have nab := ne_swap hap
    have nai := app_ne hi ha (by decide)
    have nbi := app_ne hi hb (by decide)
    have NAB := Lib.hid nab
    have NAI := Lib.hid nai
    have NBI := Lib.hid nbi
    clear ha hb hi hob hbl hap nab nai nbi
    obtain ⟨z0, z1, z2, z3, _⟩ := Ob.all4 (HZ.out.bl HBL.out)
    go_wp2_with (first
      | (refine copy_step rfl _ _ 49 49 (by rfl) 9 Try.underlying49 Try.sizeStr HA.out (by rfl) (by rfl) (cs := keys.map sv) (by simp) (RK.out.bl (HW.out.trans HBL.out)) (sv_one _) ?_; intro w1 hown1 hgr1 hsz1; have hA1 := copy_all (P := Try.prog) (cs := keys.map sv) (by simpa using hown1) (by simp) lx; have hbl1 := HBL.out.grown hgr1 HA.out.ge; have hG1 := HG.out.ch (Ch.grown hgr1) (by intro hm; simp at hm; exact HG.out.app HA.out (by decide) hm); have hB1 := HB.out.kept hgr1 NAB.out; have hI1 := HI.out.kept hgr1 NAI.out; clear hown1 hgr1 a0 a1 a2 a3 b0 b1 b2 b3; obtain ⟨a0, a1, a2, a3, _⟩ := HK.out _ hbl1; obtain ⟨b0, b1, b2, b3, _⟩ := Ob.all4 hG1; have HA1 := Lib.hid hA1; have HB1 := Lib.hid hB1; have HI1 := Lib.hid hI1; have HG1 := Lib.hid hG1; have HBL1 := Lib.hid hbl1; clear hA1 hB1 hI1 hG1 hbl1)
      | (refine copy_step rfl _ _ 49 49 (by rfl) 9 Try.underlying49 Try.sizeStr HB1.out (by rfl) (by rfl) (cs := vals.map sv) (by simp) (RV.out.bl (HW.out.trans HBL1.out)) (sv_one _) ?_; intro w2 hown2 hgr2 hsz2; have hB2 := copy_all (P := Try.prog) (cs := vals.map sv) (by simpa using hown2) (by simp) ly; have hbl2 := HBL1.out.grown hgr2 HB1.out.ge; have hG2 := HG1.out.ch (Ch.grown hgr2) (by intro hm; simp at hm; exact HG1.out.app HB1.out (by decide) hm); have hA2 := HA1.out.kept hgr2 HAP.out; have hI2 := HI1.out.kept hgr2 NBI.out; clear hown2 hgr2 a0 a1 a2 a3 b0 b1 b2 b3; obtain ⟨a0, a1, a2, a3, _⟩ := HK.out _ hbl2; obtain ⟨b0, b1, b2, b3, _⟩ := Ob.all4 hG2; have HA2 := Lib.hid hA2; have HB2 := Lib.hid hB2; have HI2 := Lib.hid hI2; have HG2 := Lib.hid hG2; have HBL2 := Lib.hid hbl2; clear hA2 hB2 hI2 hG2 hbl2)
      | (refine copy_step rfl _ _ 50 50 (by rfl) 3 Try.underlying50 Try.sizeInt HI2.out (by rfl) (by rfl) (cs := kids.map iv) (by simp) (RN.out.bl (HW.out.trans HBL2.out)) (iv_one _) ?_; intro w3 hown3 hgr3 hsz3; have hI3 := copy_all (P := Try.prog) (cs := kids.map iv) (by simpa using hown3) (by simp) lz; have hbl3 := HBL2.out.grown hgr3 HI2.out.ge; have hG3 := HG2.out.ch (Ch.grown hgr3) (by intro hm; simp at hm; exact HG2.out.app HI2.out (by decide) hm); have hA3 := HA2.out.kept hgr3 (ne_swap NAI.out); have hB3 := HB2.out.kept hgr3 (ne_swap NBI.out); clear hown3 hgr3 a0 a1 a2 a3 b0 b1 b2 b3; obtain ⟨a0, a1, a2, a3, _⟩ := HK.out _ hbl3; obtain ⟨b0, b1, b2, b3, _⟩ := Ob.all4 hG3; have HA3 := Lib.hid hA3; have HB3 := Lib.hid hB3; have HI3 := Lib.hid hI3; have HG3 := Lib.hid hG3; obtain ⟨z0, z1, z2, z3, f0, f1, f2, f3⟩ := Ob.all4 (HZ.out.bl hbl3); have HBL3 := Lib.hid hbl3; clear hA3 hB3 hI3 hG3 hbl3))
    have hz := HZ.out.bl HBL3.out
    have hch := (hz.set4 (.int .u8 k) (.slice A' keys.length keys.length) (.slice B' vals.length vals.length) (.slice I' kids.length kids.length)).2
    refine bodyPost_ret (v := nodeV k A' keys.length keys.length B' vals.length vals.length I' kids.length kids.length) (results_c rfl _ _ (hz.set4 _ _ _ _).1 rfl Try.underlying52 rfl Try.sizeNode) rfl ?_
    have hsz := HW.out.size
    have hlt := HZ.out.lt
    have key : ∀ {T : TypeId} {v : Value} {m : Nat} {cs : List Value}, App w3 u.heap.size T 1 v m cs → App _ w.heap.size T 1 v m cs := fun a => (a.ch hch (fun g hg e => by have := a.ge g e; simp at hg; omega)).mono (by omega)
    exact ⟨A', B', I', rfl, key HA3.out, key HB3.out, key HI3.out, ((HW.out.trans HBL3.out).ch [w.heap.size + 1]).same hch |>.bl (by simp), HAP.out⟩
end Go.Proofs.Ytedmamchfgkkfaa
