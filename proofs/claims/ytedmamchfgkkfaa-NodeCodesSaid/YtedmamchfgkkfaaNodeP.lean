/- The law NodeCodes of layer 18 walked. -/
import Derived.Test.YtedmamchfgkkfaaNodeM
import Derived.Test.YtedmamchfgkkfaaDeedH
set_option linter.unusedVariables false
set_option linter.unusedSimpArgs false
namespace Go.Proofs.Ytedmamchfgkkfaa
open Go.RowKit
set_option maxRecDepth 100000
set_option maxHeartbeats 4000000

theorem nodePut_len (k : Int) (keys vals : List ByteArray) (kids : List Int) : (nodePut k keys vals kids).1.length ≤ 700 := by
  unfold nodePut
  split
  · simp
  · rename_i hb
    have hb : nodeRight k keys vals kids 6 6 = true := by simpa using hb
    obtain ⟨hko, hcase⟩ := nodeRight_or hb
    have hl : keys.length ≤ 6 := by rcases hcase with h | h <;> omega
    have key : ∀ j, j ≤ keys.length → (nodeUpto k keys vals kids j).length ≤ 20 + 100 * j := by
      intro j
      induction j with
      | zero =>
        intro _
        have h1 := (lebPut_ten (n := keys.length) (by omega)).1
        unfold nodeUpto nodeHead
        rcases hcase with ⟨rfl, _⟩ | ⟨rfl, _, _, hkl, _, hno⟩
        · simp; omega
        · obtain ⟨x, hx⟩ := get_some kids 0 (by omega)
          have := kidsOK_at hno hx
          have h2 := (lebPut_ten (n := x.toNat) (by omega)).1
          rw [getD_of hx]
          simp; omega
      | succ j ih =>
        intro hj
        have := ih (by omega)
        rw [nodeUpto_succ, List.length_append]
        obtain ⟨x, hx⟩ := get_some keys j (by omega)
        have hx4 := keysOK_at hko hx
        have h1 := lebRowPut_len (tb x) (by rw [tb_len]; omega)
        rw [tb_len] at h1
        unfold nodePiece
        rw [getD_of hx, List.length_append]
        rcases hcase with ⟨rfl, _, hvl, _, hvo⟩ | ⟨rfl, _, _, hkl, _, hno⟩
        · obtain ⟨y, hy⟩ := get_some vals j (by omega)
          have hy4 := valsOK_at hvo hy
          have h2 := lebRowPut_len (tb y) (by rw [tb_len]; omega)
          rw [tb_len] at h2
          rw [if_neg (by decide), getD_of hy]
          omega
        · obtain ⟨y, hy⟩ := get_some kids (j + 1) (by omega)
          have := kidsOK_at hno hy
          have h2 := (lebPut_ten (n := y.toNat) (by omega)).1
          rw [if_pos rfl, getD_of hy]
          omega
    have := key keys.length (Nat.le_refl _)
    show (nodeBytes k keys vals kids).length ≤ 700
    unfold nodeBytes
    omega
theorem nodeGet_len (k : Int) (b : List UInt8) : (nodeGet k b).keys.length ≤ 100 ∧ (nodeGet k b).vals.length ≤ 100 ∧ (nodeGet k b).kids.length ≤ 100 := by
  have hno : ∀ e, (nodeNo e).keys.length ≤ 100 ∧ (nodeNo e).vals.length ≤ 100 ∧ (nodeNo e).kids.length ≤ 100 := fun e => by simp [nodeNo]
  have key : ∀ (n : Nat) (p : Int) (ks vs : List ByteArray) (is : List Int), (nodeLoop k b n p ks vs is).keys.length ≤ 100 ∧ (nodeLoop k b n p ks vs is).vals.length ≤ 100 ∧ (nodeLoop k b n p ks vs is).kids.length ≤ 100 := by
    intro n
    induction n with
    | zero =>
      intro p ks vs is
      unfold nodeLoop nodeEnd
      split
      · exact hno 5
      · rename_i h
        have hr : nodeRight k ks vs is 6 6 = true := by
          cases hr : nodeRight k ks vs is 6 6
          · exact absurd (.inr hr) h
          · rfl
        obtain ⟨_, hc⟩ := nodeRight_or hr
        rcases hc with ⟨_, h1, h2, h3, _⟩ | ⟨_, _, h1, h2, h3, _⟩
        · subst h3; simp; omega
        · subst h3; simp; omega
    | succ n ih =>
      intro p ks vs is
      unfold nodeLoop
      split
      · exact hno _
      · split
        · split
          · exact hno _
          · exact ih _ _ _ _
        · split
          · exact hno _
          · exact ih _ _ _ _
  unfold nodeGet
  split
  · exact hno _
  · split
    · exact hno _
    · split
      · split
        · exact hno _
        · exact key _ _ _ _ _
      · exact key _ _ _ _ _
theorem ncodes_calls (k : Int) (A B I : Option Addr) (keys vals : List ByteArray) (kids : List Int) (c d ci : Nat) (kind : Int) (G : Option Addr) (b : List UInt8) (cb : Nat) (w : World) (hk : keys.length ≤ 281474976710656) (hv : vals.length ≤ 281474976710656) (hn : kids.length ≤ 281474976710656) (hb : b.length ≤ 140737488351232) (hbc : b.length ≤ cb)
    (rk : Rd w A (keys.map sv)) (rv : Rd w B (vals.map sv)) (rn : Rd w I (kids.map iv)) (rb : Rd w G (b.map bv)) :
    Calls Try.prog 6 #[nodeV k A keys.length c B vals.length d I kids.length ci, .int .u8 kind, .slice G b.length cb] w (RetBl true w) := by
  have RK := Lib.hid rk
  have RV := Lib.hid rv
  have RN := Lib.hid rn
  have RB := Lib.hid rb
  have HO := Lib.hid (Ob.new w #[.int .u8 k, .slice A keys.length c, .slice B vals.length d, .slice I kids.length ci] 52)
  have HW := Lib.hid ((Bl.refl w).alloc (.cells #[.int .u8 k, .slice A keys.length c, .slice B vals.length d, .slice I kids.length ci] 52))
  clear rk rv rn rb
  go_enter Try.func6, Try.ntmps6
  go_wp2_with fail
  generalize w.alloc (.cells #[.int .u8 k, .slice A keys.length c, .slice B vals.length d, .slice I kids.length ci] 52) = u at HO HW ⊢
  refine (node_Put k A B I keys vals kids c d ci u hk hv hn (RK.out.bl HW.out) (RV.out.bl HW.out) (RN.out.bl HW.out)).mono ?_
  have HPL := Lib.hid (nodePut_len k keys vals kids)
  generalize hpr : nodePut k keys vals kids = r at HPL
  have HPR := Lib.hid hpr
  clear hpr
  obtain ⟨xs, er⟩ := r
  rintro e w1 ⟨v1, rfl, hown1, hbl1⟩
  obtain ⟨A1, c1, rfl, hcc1⟩ := hown1.slice
  have HB1 := Lib.hid hbl1
  have HP1 := Lib.hid hown1.rd.1
  obtain ⟨o0, o1, o2, o3, _⟩ := Ob.all4 (HO.out.bl hbl1)
  clear hbl1 hown1 hcc1
  simp only at HP1 HPL ⊢
  have HLX := Lib.hid (show xs.length ≤ 281474976710656 by have := HPL.out; omega)
  clear HPL
  go_wp2_with fail
  have hput := ref_nodePut k A B I keys vals kids c d ci w1 hk hv hn (RK.out.bl (HW.out.trans HB1.out)) (RV.out.bl (HW.out.trans HB1.out)) (RN.out.bl (HW.out.trans HB1.out))
  rw [HPR.out] at hput
  refine hput.mono ?_
  rintro e w2 ⟨v2, rfl, hown2, hbl2⟩
  obtain ⟨A2, c2, rfl, hcc2⟩ := hown2.slice
  have HB2 := Lib.hid (HB1.out.trans hbl2)
  have HP2 := Lib.hid hown2.rd.1
  have HP1' := Lib.hid (HP1.out.bl hbl2)
  clear hbl2 hown2 hcc2 hput o0 o1 o2 o3 HP1
  simp only at HP2 ⊢
  have HK : Hid (∀ w' : World, Bl w2 w' → w'.cell? ⟨w.heap.size, 0, none⟩ = some (.int .u8 k) ∧ w'.cell? ⟨w.heap.size, 1, none⟩ = some (.slice A keys.length c) ∧ w'.cell? ⟨w.heap.size, 2, none⟩ = some (.slice B vals.length d) ∧ w'.cell? ⟨w.heap.size, 3, none⟩ = some (.slice I kids.length ci) ∧ Bl w2 w') := fun w' h => by
    obtain ⟨a0, a1, a2, a3, _⟩ := Ob.all4 (HO.out.bl (HB2.out.trans h))
    exact ⟨a0, a1, a2, a3, h⟩
  generalize hm : nodeRight k keys vals kids 12 13 = m
  generalize hc : nodeRight k keys vals kids 6 6 = mc
  have HM := Lib.hid hm
  have HC := Lib.hid hc
  clear hm hc
  have e1 : (m != m) = false := by simp
  have e2 : (mc != mc) = false := by simp
  have e3 : (er != er) = false := by simp
  have RK2 := Lib.hid (RK.out.bl (HW.out.trans HB2.out))
  have RV2 := Lib.hid (RV.out.bl (HW.out.trans HB2.out))
  have RN2 := Lib.hid (RN.out.bl (HW.out.trans HB2.out))
  obtain ⟨q0, q1, q2, q3, hbk⟩ := HK.out w2 (Bl.refl _)
  go_wp2_with fail
  go_region_held3 (fun w' => w'.cell? ⟨w.heap.size, 0, none⟩ = some (.int .u8 k) ∧ w'.cell? ⟨w.heap.size, 1, none⟩ = some (.slice A keys.length c) ∧ w'.cell? ⟨w.heap.size, 2, none⟩ = some (.slice B vals.length d) ∧ w'.cell? ⟨w.heap.size, 3, none⟩ = some (.slice I kids.length ci) ∧ Bl w2 w')
    (exact HK.out _ (by (focus ((repeat (first | with_reducible assumption | exact Bl.refl _ | refine Bl.drew ?_ | refine Bl.drewN ?_ _ | refine Bl.alloc ?_ _ | (refine Bl.trans ?_ (by with_reducible assumption)))); done))))
    (first
      | (go_at_call 34; refine (RetBl.at (node_Wide k A B I keys vals kids c d ci _ hk hv hn (Rd.bl RK2.out (by (focus ((repeat (first | with_reducible assumption | exact Bl.refl _ | refine Bl.drew ?_ | refine Bl.drewN ?_ _ | refine Bl.alloc ?_ _ | (refine Bl.trans ?_ (by with_reducible assumption)))); done)))) (Rd.bl RV2.out (by (focus ((repeat (first | with_reducible assumption | exact Bl.refl _ | refine Bl.drew ?_ | refine Bl.drewN ?_ _ | refine Bl.alloc ?_ _ | (refine Bl.trans ?_ (by with_reducible assumption)))); done)))) (Rd.bl RN2.out (by (focus ((repeat (first | with_reducible assumption | exact Bl.refl _ | refine Bl.drew ?_ | refine Bl.drewN ?_ _ | refine Bl.alloc ?_ _ | (refine Bl.trans ?_ (by with_reducible assumption)))); done))))) HM.out).mono ?_; rintro e w5 ⟨rfl, hbl5⟩)
      | (go_at_call 35; refine (RetBl.at (ref_nodeWide k A B I keys vals kids c d ci _ hk hv hn (Rd.bl RK2.out (by (focus ((repeat (first | with_reducible assumption | exact Bl.refl _ | refine Bl.drew ?_ | refine Bl.drewN ?_ _ | refine Bl.alloc ?_ _ | (refine Bl.trans ?_ (by with_reducible assumption)))); done)))) (Rd.bl RV2.out (by (focus ((repeat (first | with_reducible assumption | exact Bl.refl _ | refine Bl.drew ?_ | refine Bl.drewN ?_ _ | refine Bl.alloc ?_ _ | (refine Bl.trans ?_ (by with_reducible assumption)))); done)))) (Rd.bl RN2.out (by (focus ((repeat (first | with_reducible assumption | exact Bl.refl _ | refine Bl.drew ?_ | refine Bl.drewN ?_ _ | refine Bl.alloc ?_ _ | (refine Bl.trans ?_ (by with_reducible assumption)))); done))))) HM.out).mono ?_; rintro e w6 ⟨rfl, hbl6⟩)
      | (go_at_call 36; refine (RetBl.at (node_May k A B I keys vals kids c d ci _ hk hv hn (Rd.bl RK2.out (by (focus ((repeat (first | with_reducible assumption | exact Bl.refl _ | refine Bl.drew ?_ | refine Bl.drewN ?_ _ | refine Bl.alloc ?_ _ | (refine Bl.trans ?_ (by with_reducible assumption)))); done)))) (Rd.bl RV2.out (by (focus ((repeat (first | with_reducible assumption | exact Bl.refl _ | refine Bl.drew ?_ | refine Bl.drewN ?_ _ | refine Bl.alloc ?_ _ | (refine Bl.trans ?_ (by with_reducible assumption)))); done)))) (Rd.bl RN2.out (by (focus ((repeat (first | with_reducible assumption | exact Bl.refl _ | refine Bl.drew ?_ | refine Bl.drewN ?_ _ | refine Bl.alloc ?_ _ | (refine Bl.trans ?_ (by with_reducible assumption)))); done))))) HC.out).mono ?_; rintro e w7 ⟨rfl, hbl7⟩)
      | (go_at_call 37; refine (RetBl.at (ref_nodeMay k A B I keys vals kids c d ci _ hk hv hn (Rd.bl RK2.out (by (focus ((repeat (first | with_reducible assumption | exact Bl.refl _ | refine Bl.drew ?_ | refine Bl.drewN ?_ _ | refine Bl.alloc ?_ _ | (refine Bl.trans ?_ (by with_reducible assumption)))); done)))) (Rd.bl RV2.out (by (focus ((repeat (first | with_reducible assumption | exact Bl.refl _ | refine Bl.drew ?_ | refine Bl.drewN ?_ _ | refine Bl.alloc ?_ _ | (refine Bl.trans ?_ (by with_reducible assumption)))); done)))) (Rd.bl RN2.out (by (focus ((repeat (first | with_reducible assumption | exact Bl.refl _ | refine Bl.drew ?_ | refine Bl.drewN ?_ _ | refine Bl.alloc ?_ _ | (refine Bl.trans ?_ (by with_reducible assumption)))); done))))) HC.out).mono ?_; rintro e w8 ⟨rfl, hbl8⟩)
      | (go_at_call 19; refine (RetBl.ofDr (same_self A1 A2 c1 c2 xs.length xs.length xs _ rfl rfl HLX.out (Rd.bl HP1'.out (by (focus ((repeat (first | with_reducible assumption | exact Bl.refl _ | refine Bl.drew ?_ | refine Bl.drewN ?_ _ | refine Bl.alloc ?_ _ | (refine Bl.trans ?_ (by with_reducible assumption)))); done)))) (Rd.bl HP2.out (by (focus ((repeat (first | with_reducible assumption | exact Bl.refl _ | refine Bl.drew ?_ | refine Bl.drewN ?_ _ | refine Bl.alloc ?_ _ | (refine Bl.trans ?_ (by with_reducible assumption)))); done)))))).mono ?_; rintro e w9 ⟨rfl, hbl9⟩))
  have HBX := Lib.hid (show Bl w w9 from (HW.out.trans HB2.out).trans (by (focus ((repeat (first | with_reducible assumption | exact Bl.refl _ | refine Bl.drew ?_ | refine Bl.drewN ?_ _ | refine Bl.alloc ?_ _ | (refine Bl.trans ?_ (by with_reducible assumption)))); done))))
  clear q0 q1 q2 q3 hbk hbl5 hbl6 hbl7 hbl8 hbl9 HM HC HP1' HP2 HK HB2 HB1 HLX HPR HO HW RK2 RV2 RN2 RK RV RN
  go_wp2_with fail
  refine (wide_calls G cb b _ hb (RB.out.bl HBX.out)).mono ?_
  rintro e w11 ⟨g2, rfl, hw11, hbl11⟩
  have HWJ := Lib.hid hw11
  have HBY := Lib.hid (HBX.out.trans hbl11)
  clear hw11 hbl11
  go_wp2_with fail
  refine (node_Get kind _ _ b _ hb (by omega) HWJ.out.rd).mono ?_
  have HGL := Lib.hid (nodeGet_len kind b)
  generalize hpr : nodeGet kind b = r at HGL
  rintro e w12 ⟨A12, c12, B12, d12, I12, ci12, rfl, ha12, hb12, hi12, hbl12⟩
  have HA12 := Lib.hid ha12.rd.1
  have HV12 := Lib.hid hb12.rd.1
  have HI12 := Lib.hid hi12.rd.1
  have HPR := Lib.hid hpr
  have HB13 := Lib.hid (hbl12.alloc (.cells #[.int .u8 r.k, .slice A12 r.keys.length c12, .slice B12 r.vals.length d12, .slice I12 r.kids.length ci12] 52))
  have HX13 := Lib.hid ((Ob.new w12 #[.int .u8 r.k, .slice A12 r.keys.length c12, .slice B12 r.vals.length d12, .slice I12 r.kids.length ci12] 52))
  clear ha12 hb12 hi12 hbl12 hpr
  go_wp2_with fail
  refine (ref_nodeGet kind G cb b _ hb hbc (RB.out.bl (HBY.out.trans HB13.out))).mono ?_
  rw [HPR.out]
  rintro e w14 ⟨A14, c14, B14, d14, I14, ci14, rfl, ha14, hb14, hi14, hbl14⟩
  have HA14 := Lib.hid ha14.rd.1
  have HV14 := Lib.hid hb14.rd.1
  have HI14 := Lib.hid hi14.rd.1
  have HB15 := Lib.hid (hbl14.alloc (.cells #[.int .u8 r.k, .slice A14 r.keys.length c14, .slice B14 r.vals.length d14, .slice I14 r.kids.length ci14] 52))
  have HX15 := Lib.hid ((Ob.new w14 #[.int .u8 r.k, .slice A14 r.keys.length c14, .slice B14 r.vals.length d14, .slice I14 r.kids.length ci14] 52))
  obtain ⟨a0, a1, a2, a3, _⟩ := Ob.all4 ((HX13.out.bl hbl14).bl ((Bl.refl w14).alloc (.cells #[.int .u8 r.k, .slice A14 r.keys.length c14, .slice B14 r.vals.length d14, .slice I14 r.kids.length ci14] 52)))
  obtain ⟨b0, b1, b2, b3, _⟩ := Ob.all4 HX15.out
  obtain ⟨u0, u1, u2, u3, _⟩ := Ob.all4 (HX13.out.bl hbl14)
  have e5 : (r.e == r.e) = true := by simp
  clear ha14 hb14 hi14 hbl14
  go_wp2_with fail
  have hsm := ref_nodeSame r.k r.k A12 B12 I12 A14 B14 I14 r.keys r.vals r.keys r.vals r.kids r.kids c12 d12 ci12 c14 d14 ci14 (w14.alloc (.cells #[.int .u8 r.k, .slice A14 r.keys.length c14, .slice B14 r.vals.length d14, .slice I14 r.kids.length ci14] 52)) (by have := HGL.out.1; omega) (by have := HGL.out.2.1; omega) (by have := HGL.out.2.2; omega)
    (HA12.out.bl (((Bl.refl _).alloc _).trans HB15.out)) (HV12.out.bl (((Bl.refl _).alloc _).trans HB15.out)) (HI12.out.bl (((Bl.refl _).alloc _).trans HB15.out)) (HA14.out.bl ((Bl.refl _).alloc _)) (HV14.out.bl ((Bl.refl _).alloc _)) (HI14.out.bl ((Bl.refl _).alloc _))
  rw [decide_eq_true (by simp)] at hsm
  refine hsm.mono ?_
  rintro e w16 ⟨rfl, hbl16⟩
  have HB16 := Lib.hid (((Bl.refl w12).alloc _).trans (HB15.out.trans hbl16))
  have HG := Lib.hid (HB13.out.trans (HB15.out.trans hbl16))
  have HWK := Lib.hid (HWJ.out.bl HG.out)
  clear hbl16 a0 a1 a2 a3 b0 b1 b2 b3 u0 u1 u2 u3 hsm
  go_wp2_with fail
  refine (left_calls g2 _ G cb b _ hb HWK.out (RB.out.bl (HBY.out.trans HG.out))).mono ?_
  rintro e w18 ⟨rfl, hdr18⟩
  have HB18 := Lib.hid ((HBY.out.trans HG.out).trans (hdr18.below _))
  clear hdr18
  go_wp2_with fail
  refine (node_lives _).mono ?_
  rintro e w19 ⟨rfl, hbl19⟩
  go_wp2_with fail
  go_ret
  exact RetBl.mk rfl (HB18.out.trans hbl19)
end Go.Proofs.Ytedmamchfgkkfaa
