/- The law NodeParts of layer 18 walked. -/
import Derived.Test.YtedmamchfgkkfaaNodeX
import Derived.Test.YtedmamchfgkkfaaNodeM
set_option linter.unusedVariables false
set_option linter.unusedSimpArgs false
namespace Go.Proofs.Ytedmamchfgkkfaa
open Go.RowKit
set_option maxRecDepth 100000
set_option maxHeartbeats 4000000

/-- A variable of a node whose slices can be read. -/
structure NdAt (w : World) (g : Nat) (k : Int) (A : Option Addr) (keys : List ByteArray) (c : Nat) (B : Option Addr) (vals : List ByteArray) (d : Nat) (I : Option Addr) (kids : List Int) (ci : Nat) : Prop where
  ob : Ob w g 52 #[.int .u8 k, .slice A keys.length c, .slice B vals.length d, .slice I kids.length ci]
  rk : Rd w A (keys.map sv)
  rv : Rd w B (vals.map sv)
  rn : Rd w I (kids.map iv)
theorem NdAt.bl {w w' : World} {g : Nat} {k : Int} {A B I : Option Addr} {keys vals : List ByteArray} {kids : List Int} {c d ci : Nat} (h : NdAt w g k A keys c B vals d I kids ci) (b : Bl w w') : NdAt w' g k A keys c B vals d I kids ci :=
  ⟨h.ob.bl b, h.rk.bl b, h.rv.bl b, h.rn.bl b⟩
theorem NdAt.new {w : World} {k : Int} {A B I : Option Addr} {keys vals : List ByteArray} {kids : List Int} {c d ci : Nat} (rk : Rd w A (keys.map sv)) (rv : Rd w B (vals.map sv)) (rn : Rd w I (kids.map iv)) :
    NdAt (w.alloc (.cells #[.int .u8 k, .slice A keys.length c, .slice B vals.length d, .slice I kids.length ci] 52)) w.heap.size k A keys c B vals d I kids ci :=
  ⟨Ob.new w _ _, rk.bl ((Bl.refl w).alloc _), rv.bl ((Bl.refl w).alloc _), rn.bl ((Bl.refl w).alloc _)⟩
theorem nodePart_len (k : Int) (ks vs : List ByteArray) (is : List Int) : (nodePart k ks vs is).a.keys.length ≤ ks.length ∧ (nodePart k ks vs is).a.vals.length ≤ vs.length ∧ (nodePart k ks vs is).a.kids.length ≤ is.length ∧ (nodePart k ks vs is).b.keys.length ≤ ks.length ∧ (nodePart k ks vs is).b.vals.length ≤ vs.length ∧ (nodePart k ks vs is).b.kids.length ≤ is.length := by
  unfold nodePart
  split
  · simp [ndNil]
  · split
    · simp; omega
    · simp; omega
theorem joinEnd_len (k : Int) (ks vs : List ByteArray) (is : List Int) : (joinEnd k ks vs is).keys.length ≤ 14 ∧ (joinEnd k ks vs is).vals.length ≤ 14 ∧ (joinEnd k ks vs is).kids.length ≤ 14 := by
  unfold joinEnd
  split
  · simp [nodeNo]
  · rename_i h
    have h := nodeRight_or (by simpa using h)
    simp only
    rcases h.2 with ⟨_, h1, h2, h3, _⟩ | ⟨_, h1, h2, h3, h4, _⟩
    · subst h3; simp; omega
    · subst h4; simp; omega
theorem nodeJoin_len (a : Nd) (s : ByteArray) (b : Nd) : (nodeJoin a s b).keys.length ≤ 14 ∧ (nodeJoin a s b).vals.length ≤ 14 ∧ (nodeJoin a s b).kids.length ≤ 14 := by
  unfold nodeJoin
  split
  · simp [nodeNo]
  · split
    · exact joinEnd_len _ _ _ _
    · split
      · simp [nodeNo]
      · exact joinEnd_len _ _ _ _

theorem parts_calls (k : Int) (A B I : Option Addr) (keys vals : List ByteArray) (kids : List Int) (c d ci : Nat) (k2 : Int) (A2 B2 I2 : Option Addr) (keys2 vals2 : List ByteArray) (kids2 : List Int) (c2 d2 ci2 : Nat) (sep : ByteArray) (w : World)
    (hk : keys.length * 16 ≤ 140737488355328) (hv : vals.length * 16 ≤ 140737488355328) (hn : kids.length * 8 ≤ 140737488355328) (hkc : keys.length ≤ c) (hvd : vals.length ≤ d) (hic : kids.length ≤ ci)
    (hk2 : keys2.length * 16 ≤ 140737488355328) (hv2 : vals2.length * 16 ≤ 140737488355328) (hn2 : kids2.length * 8 ≤ 140737488355328)
    (rk : Rd w A (keys.map sv)) (rv : Rd w B (vals.map sv)) (rn : Rd w I (kids.map iv)) (rk2 : Rd w A2 (keys2.map sv)) (rv2 : Rd w B2 (vals2.map sv)) (rn2 : Rd w I2 (kids2.map iv)) :
    Calls Try.prog 8 #[nodeV k A keys.length c B vals.length d I kids.length ci, nodeV k2 A2 keys2.length c2 B2 vals2.length d2 I2 kids2.length ci2, .string sep] w (RetBl true w) := by
  have N1 := Lib.hid ((NdAt.new (k := k) (c := c) (d := d) (ci := ci) rk rv rn).bl ((Bl.refl _).alloc (.cells #[.int .u8 k2, .slice A2 keys2.length c2, .slice B2 vals2.length d2, .slice I2 kids2.length ci2] 52)))
  have n2 := (NdAt.new (w := w.alloc (.cells #[.int .u8 k, .slice A keys.length c, .slice B vals.length d, .slice I kids.length ci] 52)) (k := k2) (c := c2) (d := d2) (ci := ci2) (rk2.bl ((Bl.refl w).alloc _)) (rv2.bl ((Bl.refl w).alloc _)) (rn2.bl ((Bl.refl w).alloc _)))
  rw [heap_alloc_size] at n2
  have N2 := Lib.hid n2
  have HW := Lib.hid (((Bl.refl w).alloc (.cells #[.int .u8 k, .slice A keys.length c, .slice B vals.length d, .slice I kids.length ci] 52)).alloc (.cells #[.int .u8 k2, .slice A2 keys2.length c2, .slice B2 vals2.length d2, .slice I2 kids2.length ci2] 52))
  clear rk rv rn rk2 rv2 rn2 n2
  go_enter Try.func8, Try.ntmps8
  go_wp2_with fail
  generalize (w.alloc (.cells #[.int .u8 k, .slice A keys.length c, .slice B vals.length d, .slice I kids.length ci] 52)).alloc (.cells #[.int .u8 k2, .slice A2 keys2.length c2, .slice B2 vals2.length d2, .slice I2 kids2.length ci2] 52) = u at N1 N2 HW ⊢
  generalize w.heap.size + 1 = g2 at N2 ⊢
  generalize w.heap.size = g1 at N1 ⊢
  refine (ref_nodeCopy k A B I keys vals kids c d ci _ hk hv hn N1.out.rk N1.out.rv N1.out.rn).mono ?_
  rintro e w3 ⟨A3, c3, B3, d3, I3, ci3, rfl, hA3, hB3, hI3, hbl3, hap3⟩
  have N3 := Lib.hid (NdAt.new (k := k) (c := c3) (d := d3) (ci := ci3) hA3.rd.1 hB3.rd.1 hI3.rd.1)
  have L3 := Lib.hid (hbl3.alloc (.cells #[.int .u8 k, .slice A3 keys.length c3, .slice B3 vals.length d3, .slice I3 kids.length ci3] 52))
  have HC3 := Lib.hid (show keys.length ≤ c3 ∧ vals.length ≤ d3 ∧ kids.length ≤ ci3 by
    obtain ⟨_, _, e1, h1⟩ := hA3.slice
    obtain ⟨_, _, e2, h2⟩ := hB3.slice
    obtain ⟨_, _, e3, h3⟩ := hI3.slice
    cases e1; cases e2; cases e3; exact ⟨h1, h2, h3⟩)
  clear hA3 hB3 hI3 hap3 hbl3
  replace N1 := Lib.hid (N1.out.bl L3.out)
  replace N2 := Lib.hid (N2.out.bl L3.out)
  replace HW := Lib.hid (HW.out.trans L3.out)
  clear L3
  obtain ⟨q1_0, q1_1, q1_2, q1_3, _⟩ := Ob.all4 N2.out.ob
  go_wp2_with fail
  clear q1_0 q1_1 q1_2 q1_3
  generalize w3.alloc (.cells #[.int .u8 k, .slice A3 keys.length c3, .slice B3 vals.length d3, .slice I3 kids.length ci3] 52) = v3 at N1 N2 N3 HW ⊢
  generalize w3.heap.size = g3 at N3 ⊢
  refine (ref_nodeCopy k2 A2 B2 I2 keys2 vals2 kids2 c2 d2 ci2 _ hk2 hv2 hn2 N2.out.rk N2.out.rv N2.out.rn).mono ?_
  rintro e w4 ⟨A4, c4, B4, d4, I4, ci4, rfl, hA4, hB4, hI4, hbl4, hap4⟩
  have N4 := Lib.hid (NdAt.new (k := k2) (c := c4) (d := d4) (ci := ci4) hA4.rd.1 hB4.rd.1 hI4.rd.1)
  have L4 := Lib.hid (hbl4.alloc (.cells #[.int .u8 k2, .slice A4 keys2.length c4, .slice B4 vals2.length d4, .slice I4 kids2.length ci4] 52))
  have HC4 := Lib.hid (show keys2.length ≤ c4 ∧ vals2.length ≤ d4 ∧ kids2.length ≤ ci4 by
    obtain ⟨_, _, e1, h1⟩ := hA4.slice
    obtain ⟨_, _, e2, h2⟩ := hB4.slice
    obtain ⟨_, _, e3, h3⟩ := hI4.slice
    cases e1; cases e2; cases e3; exact ⟨h1, h2, h3⟩)
  clear hA4 hB4 hI4 hap4 hbl4
  replace N1 := Lib.hid (N1.out.bl L4.out)
  replace N2 := Lib.hid (N2.out.bl L4.out)
  replace N3 := Lib.hid (N3.out.bl L4.out)
  replace HW := Lib.hid (HW.out.trans L4.out)
  clear L4
  obtain ⟨q2_0, q2_1, q2_2, q2_3, _⟩ := Ob.all4 N3.out.ob
  go_wp2_with fail
  clear q2_0 q2_1 q2_2 q2_3
  generalize w4.alloc (.cells #[.int .u8 k2, .slice A4 keys2.length c4, .slice B4 vals2.length d4, .slice I4 kids2.length ci4] 52) = v4 at N1 N2 N3 N4 HW ⊢
  generalize w4.heap.size = g4 at N4 ⊢
  refine (node_Part k A3 B3 I3 keys vals kids c3 d3 ci3 _ hk hv hn HC3.out.1 HC3.out.2.1 HC3.out.2.2 N3.out.rk N3.out.rv N3.out.rn).mono ?_
  have HPL := Lib.hid (nodePart_len k keys vals kids)
  generalize hpp : nodePart k keys vals kids = pr at HPL ⊢
  have HPP := Lib.hid hpp
  clear hpp
  rintro e w5 ⟨cs5, cs6, rfl, ⟨A5, c5, B5, d5, I5, ci5, rfl, ra5, rb5, ri5⟩, ⟨A6, c6, B6, d6, I6, ci6, rfl, ra6, rb6, ri6⟩, hbl5⟩
  have N5 := Lib.hid ((NdAt.new (k := pr.a.k) (c := c5) (d := d5) (ci := ci5) ra5 rb5 ri5).bl ((Bl.refl _).alloc (.cells #[.int .u8 pr.b.k, .slice A6 pr.b.keys.length c6, .slice B6 pr.b.vals.length d6, .slice I6 pr.b.kids.length ci6] 52)))
  have n6 := NdAt.new (w := w5.alloc (.cells #[.int .u8 pr.a.k, .slice A5 pr.a.keys.length c5, .slice B5 pr.a.vals.length d5, .slice I5 pr.a.kids.length ci5] 52)) (k := pr.b.k) (c := c6) (d := d6) (ci := ci6) (ra6.bl ((Bl.refl w5).alloc _)) (rb6.bl ((Bl.refl w5).alloc _)) (ri6.bl ((Bl.refl w5).alloc _))
  rw [heap_alloc_size] at n6
  have N6 := Lib.hid n6
  have L5 := Lib.hid ((hbl5.alloc (.cells #[.int .u8 pr.a.k, .slice A5 pr.a.keys.length c5, .slice B5 pr.a.vals.length d5, .slice I5 pr.a.kids.length ci5] 52)).alloc (.cells #[.int .u8 pr.b.k, .slice A6 pr.b.keys.length c6, .slice B6 pr.b.vals.length d6, .slice I6 pr.b.kids.length ci6] 52))
  clear ra5 rb5 ri5 ra6 rb6 ri6 n6 hbl5
  replace N1 := Lib.hid (N1.out.bl L5.out)
  replace N2 := Lib.hid (N2.out.bl L5.out)
  replace N3 := Lib.hid (N3.out.bl L5.out)
  replace N4 := Lib.hid (N4.out.bl L5.out)
  replace HW := Lib.hid (HW.out.trans L5.out)
  clear L5
  obtain ⟨q3_0, q3_1, q3_2, q3_3, _⟩ := Ob.all4 N1.out.ob
  go_wp2_with fail
  clear q3_0 q3_1 q3_2 q3_3
  generalize (w5.alloc (.cells #[.int .u8 pr.a.k, .slice A5 pr.a.keys.length c5, .slice B5 pr.a.vals.length d5, .slice I5 pr.a.kids.length ci5] 52)).alloc (.cells #[.int .u8 pr.b.k, .slice A6 pr.b.keys.length c6, .slice B6 pr.b.vals.length d6, .slice I6 pr.b.kids.length ci6] 52) = v5 at N1 N2 N3 N4 N5 N6 HW ⊢
  generalize w5.heap.size + 1 = g6 at N6 ⊢
  generalize w5.heap.size = g5 at N5 ⊢
  refine (ref_nodePart k A B I keys vals kids c d ci _ hk hv hn hkc hvd hic N1.out.rk N1.out.rv N1.out.rn).mono ?_
  rw [HPP.out]
  rintro e w7 ⟨cs7, cs8, rfl, ⟨A7, c7, B7, d7, I7, ci7, rfl, ra7, rb7, ri7⟩, ⟨A8, c8, B8, d8, I8, ci8, rfl, ra8, rb8, ri8⟩, hbl7⟩
  have N7 := Lib.hid ((NdAt.new (k := pr.a.k) (c := c7) (d := d7) (ci := ci7) ra7 rb7 ri7).bl ((Bl.refl _).alloc (.cells #[.int .u8 pr.b.k, .slice A8 pr.b.keys.length c8, .slice B8 pr.b.vals.length d8, .slice I8 pr.b.kids.length ci8] 52)))
  have n8 := NdAt.new (w := w7.alloc (.cells #[.int .u8 pr.a.k, .slice A7 pr.a.keys.length c7, .slice B7 pr.a.vals.length d7, .slice I7 pr.a.kids.length ci7] 52)) (k := pr.b.k) (c := c8) (d := d8) (ci := ci8) (ra8.bl ((Bl.refl w7).alloc _)) (rb8.bl ((Bl.refl w7).alloc _)) (ri8.bl ((Bl.refl w7).alloc _))
  rw [heap_alloc_size] at n8
  have N8 := Lib.hid n8
  have L7 := Lib.hid ((hbl7.alloc (.cells #[.int .u8 pr.a.k, .slice A7 pr.a.keys.length c7, .slice B7 pr.a.vals.length d7, .slice I7 pr.a.kids.length ci7] 52)).alloc (.cells #[.int .u8 pr.b.k, .slice A8 pr.b.keys.length c8, .slice B8 pr.b.vals.length d8, .slice I8 pr.b.kids.length ci8] 52))
  clear ra7 rb7 ri7 ra8 rb8 ri8 n8 hbl7
  replace N1 := Lib.hid (N1.out.bl L7.out)
  replace N2 := Lib.hid (N2.out.bl L7.out)
  replace N3 := Lib.hid (N3.out.bl L7.out)
  replace N4 := Lib.hid (N4.out.bl L7.out)
  replace N5 := Lib.hid (N5.out.bl L7.out)
  replace N6 := Lib.hid (N6.out.bl L7.out)
  replace HW := Lib.hid (HW.out.trans L7.out)
  clear L7
  obtain ⟨q4_0, q4_1, q4_2, q4_3, _⟩ := Ob.all4 N5.out.ob
  obtain ⟨q5_0, q5_1, q5_2, q5_3, _⟩ := Ob.all4 N7.out.ob
  go_wp2_with fail
  clear q4_0 q4_1 q4_2 q4_3 q5_0 q5_1 q5_2 q5_3
  generalize (w7.alloc (.cells #[.int .u8 pr.a.k, .slice A7 pr.a.keys.length c7, .slice B7 pr.a.vals.length d7, .slice I7 pr.a.kids.length ci7] 52)).alloc (.cells #[.int .u8 pr.b.k, .slice A8 pr.b.keys.length c8, .slice B8 pr.b.vals.length d8, .slice I8 pr.b.kids.length ci8] 52) = v7 at N1 N2 N3 N4 N5 N6 N7 N8 HW ⊢
  generalize w7.heap.size + 1 = g8 at N8 ⊢
  generalize w7.heap.size = g7 at N7 ⊢
  have e0 : (pr.sep.toList == pr.sep.toList) = true := by simp
  have e1 : (pr.e == pr.e) = true := by simp
  refine (ref_nodeSame pr.a.k pr.a.k A5 B5 I5 A7 B7 I7 pr.a.keys pr.a.vals pr.a.keys pr.a.vals pr.a.kids pr.a.kids c5 d5 ci5 c7 d7 ci7 _ (by have := HPL.out; omega) (by have := HPL.out; omega) (by have := HPL.out; omega) N5.out.rk N5.out.rv N5.out.rn N7.out.rk N7.out.rv N7.out.rn).mono ?_
  rintro e w9 ⟨rfl, hbl9⟩
  rw [decide_eq_true (by exact ⟨rfl, rfl, rfl, rfl⟩)]
  have L9 := Lib.hid hbl9
  clear hbl9
  replace N1 := Lib.hid (N1.out.bl L9.out)
  replace N2 := Lib.hid (N2.out.bl L9.out)
  replace N3 := Lib.hid (N3.out.bl L9.out)
  replace N4 := Lib.hid (N4.out.bl L9.out)
  replace N5 := Lib.hid (N5.out.bl L9.out)
  replace N6 := Lib.hid (N6.out.bl L9.out)
  replace N7 := Lib.hid (N7.out.bl L9.out)
  replace N8 := Lib.hid (N8.out.bl L9.out)
  replace HW := Lib.hid (HW.out.trans L9.out)
  clear L9
  obtain ⟨q6_0, q6_1, q6_2, q6_3, _⟩ := Ob.all4 N6.out.ob
  obtain ⟨q7_0, q7_1, q7_2, q7_3, _⟩ := Ob.all4 N8.out.ob
  go_wp2_with fail
  clear q6_0 q6_1 q6_2 q6_3 q7_0 q7_1 q7_2 q7_3
  refine (ref_nodeSame pr.b.k pr.b.k A6 B6 I6 A8 B8 I8 pr.b.keys pr.b.vals pr.b.keys pr.b.vals pr.b.kids pr.b.kids c6 d6 ci6 c8 d8 ci8 _ (by have := HPL.out; omega) (by have := HPL.out; omega) (by have := HPL.out; omega) N6.out.rk N6.out.rv N6.out.rn N8.out.rk N8.out.rv N8.out.rn).mono ?_
  rintro e w10 ⟨rfl, hbl10⟩
  rw [decide_eq_true (by exact ⟨rfl, rfl, rfl, rfl⟩)]
  have L10 := Lib.hid hbl10
  clear hbl10
  replace N1 := Lib.hid (N1.out.bl L10.out)
  replace N2 := Lib.hid (N2.out.bl L10.out)
  replace N3 := Lib.hid (N3.out.bl L10.out)
  replace N4 := Lib.hid (N4.out.bl L10.out)
  replace N5 := Lib.hid (N5.out.bl L10.out)
  replace N6 := Lib.hid (N6.out.bl L10.out)
  replace N7 := Lib.hid (N7.out.bl L10.out)
  replace N8 := Lib.hid (N8.out.bl L10.out)
  replace HW := Lib.hid (HW.out.trans L10.out)
  clear L10
  obtain ⟨q8_0, q8_1, q8_2, q8_3, _⟩ := Ob.all4 N3.out.ob
  obtain ⟨q9_0, q9_1, q9_2, q9_3, _⟩ := Ob.all4 N4.out.ob
  go_wp2_with fail
  clear q8_0 q8_1 q8_2 q8_3 q9_0 q9_1 q9_2 q9_3
  refine (node_Join k A3 B3 I3 keys vals kids c3 d3 ci3 sep k2 A4 B4 I4 keys2 vals2 kids2 c4 d4 ci4 _ hk hv hn hk2 hv2 hn2 N3.out.rk N3.out.rv N3.out.rn N4.out.rk N4.out.rv N4.out.rn).mono ?_
  have HJL := Lib.hid (nodeJoin_len ⟨k, keys, vals, kids⟩ sep ⟨k2, keys2, vals2, kids2⟩)
  generalize hjj : nodeJoin ⟨k, keys, vals, kids⟩ sep ⟨k2, keys2, vals2, kids2⟩ = jr at HJL ⊢
  have HJJ := Lib.hid hjj
  clear hjj
  intro e w11 hret
  obtain ⟨A11, c11, B11, d11, I11, ci11, rfl, ra11, rb11, ri11, hbl11, _, _, _⟩ := hret
  have N11 := Lib.hid (NdAt.new (k := jr.k) (c := c11) (d := d11) (ci := ci11) ra11 rb11 ri11)
  have L11 := Lib.hid (hbl11.alloc (.cells #[.int .u8 jr.k, .slice A11 jr.keys.length c11, .slice B11 jr.vals.length d11, .slice I11 jr.kids.length ci11] 52))
  clear ra11 rb11 ri11 hbl11
  replace N1 := Lib.hid (N1.out.bl L11.out)
  replace N2 := Lib.hid (N2.out.bl L11.out)
  replace N3 := Lib.hid (N3.out.bl L11.out)
  replace N4 := Lib.hid (N4.out.bl L11.out)
  replace N5 := Lib.hid (N5.out.bl L11.out)
  replace N6 := Lib.hid (N6.out.bl L11.out)
  replace N7 := Lib.hid (N7.out.bl L11.out)
  replace N8 := Lib.hid (N8.out.bl L11.out)
  replace HW := Lib.hid (HW.out.trans L11.out)
  clear L11
  obtain ⟨q10_0, q10_1, q10_2, q10_3, _⟩ := Ob.all4 N1.out.ob
  obtain ⟨q11_0, q11_1, q11_2, q11_3, _⟩ := Ob.all4 N2.out.ob
  go_wp2_with fail
  clear q10_0 q10_1 q10_2 q10_3 q11_0 q11_1 q11_2 q11_3
  generalize w11.alloc (.cells #[.int .u8 jr.k, .slice A11 jr.keys.length c11, .slice B11 jr.vals.length d11, .slice I11 jr.kids.length ci11] 52) = v11 at N1 N2 N3 N4 N5 N6 N7 N8 N11 HW ⊢
  generalize w11.heap.size = g11 at N11 ⊢
  refine (ref_nodeJoin k A B I keys vals kids c d ci sep k2 A2 B2 I2 keys2 vals2 kids2 c2 d2 ci2 _ hk hv hn hk2 hv2 hn2 N1.out.rk N1.out.rv N1.out.rn N2.out.rk N2.out.rv N2.out.rn).mono ?_
  rw [HJJ.out]
  intro e w12 hret0
  have hret := hret0.rd
  clear hret0
  obtain ⟨A12, c12, B12, d12, I12, ci12, rfl, ra12, rb12, ri12, hbl12, _, _, _⟩ := hret
  have N12 := Lib.hid (NdAt.new (k := jr.k) (c := c12) (d := d12) (ci := ci12) ra12 rb12 ri12)
  have L12 := Lib.hid (hbl12.alloc (.cells #[.int .u8 jr.k, .slice A12 jr.keys.length c12, .slice B12 jr.vals.length d12, .slice I12 jr.kids.length ci12] 52))
  clear ra12 rb12 ri12 hbl12
  replace N1 := Lib.hid (N1.out.bl L12.out)
  replace N2 := Lib.hid (N2.out.bl L12.out)
  replace N3 := Lib.hid (N3.out.bl L12.out)
  replace N4 := Lib.hid (N4.out.bl L12.out)
  replace N5 := Lib.hid (N5.out.bl L12.out)
  replace N6 := Lib.hid (N6.out.bl L12.out)
  replace N7 := Lib.hid (N7.out.bl L12.out)
  replace N8 := Lib.hid (N8.out.bl L12.out)
  replace N11 := Lib.hid (N11.out.bl L12.out)
  replace HW := Lib.hid (HW.out.trans L12.out)
  clear L12
  obtain ⟨q12_0, q12_1, q12_2, q12_3, _⟩ := Ob.all4 N11.out.ob
  go_wp2_with fail
  clear q12_0 q12_1 q12_2 q12_3
  generalize w12.alloc (.cells #[.int .u8 jr.k, .slice A12 jr.keys.length c12, .slice B12 jr.vals.length d12, .slice I12 jr.kids.length ci12] 52) = v12 at N1 N2 N3 N4 N5 N6 N7 N8 N11 N12 HW ⊢
  generalize w12.heap.size = g12 at N12 ⊢
  have e2 : (jr.e == jr.e) = true := by simp
  refine (ref_nodeSame jr.k jr.k A11 B11 I11 A12 B12 I12 jr.keys jr.vals jr.keys jr.vals jr.kids jr.kids c11 d11 ci11 c12 d12 ci12 _ (by have := HJL.out; omega) (by have := HJL.out; omega) (by have := HJL.out; omega) N11.out.rk N11.out.rv N11.out.rn N12.out.rk N12.out.rv N12.out.rn).mono ?_
  rintro e w13 ⟨rfl, hbl13⟩
  rw [decide_eq_true (by exact ⟨rfl, rfl, rfl, rfl⟩)]
  have L13 := Lib.hid hbl13
  clear hbl13
  replace N1 := Lib.hid (N1.out.bl L13.out)
  replace N2 := Lib.hid (N2.out.bl L13.out)
  replace N3 := Lib.hid (N3.out.bl L13.out)
  replace N4 := Lib.hid (N4.out.bl L13.out)
  replace N5 := Lib.hid (N5.out.bl L13.out)
  replace N6 := Lib.hid (N6.out.bl L13.out)
  replace N7 := Lib.hid (N7.out.bl L13.out)
  replace N8 := Lib.hid (N8.out.bl L13.out)
  replace N11 := Lib.hid (N11.out.bl L13.out)
  replace N12 := Lib.hid (N12.out.bl L13.out)
  replace HW := Lib.hid (HW.out.trans L13.out)
  clear L13
  obtain ⟨q13_0, q13_1, q13_2, q13_3, _⟩ := Ob.all4 N3.out.ob
  obtain ⟨q14_0, q14_1, q14_2, q14_3, _⟩ := Ob.all4 N1.out.ob
  go_wp2_with fail
  clear q13_0 q13_1 q13_2 q13_3 q14_0 q14_1 q14_2 q14_3
  refine (ref_nodeSame k k A3 B3 I3 A B I keys vals keys vals kids kids c3 d3 ci3 c d ci _ (by omega) (by omega) (by omega) N3.out.rk N3.out.rv N3.out.rn N1.out.rk N1.out.rv N1.out.rn).mono ?_
  rintro e w14 ⟨rfl, hbl14⟩
  rw [decide_eq_true (by exact ⟨rfl, rfl, rfl, rfl⟩)]
  have L14 := Lib.hid hbl14
  clear hbl14
  replace N1 := Lib.hid (N1.out.bl L14.out)
  replace N2 := Lib.hid (N2.out.bl L14.out)
  replace N3 := Lib.hid (N3.out.bl L14.out)
  replace N4 := Lib.hid (N4.out.bl L14.out)
  replace N5 := Lib.hid (N5.out.bl L14.out)
  replace N6 := Lib.hid (N6.out.bl L14.out)
  replace N7 := Lib.hid (N7.out.bl L14.out)
  replace N8 := Lib.hid (N8.out.bl L14.out)
  replace N11 := Lib.hid (N11.out.bl L14.out)
  replace N12 := Lib.hid (N12.out.bl L14.out)
  replace HW := Lib.hid (HW.out.trans L14.out)
  clear L14
  obtain ⟨q15_0, q15_1, q15_2, q15_3, _⟩ := Ob.all4 N4.out.ob
  obtain ⟨q16_0, q16_1, q16_2, q16_3, _⟩ := Ob.all4 N2.out.ob
  go_wp2_with fail
  clear q15_0 q15_1 q15_2 q15_3 q16_0 q16_1 q16_2 q16_3
  refine (ref_nodeSame k2 k2 A4 B4 I4 A2 B2 I2 keys2 vals2 keys2 vals2 kids2 kids2 c4 d4 ci4 c2 d2 ci2 _ (by omega) (by omega) (by omega) N4.out.rk N4.out.rv N4.out.rn N2.out.rk N2.out.rv N2.out.rn).mono ?_
  rintro e w15 ⟨rfl, hbl15⟩
  rw [decide_eq_true (by exact ⟨rfl, rfl, rfl, rfl⟩)]
  have L15 := Lib.hid hbl15
  clear hbl15
  replace N1 := Lib.hid (N1.out.bl L15.out)
  replace N2 := Lib.hid (N2.out.bl L15.out)
  replace N3 := Lib.hid (N3.out.bl L15.out)
  replace N4 := Lib.hid (N4.out.bl L15.out)
  replace N5 := Lib.hid (N5.out.bl L15.out)
  replace N6 := Lib.hid (N6.out.bl L15.out)
  replace N7 := Lib.hid (N7.out.bl L15.out)
  replace N8 := Lib.hid (N8.out.bl L15.out)
  replace N11 := Lib.hid (N11.out.bl L15.out)
  replace N12 := Lib.hid (N12.out.bl L15.out)
  replace HW := Lib.hid (HW.out.trans L15.out)
  clear L15
  go_wp2_with fail
  refine (node_lives _).mono ?_
  rintro e w16 ⟨rfl, hbl16⟩
  go_wp2_with fail
  go_ret
  exact RetBl.mk rfl (HW.out.trans hbl16)
end Go.Proofs.Ytedmamchfgkkfaa
