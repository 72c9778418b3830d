/- Layer 18 (node) and its reference walked: a node's bytes. -/
import Derived.Test.YtedmamchfgkkfaaNodeF
import Derived.Test.YtedmamchfgkkfaaLib7
import Derived.Test.YtedmamchfgkkfaaDeedB
set_option linter.unusedVariables false
set_option linter.unusedSimpArgs false
namespace Go.Proofs.Ytedmamchfgkkfaa
open Go.RowKit
set_option maxRecDepth 100000
set_option maxHeartbeats 4000000

theorem keysOK_at {keys : List ByteArray} (h : keysOK keys = true) {j : Nat} {x : ByteArray} (hx : keys[j]? = some x) : 1 ≤ x.size ∧ x.size ≤ 40 := by
  have hj := (List.getElem?_eq_some_iff.1 hx).1
  have h1 := List.all_eq_true.1 h j (List.mem_range.2 hj)
  rcases keyOK_cases hx with ⟨hf, _⟩ | ⟨hf, _⟩ | ⟨_, _, _, hf, _⟩ | ⟨_, _, h2, h3⟩ | ⟨_, _, _, _, h2, h3, _⟩
  · rw [hf] at h1; cases h1
  · rw [hf] at h1; cases h1
  · rw [hf] at h1; cases h1
  · exact ⟨h2, h3⟩
  · exact ⟨h2, h3⟩
theorem nodeRight_or {k : Int} {keys vals : List ByteArray} {kids : List Int} {leaf inner : Nat} (h : nodeRight k keys vals kids leaf inner = true) :
    keysOK keys = true ∧ ((k = 1 ∧ keys.length ≤ leaf ∧ vals.length = keys.length ∧ kids = [] ∧ valsOK vals = true) ∨ (k = 2 ∧ 1 ≤ keys.length ∧ keys.length ≤ inner ∧ kids.length = keys.length + 1 ∧ vals = [] ∧ kidsOK kids = true)) := by
  unfold nodeRight at h
  simp only [Bool.and_eq_true, Bool.or_eq_true, decide_eq_true_eq] at h
  obtain ⟨h1, h2 | h2⟩ := h
  · exact ⟨h1, .inl ⟨h2.1.1, h2.2.1, h2.2.2.1, List.eq_nil_of_length_eq_zero h2.2.2.2, h2.1.2⟩⟩
  · exact ⟨h1, .inr ⟨h2.1.1, h2.2.1, h2.2.2.1, h2.2.2.2.1, List.eq_nil_of_length_eq_zero h2.2.2.2.2, h2.1.2⟩⟩
theorem valsOK_at {vals : List ByteArray} (h : valsOK vals = true) {j : Nat} {x : ByteArray} (hx : vals[j]? = some x) : x.size ≤ 40 := by
  have := List.all_eq_true.1 h x (List.mem_of_getElem? hx)
  simpa using this
theorem kidsOK_at {kids : List Int} (h : kidsOK kids = true) {j : Nat} {x : Int} (hx : kids[j]? = some x) : 2 ≤ x ∧ x < 65536 := by
  have := List.all_eq_true.1 h x (List.mem_of_getElem? hx)
  simpa using this

/-- The bytes of one key and of what belongs to it. -/
def nodePiece (k : Int) (keys vals : List ByteArray) (kids : List Int) (j : Nat) : List UInt8 :=
  lebRowPut (tb (keys.getD j .empty)) ++ if k = 2 then lebPut (kids.getD (j + 1) 0).toNat else lebRowPut (tb (vals.getD j .empty))
def nodeHead (k : Int) (keys : List ByteArray) (kids : List Int) : List UInt8 := lebPut keys.length ++ if k = 2 then lebPut (kids.getD 0 0).toNat else []
def nodeUpto (k : Int) (keys vals : List ByteArray) (kids : List Int) (j : Nat) : List UInt8 := nodeHead k keys kids ++ (List.range j).flatMap (nodePiece k keys vals kids)
def nodeBytes (k : Int) (keys vals : List ByteArray) (kids : List Int) : List UInt8 := nodeUpto k keys vals kids keys.length
def nodePut (k : Int) (keys vals : List ByteArray) (kids : List Int) : List UInt8 × Int :=
  if nodeRight k keys vals kids 6 6 = false then ([], 2) else (nodeBytes k keys vals kids, 0)
theorem nodeUpto_succ (k : Int) (keys vals : List ByteArray) (kids : List Int) (j : Nat) : nodeUpto k keys vals kids (j + 1) = nodeUpto k keys vals kids j ++ nodePiece k keys vals kids j := by
  unfold nodeUpto
  rw [List.range_succ, List.flatMap_append, List.append_assoc]; simp
theorem getD_of {α : Type} {l : List α} {j : Nat} {x : α} (h : l[j]? = some x) (d : α) : l.getD j d = x := by simp [List.getD_eq_getElem?_getD, h]

theorem node_Put (k : Int) (A B I : Option Addr) (keys vals : List ByteArray) (kids : List Int) (c d ci : Nat) (w : World) (hk : keys.length ≤ 281474976710656) (hv : vals.length ≤ 281474976710656) (hn : kids.length ≤ 281474976710656)
    (rk : Rd w A (keys.map sv)) (rv : Rd w B (vals.map sv)) (rn : Rd w I (kids.map iv)) :
    Calls Try.prog 32 #[nodeV k A keys.length c B vals.length d I kids.length ci] w (RetPut (nodePut k keys vals kids) w) := by
  have RK := Lib.hid rk
  have RV := Lib.hid rv
  have RN := Lib.hid rn
  have HW := Lib.hid ((Bl.refl w).alloc (.cells #[.int .u8 k, .slice A keys.length c, .slice B vals.length d, .slice I kids.length ci] 52))
  have HO := Lib.hid (Ob.new w #[.int .u8 k, .slice A keys.length c, .slice B vals.length d, .slice I kids.length ci] 52)
  clear rk rv rn
  cases hb : nodeRight k keys vals kids 6 6
  · have HP := Lib.hid (show nodePut k keys vals kids = ([], 2) by unfold nodePut; rw [if_pos hb])
    have HB := Lib.hid hb
    clear hb
    go_enter Try.func32, Try.ntmps32
    go_wp2_with (first | (go_at_call 36; go_must (refine (node_May k A B I keys vals kids c d ci _ hk hv hn (RK.out.bl HW.out) (RV.out.bl HW.out) (RN.out.bl HW.out)).mono ?_); rintro e w1 ⟨rfl, hbl⟩; rw [HB.out]))
    go_ret2
    exact RetPut.mk HP.out (App.nil _ _ _ _) (HW.out.trans hbl)
  · have HP := Lib.hid (show nodePut k keys vals kids = (nodeBytes k keys vals kids, 0) by unfold nodePut; rw [if_neg (by rw [hb]; decide)])
    have HB := Lib.hid hb
    obtain ⟨hko, hcase⟩ := nodeRight_or hb
    have HKO := Lib.hid hko
    have hk66 : keys.length ≤ 6 := by rcases hcase with h | h <;> omega
    have hten := (lebPut_ten (n := keys.length) (by omega)).1
    have hwr : IntKind.u64.wrap (keys.length : Int) = (keys.length : Int) := IntWalk.u64_in _ (by omega)
    have hmay := node_May k A B I keys vals kids c d ci
    rw [hb] at hmay
    clear hb hko hk66
    rcases hcase with ⟨hk1, hk6, hvl, hkn, hvo⟩ | ⟨hk2, hk1, hk6, hkl, hvn, hno⟩
    · subst hk1
      subst hkn
      have HVO := Lib.hid hvo
      have HV := Lib.hid hvl
      have HH := Lib.hid (show lebPut keys.length = nodeUpto 1 keys vals [] 0 by simp [nodeUpto, nodeHead])
      clear hvo hvl
      have hmay := Lib.hid (hmay _ hk hv hn (RK.out.bl HW.out) (RV.out.bl HW.out) (RN.out.bl HW.out))
      go_enter Try.func32, Try.ntmps32
      go_wp2_with fail
      simp only [List.length_nil] at HW HO hmay ⊢
      generalize w.alloc (.cells #[.int .u8 1, .slice A keys.length c, .slice B vals.length d, .slice I 0 ci] 52) = u at HW HO hmay ⊢
      obtain ⟨o0, o1, o2, o3, _⟩ := Ob.all4 HO.out
      go_wp2_with (first
        | (go_at_call 36; go_must (refine hmay.out.mono ?_); rintro e w1 ⟨rfl, hbl⟩; clear o0 o1 o2 o3; obtain ⟨o0, o1, o2, o3, _⟩ := Ob.all4 (HO.out.bl hbl))
        | (go_at_call 58; (with_reducible refine (leb_Put (keys.length : Int) (by omega) (by omega) _).mono ?_); rintro e w2 ⟨v2, rfl, hown2, hbl2⟩; rw [Int.toNat_natCast] at hown2; have hown2 := hown2.mono (show u.heap.size ≤ _ from hbl.size); have hb2 := Bl.trans hbl hbl2; clear o0 o1 o2 o3; obtain ⟨o0, o1, o2, o3, _⟩ := Ob.all4 (HO.out.bl hb2)))
      rw [HH.out] at hown2 hten
      have HB2 := Lib.hid hb2
      have HOW := Lib.hid hown2
      have hL0 : (nodeUpto 1 keys vals [] 0).length ≤ 20 := by omega
      clear hown2 hb2 hbl hbl2
      clear o0 o1 o2 o3
      go_loopw [4, 5, 6, 29] (fun out _ _ i wr => ∃ j : Nat, j ≤ keys.length ∧ i = .int .i64 j ∧ App wr u.heap.size 5 1 out (nodeUpto 1 keys vals [] j).length ((nodeUpto 1 keys vals [] j).map bv) ∧ (nodeUpto 1 keys vals [] j).length ≤ 20 + 100 * j ∧ Hid (Bl u wr)) (fun _ _ _ i _ => keys.length - (intOf i).toNat)
      case atStart => exact ⟨0, by omega, rfl, HOW.out, by omega, HB2.out⟩
      case round =>
        obtain ⟨j, hj, rfl, hown, hlen, HB⟩ := hrel
        obtain ⟨v, rfl⟩ : ∃ v : World, v = wr := ⟨_, rfl⟩
        obtain ⟨o0, o1, o2, o3, _⟩ := Ob.all4 (HO.out.bl HB.out)
        clear HOW
        by_cases hlt : j < keys.length
        · obtain ⟨x, hx⟩ := get_some keys j hlt
          have hx4 := keysOK_at HKO.out hx
          obtain ⟨b, o, rfl, hc⟩ := (RK.out.bl (HW.out.trans HB.out)).get hx
          simp only [sv] at hc
          have hrx := lebRowPut_len (tb x) (by rw [tb_len]; omega)
          rw [tb_len] at hrx
          obtain ⟨y, hy⟩ := get_some vals j (by rw [HV.out]; exact hlt)
          have hy4 := valsOK_at HVO.out hy
          obtain ⟨b', o', rfl, hc'⟩ := RV.out.get hy
          simp only [sv] at hc'
          have HC := Lib.hid hc'
          have hry := lebRowPut_len (tb y) (by rw [tb_len]; omega)
          rw [tb_len] at hry
          have hjv : j < vals.length := by rw [HV.out]; exact hlt
          have HS := Lib.hid (show nodeUpto 1 keys vals [] (j + 1) = nodeUpto 1 keys vals [] j ++ lebRowPut (tb x) ++ lebRowPut (tb y) by rw [nodeUpto_succ, nodePiece, getD_of hx, getD_of hy, if_neg (by decide), List.append_assoc])
          clear hx hy hc'
          go_wp2_with (first
            | (refine strb_step rfl 9 24 5 _ (by rfl) Try.underlying9 Try.underlying24 Try.underlying5 (t := x) (by rfl) ?_; intro A3 c3 w3 hrd3 hbl3)
            | (go_at_call 59; (with_reducible refine (leb_PutRow A3 c3 (tb x) w3 (by rw [tb_len]; omega) hrd3).mono ?_); rintro e w4 ⟨v4, rfl, hown4, hbl4⟩; obtain ⟨A4, c4, rfl, hcc4⟩ := hown4.slice; have hz4 := Bl.trans hbl3 hbl4)
            | (at_builtin; refine append_row rfl _ _ 24 5 (.int .u8 0) 1 1 rfl Try.underlying24 Try.infoU8 rfl (by decide) u.heap.size (hown.bl hz4) (by rfl) (by rfl) hown4.rd.1 (by simp) (bv_one _) (by (try simp only [List.length_append]); omega) (by (try simp only [List.length_append]); omega) (HB.out.trans hz4).size ?_; intro v5 w5 hown5 hgr5 hat5; rw [← List.map_append, ← List.length_append] at hown5; have hb5 := (HB.out.trans hz4).grown hgr5 (fun q hq => (hown.bl hz4).ge q hq); clear hgr5 hat5; clear o0 o1 o2 o3 hc; obtain ⟨o0, o1, o2, o3, _⟩ := Ob.all4 (HO.out.bl hb5); have hc := (HW.out.trans hb5).cellAt HC.out)
            | (refine strb_step rfl 9 24 5 _ (by rfl) Try.underlying9 Try.underlying24 Try.underlying5 (t := y) (by rfl) ?_; intro A6 c6 w6 hrd6 hbl6)
            | (go_at_call 59; (with_reducible refine (leb_PutRow A6 c6 (tb y) w6 (by rw [tb_len]; omega) hrd6).mono ?_); rintro e w7 ⟨v7, rfl, hown7, hbl7⟩; obtain ⟨A7, c7, rfl, hcc7⟩ := hown7.slice; have hz7 := Bl.trans hbl6 hbl7)
            | (at_builtin; refine append_row rfl _ _ 24 5 (.int .u8 0) 1 1 rfl Try.underlying24 Try.infoU8 rfl (by decide) u.heap.size (hown5.bl hz7) (by rfl) (by rfl) hown7.rd.1 (by simp) (bv_one _) (by (try simp only [List.length_append]); omega) (by (try simp only [List.length_append]); omega) (hb5.trans hz7).size ?_; intro v8 w8 hown8 hgr8 hat8; rw [← List.map_append, ← List.length_append] at hown8; have hb8 := (hb5.trans hz7).grown hgr8 (fun q hq => (hown5.bl hz7).ge q hq); clear hgr8 hat8; obtain ⟨o0, o1, o2, o3, _⟩ := Ob.all4 (HO.out.bl hb8)))
          rw [← HS.out] at hown8
          go_roundw
          case rel => exact ⟨j + 1, by omega, by go_num, hown8, by rw [HS.out]; simp only [List.length_append]; omega, hb8⟩
          case measure => simp [intOf]; omega
        · obtain rfl : j = keys.length := by omega
          go_wp2_with fail
          go_ret2
          exact RetPut.mk HP.out (hown.mono HW.out.size) (HW.out.trans HB.out)
    · subst hk2
      subst hvn
      have HNO := Lib.hid hno
      have HN := Lib.hid hkl
      obtain ⟨x0, hx0⟩ := get_some kids 0 (by omega)
      have hx04 := kidsOK_at hno hx0
      have hten0 := (lebPut_ten (n := x0.toNat) (by omega)).1
      have hwr0 : IntKind.u64.wrap x0 = x0 := IntWalk.u64_in _ (by omega)
      have HH := Lib.hid (show lebPut keys.length ++ lebPut x0.toNat = nodeUpto 2 keys [] kids 0 by simp [nodeUpto, nodeHead, hx0])
      have h0n : 0 < kids.length := by omega
      obtain ⟨ib, io, rfl, hc0⟩ := RN.out.get hx0
      simp only [iv, Nat.add_zero] at hc0
      have HC0 := Lib.hid hc0
      clear hno hkl hx0 hc0
      have hmay := Lib.hid (hmay _ hk hv hn (RK.out.bl HW.out) (RV.out.bl HW.out) (RN.out.bl HW.out))
      go_enter Try.func32, Try.ntmps32
      go_wp2_with fail
      simp only [List.length_nil] at HW HO hmay ⊢
      generalize w.alloc (.cells #[.int .u8 2, .slice A keys.length c, .slice B 0 d, .slice (some ⟨ib, io, none⟩) kids.length ci] 52) = u at HW HO hmay ⊢
      obtain ⟨o0, o1, o2, o3, _⟩ := Ob.all4 HO.out
      go_wp2_with (first
        | (go_at_call 36; go_must (refine hmay.out.mono ?_); rintro e w1 ⟨rfl, hbl⟩; clear o0 o1 o2 o3; obtain ⟨o0, o1, o2, o3, _⟩ := Ob.all4 (HO.out.bl hbl))
        | (go_at_call 58; (with_reducible refine (leb_Put (keys.length : Int) (by omega) (by omega) _).mono ?_); rintro e w2 ⟨v2, rfl, hown2, hbl2⟩; rw [Int.toNat_natCast] at hown2; have hown2 := hown2.mono (show u.heap.size ≤ _ from hbl.size); have hb2 := Bl.trans hbl hbl2; have hc0 := (HW.out.trans hb2).cellAt HC0.out; clear o0 o1 o2 o3; obtain ⟨o0, o1, o2, o3, _⟩ := Ob.all4 (HO.out.bl hb2))
        | (go_at_call 58; (with_reducible refine (leb_Put x0 (by omega) (by omega) w2).mono ?_); rintro e w3 ⟨v3, rfl, hown3, hbl3⟩; obtain ⟨A3, c3, rfl, hcc3⟩ := hown3.slice)
        | (at_builtin; refine append_row rfl _ _ 24 5 (.int .u8 0) 1 1 rfl Try.underlying24 Try.infoU8 rfl (by decide) u.heap.size (hown2.bl hbl3) (by rfl) (by rfl) hown3.rd.1 (by simp) (bv_one _) (by (try simp only [List.length_append]); omega) (by (try simp only [List.length_append]); omega) (hb2.trans hbl3).size ?_; intro v4 w4 hown4 hgr4 hat4; rw [← List.map_append, ← List.length_append] at hown4; have hb4 := (hb2.trans hbl3).grown hgr4 (fun q hq => (hown2.bl hbl3).ge q hq); clear hgr4 hat4; obtain ⟨o0, o1, o2, o3, _⟩ := Ob.all4 (HO.out.bl hb4)))
      rw [HH.out] at hown4
      have HB2 := Lib.hid hb4
      have HOW := Lib.hid hown4
      have hL0 : (nodeUpto 2 keys [] kids 0).length ≤ 20 := by rw [← HH.out, List.length_append]; omega
      clear hown2 hown3 hown4 hb2 hb4 hbl hbl2 hbl3
      clear o0 o1 o2 o3
      go_loopw [4, 5, 6, 29] (fun out _ _ i wr => ∃ j : Nat, j ≤ keys.length ∧ i = .int .i64 j ∧ App wr u.heap.size 5 1 out (nodeUpto 2 keys [] kids j).length ((nodeUpto 2 keys [] kids j).map bv) ∧ (nodeUpto 2 keys [] kids j).length ≤ 20 + 100 * j ∧ Hid (Bl u wr)) (fun _ _ _ i _ => keys.length - (intOf i).toNat)
      case atStart => exact ⟨0, by omega, rfl, HOW.out, by omega, HB2.out⟩
      case round =>
        obtain ⟨j, hj, rfl, hown, hlen, HB⟩ := hrel
        obtain ⟨v, rfl⟩ : ∃ v : World, v = wr := ⟨_, rfl⟩
        obtain ⟨o0, o1, o2, o3, _⟩ := Ob.all4 (HO.out.bl HB.out)
        clear HOW
        by_cases hlt : j < keys.length
        · obtain ⟨x, hx⟩ := get_some keys j hlt
          have hx4 := keysOK_at HKO.out hx
          obtain ⟨b, o, rfl, hc⟩ := (RK.out.bl (HW.out.trans HB.out)).get hx
          simp only [sv] at hc
          have hrx := lebRowPut_len (tb x) (by rw [tb_len]; omega)
          rw [tb_len] at hrx
          obtain ⟨y, hy⟩ := get_some kids (j + 1) (by rw [HN.out]; omega)
          have hy4 := kidsOK_at HNO.out hy
          obtain ⟨b', o', e', hc'⟩ := RN.out.get hy
          cases e'
          simp only [iv] at hc'
          have HC := Lib.hid hc'
          have hry := (lebPut_ten (n := y.toNat) (by omega)).1
          have hwy : IntKind.u64.wrap y = y := IntWalk.u64_in _ (by omega)
          have hjv : j + 1 < kids.length := by rw [HN.out]; omega
          have HS := Lib.hid (show nodeUpto 2 keys [] kids (j + 1) = nodeUpto 2 keys [] kids j ++ lebRowPut (tb x) ++ lebPut y.toNat by rw [nodeUpto_succ, nodePiece, getD_of hx, getD_of hy, if_pos rfl, List.append_assoc])
          clear hx hy hc'
          go_wp2_with (first
            | (refine strb_step rfl 9 24 5 _ (by rfl) Try.underlying9 Try.underlying24 Try.underlying5 (t := x) (by rfl) ?_; intro A3 c3 w3 hrd3 hbl3)
            | (go_at_call 59; (with_reducible refine (leb_PutRow A3 c3 (tb x) w3 (by rw [tb_len]; omega) hrd3).mono ?_); rintro e w4 ⟨v4, rfl, hown4, hbl4⟩; obtain ⟨A4, c4, rfl, hcc4⟩ := hown4.slice; have hz4 := Bl.trans hbl3 hbl4)
            | (at_builtin; refine append_row rfl _ _ 24 5 (.int .u8 0) 1 1 rfl Try.underlying24 Try.infoU8 rfl (by decide) u.heap.size (hown.bl hz4) (by rfl) (by rfl) hown4.rd.1 (by simp) (bv_one _) (by (try simp only [List.length_append]); omega) (by (try simp only [List.length_append]); omega) (HB.out.trans hz4).size ?_; intro v5 w5 hown5 hgr5 hat5; rw [← List.map_append, ← List.length_append] at hown5; have hb5 := (HB.out.trans hz4).grown hgr5 (fun q hq => (hown.bl hz4).ge q hq); clear hgr5 hat5; clear o0 o1 o2 o3 hc; obtain ⟨o0, o1, o2, o3, _⟩ := Ob.all4 (HO.out.bl hb5); have hc := (HW.out.trans hb5).cellAt HC.out)
            | (go_at_call 58; (with_reducible refine (leb_Put y (by omega) (by omega) w5).mono ?_); rintro e w7 ⟨v7, rfl, hown7, hbl7⟩; obtain ⟨A7, c7, rfl, hcc7⟩ := hown7.slice; have hz7 := hbl7)
            | (at_builtin; refine append_row rfl _ _ 24 5 (.int .u8 0) 1 1 rfl Try.underlying24 Try.infoU8 rfl (by decide) u.heap.size (hown5.bl hz7) (by rfl) (by rfl) hown7.rd.1 (by simp) (bv_one _) (by (try simp only [List.length_append]); omega) (by (try simp only [List.length_append]); omega) (hb5.trans hz7).size ?_; intro v8 w8 hown8 hgr8 hat8; rw [← List.map_append, ← List.length_append] at hown8; have hb8 := (hb5.trans hz7).grown hgr8 (fun q hq => (hown5.bl hz7).ge q hq); clear hgr8 hat8; obtain ⟨o0, o1, o2, o3, _⟩ := Ob.all4 (HO.out.bl hb8)))
          rw [← HS.out] at hown8
          go_roundw
          case rel => exact ⟨j + 1, by omega, by go_num, hown8, by rw [HS.out]; simp only [List.length_append]; omega, hb8⟩
          case measure => simp [intOf]; omega
        · obtain rfl : j = keys.length := by omega
          go_wp2_with fail
          go_ret2
          exact RetPut.mk HP.out (hown.mono HW.out.size) (HW.out.trans HB.out)
theorem ref_row (s : ByteArray) (w : World) (hs : s.size + 10 ≤ 140737488355328) : Calls Try.prog 77 #[.string s] w (RetBytes (lebRowPut (tb s)) w) := by
  go_enter Try.func77, Try.ntmps77
  go_wp2_with (first
    | (refine strb_step rfl 9 24 5 _ (by rfl) Try.underlying9 Try.underlying24 Try.underlying5 (by rfl) ?_; intro A3 c3 w3 hrd3 hbl3)
    | (go_at_call 61; go_must (refine (ref_PutRow A3 c3 (tb s) w3 (by rw [tb_len]; omega) hrd3).mono ?_); rintro e w4 ⟨v4, rfl, hown4, hbl4⟩))
  go_ret
  exact RetBytes.mk (hown4.mono hbl3.size) (hbl3.trans hbl4)
theorem ref_nodePut (k : Int) (A B I : Option Addr) (keys vals : List ByteArray) (kids : List Int) (c d ci : Nat) (w : World) (hk : keys.length ≤ 281474976710656) (hv : vals.length ≤ 281474976710656) (hn : kids.length ≤ 281474976710656)
    (rk : Rd w A (keys.map sv)) (rv : Rd w B (vals.map sv)) (rn : Rd w I (kids.map iv)) :
    Calls Try.prog 33 #[nodeV k A keys.length c B vals.length d I kids.length ci] w (RetPut (nodePut k keys vals kids) w) := by
  have RK := Lib.hid rk
  have RV := Lib.hid rv
  have RN := Lib.hid rn
  have HW := Lib.hid ((Bl.refl w).alloc (.cells #[.int .u8 k, .slice A keys.length c, .slice B vals.length d, .slice I kids.length ci] 52))
  have HO := Lib.hid (Ob.new w #[.int .u8 k, .slice A keys.length c, .slice B vals.length d, .slice I kids.length ci] 52)
  clear rk rv rn
  cases hb : nodeRight k keys vals kids 6 6
  · have HP := Lib.hid (show nodePut k keys vals kids = ([], 2) by unfold nodePut; rw [if_pos hb])
    have HB := Lib.hid hb
    clear hb
    go_enter Try.func33, Try.ntmps33
    go_wp2_with (first | (go_at_call 37; go_must (refine (ref_nodeMay k A B I keys vals kids c d ci _ hk hv hn (RK.out.bl HW.out) (RV.out.bl HW.out) (RN.out.bl HW.out)).mono ?_); rintro e w1 ⟨rfl, hbl⟩; rw [HB.out]))
    go_ret2
    exact RetPut.mk HP.out (App.nil _ _ _ _) (HW.out.trans hbl)
  · have HP := Lib.hid (show nodePut k keys vals kids = (nodeBytes k keys vals kids, 0) by unfold nodePut; rw [if_neg (by rw [hb]; decide)])
    have HB := Lib.hid hb
    obtain ⟨hko, hcase⟩ := nodeRight_or hb
    have HKO := Lib.hid hko
    have hk66 : keys.length ≤ 6 := by rcases hcase with h | h <;> omega
    have hten := (lebPut_ten (n := keys.length) (by omega)).1
    have hwr : IntKind.u64.wrap (keys.length : Int) = (keys.length : Int) := IntWalk.u64_in _ (by omega)
    have hmay := ref_nodeMay k A B I keys vals kids c d ci
    rw [hb] at hmay
    clear hb hko hk66
    rcases hcase with ⟨hk1, hk6, hvl, hkn, hvo⟩ | ⟨hk2, hk1, hk6, hkl, hvn, hno⟩
    · subst hk1
      subst hkn
      have HVO := Lib.hid hvo
      have HV := Lib.hid hvl
      have HH := Lib.hid (show lebPut keys.length = nodeUpto 1 keys vals [] 0 by simp [nodeUpto, nodeHead])
      clear hvo hvl
      have hmay := Lib.hid (hmay _ hk hv hn (RK.out.bl HW.out) (RV.out.bl HW.out) (RN.out.bl HW.out))
      go_enter Try.func33, Try.ntmps33
      go_wp2_with fail
      simp only [List.length_nil] at HW HO hmay ⊢
      generalize w.alloc (.cells #[.int .u8 1, .slice A keys.length c, .slice B vals.length d, .slice I 0 ci] 52) = u at HW HO hmay ⊢
      obtain ⟨o0, o1, o2, o3, _⟩ := Ob.all4 HO.out
      go_wp2_with (first
        | (go_at_call 37; go_must (refine hmay.out.mono ?_); rintro e w1 ⟨rfl, hbl⟩; clear o0 o1 o2 o3; obtain ⟨o0, o1, o2, o3, _⟩ := Ob.all4 (HO.out.bl hbl))
        | (go_at_call 60; (with_reducible refine (ref_Put (keys.length : Int) (by omega) (by omega) _).mono ?_); rintro e w2 ⟨v2, rfl, hown2, hbl2⟩; rw [Int.toNat_natCast] at hown2; have hown2 := hown2.mono (show u.heap.size ≤ _ from hbl.size); have hb2 := Bl.trans hbl hbl2; clear o0 o1 o2 o3; obtain ⟨o0, o1, o2, o3, _⟩ := Ob.all4 (HO.out.bl hb2)))
      rw [HH.out] at hown2 hten
      have HB2 := Lib.hid hb2
      have HOW := Lib.hid hown2
      have hL0 : (nodeUpto 1 keys vals [] 0).length ≤ 20 := by omega
      clear hown2 hb2 hbl hbl2
      clear o0 o1 o2 o3
      go_loopw [4, 5] (fun out i wr => ∃ j : Nat, j ≤ keys.length ∧ i = .int .i64 j ∧ App wr u.heap.size 5 1 out (nodeUpto 1 keys vals [] j).length ((nodeUpto 1 keys vals [] j).map bv) ∧ (nodeUpto 1 keys vals [] j).length ≤ 20 + 100 * j ∧ Hid (Bl u wr)) (fun _ i _ => keys.length - (intOf i).toNat)
      case atStart => exact ⟨0, by omega, rfl, HOW.out, by omega, HB2.out⟩
      case round =>
        obtain ⟨j, hj, rfl, hown, hlen, HB⟩ := hrel
        obtain ⟨v, rfl⟩ : ∃ v : World, v = wr := ⟨_, rfl⟩
        obtain ⟨o0, o1, o2, o3, _⟩ := Ob.all4 (HO.out.bl HB.out)
        clear HOW
        by_cases hlt : j < keys.length
        · obtain ⟨x, hx⟩ := get_some keys j hlt
          have hx4 := keysOK_at HKO.out hx
          obtain ⟨b, o, rfl, hc⟩ := (RK.out.bl (HW.out.trans HB.out)).get hx
          simp only [sv] at hc
          have hrx := lebRowPut_len (tb x) (by rw [tb_len]; omega)
          rw [tb_len] at hrx
          obtain ⟨y, hy⟩ := get_some vals j (by rw [HV.out]; exact hlt)
          have hy4 := valsOK_at HVO.out hy
          obtain ⟨b', o', rfl, hc'⟩ := RV.out.get hy
          simp only [sv] at hc'
          have HC := Lib.hid hc'
          have hry := lebRowPut_len (tb y) (by rw [tb_len]; omega)
          rw [tb_len] at hry
          have hjv : j < vals.length := by rw [HV.out]; exact hlt
          have HS := Lib.hid (show nodeUpto 1 keys vals [] (j + 1) = nodeUpto 1 keys vals [] j ++ lebRowPut (tb x) ++ lebRowPut (tb y) by rw [nodeUpto_succ, nodePiece, getD_of hx, getD_of hy, if_neg (by decide), List.append_assoc])
          clear hx hy hc'
          go_wp2_with (first
            | (go_at_call 77; (with_reducible refine (ref_row x v (by omega)).mono ?_); rintro e w4 ⟨v4, rfl, hown4, hbl4⟩; obtain ⟨A4, c4, rfl, hcc4⟩ := hown4.slice; have hz4 := hbl4)
            | (at_builtin; refine append_row rfl _ _ 24 5 (.int .u8 0) 1 1 rfl Try.underlying24 Try.infoU8 rfl (by decide) u.heap.size (hown.bl hz4) (by rfl) (by rfl) hown4.rd.1 (by simp) (bv_one _) (by (try simp only [List.length_append]); omega) (by (try simp only [List.length_append]); omega) (HB.out.trans hz4).size ?_; intro v5 w5 hown5 hgr5 hat5; rw [← List.map_append, ← List.length_append] at hown5; have hb5 := (HB.out.trans hz4).grown hgr5 (fun q hq => (hown.bl hz4).ge q hq); clear hgr5 hat5; clear o0 o1 o2 o3 hc; obtain ⟨o0, o1, o2, o3, _⟩ := Ob.all4 (HO.out.bl hb5); have hc := (HW.out.trans hb5).cellAt HC.out)
            | (go_at_call 77; (with_reducible refine (ref_row y w5 (by omega)).mono ?_); rintro e w7 ⟨v7, rfl, hown7, hbl7⟩; obtain ⟨A7, c7, rfl, hcc7⟩ := hown7.slice; have hz7 := hbl7)
            | (at_builtin; refine append_row rfl _ _ 24 5 (.int .u8 0) 1 1 rfl Try.underlying24 Try.infoU8 rfl (by decide) u.heap.size (hown5.bl hz7) (by rfl) (by rfl) hown7.rd.1 (by simp) (bv_one _) (by (try simp only [List.length_append]); omega) (by (try simp only [List.length_append]); omega) (hb5.trans hz7).size ?_; intro v8 w8 hown8 hgr8 hat8; rw [← List.map_append, ← List.length_append] at hown8; have hb8 := (hb5.trans hz7).grown hgr8 (fun q hq => (hown5.bl hz7).ge q hq); clear hgr8 hat8; obtain ⟨o0, o1, o2, o3, _⟩ := Ob.all4 (HO.out.bl hb8)))
          rw [← HS.out] at hown8
          go_roundw
          case rel => exact ⟨j + 1, by omega, by go_num, hown8, by rw [HS.out]; simp only [List.length_append]; omega, hb8⟩
          case measure => simp [intOf]; omega
        · obtain rfl : j = keys.length := by omega
          go_wp2_with fail
          go_ret2
          exact RetPut.mk HP.out (hown.mono HW.out.size) (HW.out.trans HB.out)
    · subst hk2
      subst hvn
      have HNO := Lib.hid hno
      have HN := Lib.hid hkl
      obtain ⟨x0, hx0⟩ := get_some kids 0 (by omega)
      have hx04 := kidsOK_at hno hx0
      have hten0 := (lebPut_ten (n := x0.toNat) (by omega)).1
      have hwr0 : IntKind.u64.wrap x0 = x0 := IntWalk.u64_in _ (by omega)
      have HH := Lib.hid (show lebPut keys.length ++ lebPut x0.toNat = nodeUpto 2 keys [] kids 0 by simp [nodeUpto, nodeHead, hx0])
      have h0n : 0 < kids.length := by omega
      obtain ⟨ib, io, rfl, hc0⟩ := RN.out.get hx0
      simp only [iv, Nat.add_zero] at hc0
      have HC0 := Lib.hid hc0
      clear hno hkl hx0 hc0
      have hmay := Lib.hid (hmay _ hk hv hn (RK.out.bl HW.out) (RV.out.bl HW.out) (RN.out.bl HW.out))
      go_enter Try.func33, Try.ntmps33
      go_wp2_with fail
      simp only [List.length_nil] at HW HO hmay ⊢
      generalize w.alloc (.cells #[.int .u8 2, .slice A keys.length c, .slice B 0 d, .slice (some ⟨ib, io, none⟩) kids.length ci] 52) = u at HW HO hmay ⊢
      obtain ⟨o0, o1, o2, o3, _⟩ := Ob.all4 HO.out
      go_wp2_with (first
        | (go_at_call 37; go_must (refine hmay.out.mono ?_); rintro e w1 ⟨rfl, hbl⟩; clear o0 o1 o2 o3; obtain ⟨o0, o1, o2, o3, _⟩ := Ob.all4 (HO.out.bl hbl))
        | (go_at_call 60; (with_reducible refine (ref_Put (keys.length : Int) (by omega) (by omega) _).mono ?_); rintro e w2 ⟨v2, rfl, hown2, hbl2⟩; rw [Int.toNat_natCast] at hown2; have hown2 := hown2.mono (show u.heap.size ≤ _ from hbl.size); have hb2 := Bl.trans hbl hbl2; have hc0 := (HW.out.trans hb2).cellAt HC0.out; clear o0 o1 o2 o3; obtain ⟨o0, o1, o2, o3, _⟩ := Ob.all4 (HO.out.bl hb2))
        | (go_at_call 60; (with_reducible refine (ref_Put x0 (by omega) (by omega) w2).mono ?_); rintro e w3 ⟨v3, rfl, hown3, hbl3⟩; obtain ⟨A3, c3, rfl, hcc3⟩ := hown3.slice)
        | (at_builtin; refine append_row rfl _ _ 24 5 (.int .u8 0) 1 1 rfl Try.underlying24 Try.infoU8 rfl (by decide) u.heap.size (hown2.bl hbl3) (by rfl) (by rfl) hown3.rd.1 (by simp) (bv_one _) (by (try simp only [List.length_append]); omega) (by (try simp only [List.length_append]); omega) (hb2.trans hbl3).size ?_; intro v4 w4 hown4 hgr4 hat4; rw [← List.map_append, ← List.length_append] at hown4; have hb4 := (hb2.trans hbl3).grown hgr4 (fun q hq => (hown2.bl hbl3).ge q hq); clear hgr4 hat4; obtain ⟨o0, o1, o2, o3, _⟩ := Ob.all4 (HO.out.bl hb4)))
      rw [HH.out] at hown4
      have HB2 := Lib.hid hb4
      have HOW := Lib.hid hown4
      have hL0 : (nodeUpto 2 keys [] kids 0).length ≤ 20 := by rw [← HH.out, List.length_append]; omega
      clear hown2 hown3 hown4 hb2 hb4 hbl hbl2 hbl3
      clear o0 o1 o2 o3
      go_loopw [4, 5] (fun out i wr => ∃ j : Nat, j ≤ keys.length ∧ i = .int .i64 j ∧ App wr u.heap.size 5 1 out (nodeUpto 2 keys [] kids j).length ((nodeUpto 2 keys [] kids j).map bv) ∧ (nodeUpto 2 keys [] kids j).length ≤ 20 + 100 * j ∧ Hid (Bl u wr)) (fun _ i _ => keys.length - (intOf i).toNat)
      case atStart => exact ⟨0, by omega, rfl, HOW.out, by omega, HB2.out⟩
      case round =>
        obtain ⟨j, hj, rfl, hown, hlen, HB⟩ := hrel
        obtain ⟨v, rfl⟩ : ∃ v : World, v = wr := ⟨_, rfl⟩
        obtain ⟨o0, o1, o2, o3, _⟩ := Ob.all4 (HO.out.bl HB.out)
        clear HOW
        by_cases hlt : j < keys.length
        · obtain ⟨x, hx⟩ := get_some keys j hlt
          have hx4 := keysOK_at HKO.out hx
          obtain ⟨b, o, rfl, hc⟩ := (RK.out.bl (HW.out.trans HB.out)).get hx
          simp only [sv] at hc
          have hrx := lebRowPut_len (tb x) (by rw [tb_len]; omega)
          rw [tb_len] at hrx
          obtain ⟨y, hy⟩ := get_some kids (j + 1) (by rw [HN.out]; omega)
          have hy4 := kidsOK_at HNO.out hy
          obtain ⟨b', o', e', hc'⟩ := RN.out.get hy
          cases e'
          simp only [iv] at hc'
          have HC := Lib.hid hc'
          have hry := (lebPut_ten (n := y.toNat) (by omega)).1
          have hwy : IntKind.u64.wrap y = y := IntWalk.u64_in _ (by omega)
          have hjv : j + 1 < kids.length := by rw [HN.out]; omega
          have HS := Lib.hid (show nodeUpto 2 keys [] kids (j + 1) = nodeUpto 2 keys [] kids j ++ lebRowPut (tb x) ++ lebPut y.toNat by rw [nodeUpto_succ, nodePiece, getD_of hx, getD_of hy, if_pos rfl, List.append_assoc])
          clear hx hy hc'
          go_wp2_with (first
            | (go_at_call 77; (with_reducible refine (ref_row x v (by omega)).mono ?_); rintro e w4 ⟨v4, rfl, hown4, hbl4⟩; obtain ⟨A4, c4, rfl, hcc4⟩ := hown4.slice; have hz4 := hbl4)
            | (at_builtin; refine append_row rfl _ _ 24 5 (.int .u8 0) 1 1 rfl Try.underlying24 Try.infoU8 rfl (by decide) u.heap.size (hown.bl hz4) (by rfl) (by rfl) hown4.rd.1 (by simp) (bv_one _) (by (try simp only [List.length_append]); omega) (by (try simp only [List.length_append]); omega) (HB.out.trans hz4).size ?_; intro v5 w5 hown5 hgr5 hat5; rw [← List.map_append, ← List.length_append] at hown5; have hb5 := (HB.out.trans hz4).grown hgr5 (fun q hq => (hown.bl hz4).ge q hq); clear hgr5 hat5; clear o0 o1 o2 o3 hc; obtain ⟨o0, o1, o2, o3, _⟩ := Ob.all4 (HO.out.bl hb5); have hc := (HW.out.trans hb5).cellAt HC.out)
            | (go_at_call 60; (with_reducible refine (ref_Put y (by omega) (by omega) w5).mono ?_); rintro e w7 ⟨v7, rfl, hown7, hbl7⟩; obtain ⟨A7, c7, rfl, hcc7⟩ := hown7.slice; have hz7 := hbl7)
            | (at_builtin; refine append_row rfl _ _ 24 5 (.int .u8 0) 1 1 rfl Try.underlying24 Try.infoU8 rfl (by decide) u.heap.size (hown5.bl hz7) (by rfl) (by rfl) hown7.rd.1 (by simp) (bv_one _) (by (try simp only [List.length_append]); omega) (by (try simp only [List.length_append]); omega) (hb5.trans hz7).size ?_; intro v8 w8 hown8 hgr8 hat8; rw [← List.map_append, ← List.length_append] at hown8; have hb8 := (hb5.trans hz7).grown hgr8 (fun q hq => (hown5.bl hz7).ge q hq); clear hgr8 hat8; obtain ⟨o0, o1, o2, o3, _⟩ := Ob.all4 (HO.out.bl hb8)))
          rw [← HS.out] at hown8
          go_roundw
          case rel => exact ⟨j + 1, by omega, by go_num, hown8, by rw [HS.out]; simp only [List.length_append]; omega, hb8⟩
          case measure => simp [intOf]; omega
        · obtain rfl : j = keys.length := by omega
          go_wp2_with fail
          go_ret2
          exact RetPut.mk HP.out (hown.mono HW.out.size) (HW.out.trans HB.out)
end Go.Proofs.Ytedmamchfgkkfaa
