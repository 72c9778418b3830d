/- Texts of the claim NodeMaps, part 6: NodeU, NodeX, NodeIns, NodeSt, LebBack, LebBack2, NodeBk. -/
import Derived.Test.YtedmamchfgkkfaaGNodeMaps5
import Derived.Test.YtedmamchfgkkfaaGNodeMaps4
import Derived.Test.YtedmamchfgkkfaaGNodeMaps2
import Derived.Shelf.Spec.SlicesInsertGrow
import Derived.Shelf.Slices.Cells
import Derived.Test.YtedmamchfgkkfaaProg
import Derived.Test.YtedmamchfgkkfaaGNodeMaps1
/- The reference of layer 18 (node) walked: Join. -/
set_option linter.unusedVariables false
set_option linter.unusedSimpArgs false
namespace Go.Proofs.Ytedmamchfgkkfaa
open Go.RowKit
set_option maxRecDepth 100000
set_option maxHeartbeats 8000000

/-- Two boxes and a result's variable. -/
theorem join_setup (w : World) (cs cs2 : Array Value) :
    Ob (((w.alloc (.cells cs 52)).alloc (.cells cs2 52)).alloc (.cells #[.int .u8 0, .slice none 0 0, .slice none 0 0, .slice none 0 0] 52)) w.heap.size 52 cs ∧
    Ob (((w.alloc (.cells cs 52)).alloc (.cells cs2 52)).alloc (.cells #[.int .u8 0, .slice none 0 0, .slice none 0 0, .slice none 0 0] 52)) (w.heap.size + 1) 52 cs2 ∧
    Ob (((w.alloc (.cells cs 52)).alloc (.cells cs2 52)).alloc (.cells #[.int .u8 0, .slice none 0 0, .slice none 0 0, .slice none 0 0] 52)) (w.heap.size + 1 + 1) 52 #[.int .u8 0, .slice none 0 0, .slice none 0 0, .slice none 0 0] := by
  refine ⟨?_, ?_, ?_⟩
  all_goals simp only [Ob, heap_alloc_at, heap_alloc_size, if_true] <;> (repeat' split) <;> first | rfl | omega
theorem ref_nodeJoin (k : Int) (A B I : Option Addr) (keys vals : List ByteArray) (kids : List Int) (c d ci : Nat) (sep : ByteArray) (k2 : Int) (A2 B2 I2 : Option Addr) (keys2 vals2 : List ByteArray) (kids2 : List Int) (c2 d2 ci2 : Nat) (w : World)
    (hk : keys.length * 16 ≤ 140737488355328) (hv : vals.length * 16 ≤ 140737488355328) (hn : kids.length * 8 ≤ 140737488355328) (hk2 : keys2.length * 16 ≤ 140737488355328) (hv2 : vals2.length * 16 ≤ 140737488355328) (hn2 : kids2.length * 8 ≤ 140737488355328)
    (rk : Rd w A (keys.map sv)) (rv : Rd w B (vals.map sv)) (rn : Rd w I (kids.map iv)) (rk2 : Rd w A2 (keys2.map sv)) (rv2 : Rd w B2 (vals2.map sv)) (rn2 : Rd w I2 (kids2.map iv)) :
    Calls Try.prog 50 #[nodeV k A keys.length c B vals.length d I kids.length ci, .string sep, nodeV k2 A2 keys2.length c2 B2 vals2.length d2 I2 kids2.length ci2] w (RetNode (nodeJoin ⟨k, keys, vals, kids⟩ sep ⟨k2, keys2, vals2, kids2⟩) w) := by
  have RK := Lib.hid rk
  have RV := Lib.hid rv
  have RN := Lib.hid rn
  have RK2 := Lib.hid rk2
  have RV2 := Lib.hid rv2
  have RN2 := Lib.hid rn2
  obtain ⟨o1, o2, o3⟩ := join_setup w #[.int .u8 k, .slice A keys.length c, .slice B vals.length d, .slice I kids.length ci] #[.int .u8 k2, .slice A2 keys2.length c2, .slice B2 vals2.length d2, .slice I2 kids2.length ci2]
  have HO := Lib.hid o1
  have HO2 := Lib.hid o2
  have HZ := Lib.hid o3
  have HW := Lib.hid ((((Bl.refl w).alloc (.cells #[.int .u8 k, .slice A keys.length c, .slice B vals.length d, .slice I kids.length ci] 52)).alloc (.cells #[.int .u8 k2, .slice A2 keys2.length c2, .slice B2 vals2.length d2, .slice I2 kids2.length ci2] 52)).alloc (.cells #[.int .u8 0, .slice none 0 0, .slice none 0 0, .slice none 0 0] 52))
  clear rk rv rn rk2 rv2 rn2 o1 o2 o3
  go_enter Try.func50, Try.ntmps50
  go_wp2_with (go_at_call 35; fail_if_success skip)
  generalize (((w.alloc (.cells #[.int .u8 k, .slice A keys.length c, .slice B vals.length d, .slice I kids.length ci] 52)).alloc (.cells #[.int .u8 k2, .slice A2 keys2.length c2, .slice B2 vals2.length d2, .slice I2 kids2.length ci2] 52)).alloc (.cells #[.int .u8 0, .slice none 0 0, .slice none 0 0, .slice none 0 0] 52)) = u at HO HO2 HZ HW ⊢
  refine (ref_nodeWide k A B I keys vals kids c d ci u (by omega) (by omega) (by omega) (RK.out.bl HW.out) (RV.out.bl HW.out) (RN.out.bl HW.out)).mono ?_
  rintro e w1 ⟨rfl, hbl1⟩
  have HB1 := Lib.hid hbl1
  have HWB : Hid (∀ w', Bl u w' → Calls Try.prog 35 #[nodeV k2 A2 keys2.length c2 B2 vals2.length d2 I2 kids2.length ci2] w' (RetBl (nodeRight k2 keys2 vals2 kids2 12 13) w')) := fun w' h =>
    ref_nodeWide k2 A2 B2 I2 keys2 vals2 kids2 c2 d2 ci2 w' (by omega) (by omega) (by omega) (RK2.out.bl (HW.out.trans h)) (RV2.out.bl (HW.out.trans h)) (RN2.out.bl (HW.out.trans h))
  obtain ⟨a0, a1, a2, a3, _⟩ := Ob.all4 (HO.out.bl hbl1)
  obtain ⟨b0, b1, b2, b3, _⟩ := Ob.all4 (HO2.out.bl hbl1)
  obtain ⟨z0, z1, z2, z3, f0, f1, f2, f3⟩ := Ob.all4 (HZ.out.bl hbl1)
  clear hbl1
  have HJ := Lib.hid (show nodeJoin ⟨k, keys, vals, kids⟩ sep ⟨k2, keys2, vals2, kids2⟩ = _ from rfl)
  have no : ∀ {x : Prop}, x → True := fun _ => trivial
  cases hr : nodeRight k keys vals kids 12 13
  · have HP := Lib.hid (show nodeJoin ⟨k, keys, vals, kids⟩ sep ⟨k2, keys2, vals2, kids2⟩ = nodeNo 2 by unfold nodeJoin; rw [if_pos (.inl hr)])
    clear hr no
    go_wp2_with fail
    refine bodyPost_ret (v := .tuple #[nodeV 0 none 0 0 none 0 0 none 0 0, .int .i64 2]) (results_ct rfl _ _ ((HZ.out.bl HB1.out).set4 _ _ _ _).1 rfl rfl Try.underlying52 rfl Try.sizeNode) rfl ?_
    exact RetNode.no HP.out (((HW.out.trans HB1.out).ch [w.heap.size + 1 + 1]).same ((HZ.out.bl HB1.out).set4 _ _ _ _).2 |>.bl (by intro g hg; simp at hg; omega))
  · go_wp2_with (go_at_call 35; fail_if_success skip)
    refine (HWB.out w1 HB1.out).mono ?_
    rintro e w2 ⟨rfl, hbl2⟩
    have HB2 := Lib.hid (HB1.out.trans hbl2)
    clear a0 a1 a2 a3 b0 b1 b2 b3 z0 z1 z2 z3 f0 f1 f2 f3
    obtain ⟨a0, a1, a2, a3, _⟩ := Ob.all4 (HO.out.bl HB2.out)
    obtain ⟨b0, b1, b2, b3, _⟩ := Ob.all4 (HO2.out.bl HB2.out)
    obtain ⟨z0, z1, z2, z3, f0, f1, f2, f3⟩ := Ob.all4 (HZ.out.bl HB2.out)
    clear hbl2
    by_cases hbad : nodeRight k2 keys2 vals2 kids2 12 13 = false ∨ k ≠ k2 ∨ sep.size < 1 ∨ 40 < sep.size
    · have HP := Lib.hid (show nodeJoin ⟨k, keys, vals, kids⟩ sep ⟨k2, keys2, vals2, kids2⟩ = nodeNo 2 by unfold nodeJoin; rw [if_pos (.inr hbad)])
      have key : ∀ {w' : World}, w' = w' := rfl
      rcases (show (nodeRight k2 keys2 vals2 kids2 12 13 = false) ∨ (nodeRight k2 keys2 vals2 kids2 12 13 = true ∧ (k != k2) = true) ∨ (nodeRight k2 keys2 vals2 kids2 12 13 = true ∧ (k != k2) = false ∧ sep.size < 1) ∨ (nodeRight k2 keys2 vals2 kids2 12 13 = true ∧ (k != k2) = false ∧ 1 ≤ sep.size ∧ 40 < sep.size) by
        cases h1 : nodeRight k2 keys2 vals2 kids2 12 13
        · exact .inl rfl
        · right
          by_cases h2 : k = k2
          · right
            have e2 : (k != k2) = false := by simpa using h2
            by_cases h3 : sep.size < 1
            · exact .inl ⟨rfl, e2, h3⟩
            · right
              refine ⟨rfl, e2, by omega, ?_⟩
              rcases hbad with h | h | h | h
              · rw [h1] at h; cases h
              · exact absurd h2 h
              · omega
              · exact h
          · exact .inl ⟨rfl, by simpa using h2⟩) with h1 | ⟨h1, h2⟩ | ⟨h1, h2, h3⟩ | ⟨h1, h2, h3, h4⟩
      all_goals
        clear hbad hr no key
        rw [h1]
        go_wp2_with fail
        refine bodyPost_ret (v := .tuple #[nodeV 0 none 0 0 none 0 0 none 0 0, .int .i64 2]) (results_ct rfl _ _ ((HZ.out.bl HB2.out).set4 _ _ _ _).1 rfl rfl Try.underlying52 rfl Try.sizeNode) rfl ?_
        exact RetNode.no HP.out (((HW.out.trans HB2.out).ch [w.heap.size + 1 + 1]).same ((HZ.out.bl HB2.out).set4 _ _ _ _).2 |>.bl (by intro g hg; simp at hg; omega))
    · have h1 : nodeRight k2 keys2 vals2 kids2 12 13 = true := by
        cases h1 : nodeRight k2 keys2 vals2 kids2 12 13
        · exact absurd (.inl h1) hbad
        · rfl
      have hkk : k = k2 := by
        by_cases h2 : k = k2
        · exact h2
        · exact absurd (.inr (.inl h2)) hbad
      have s1 : 1 ≤ sep.size := by omega
      have s2 : sep.size ≤ 40 := by omega
      subst hkk
      rw [h1]
      have HJ1 := Lib.hid (show nodeJoin ⟨k, keys, vals, kids⟩ sep ⟨k, keys2, vals2, kids2⟩ = (if k = 2 then joinEnd 2 (keys ++ [sep] ++ keys2) [] (kids ++ kids2) else if joinOK keys sep keys2 = false then nodeNo 2 else joinEnd k (keys ++ keys2) (vals ++ vals2) []) by
        unfold nodeJoin
        rw [if_neg (show ¬ _ from fun h => by
          rcases h with h | h | h | h | h
          · have h : nodeRight k keys vals kids 12 13 = false := h
            rw [hr] at h; cases h
          · have h : nodeRight k keys2 vals2 kids2 12 13 = false := h
            rw [h1] at h; cases h
          · exact h rfl
          · omega
          · omega)])
      have HR1 := Lib.hid (nodeRight_or hr)
      have HR2 := Lib.hid (nodeRight_or h1)
      have e0 : (k != k) = false := by simp
      clear hr h1 hbad no HJ HWB
      go_upto_if 41 with (go_at_call 46; go_must (refine (ref_nodeCopy k A B I keys vals kids c d ci w2 hk hv hn (RK.out.bl (HW.out.trans HB2.out)) (RV.out.bl (HW.out.trans HB2.out)) (RN.out.bl (HW.out.trans HB2.out))).mono ?_); rintro e w3 ⟨A3, c3, B3, d3, I3, ci3, rfl, hA3, hB3, hI3, hbl3, hap3⟩; have hv3 := hbl3.alloc (.cells #[.int .u8 k, .slice A3 keys.length c3, .slice B3 vals.length d3, .slice I3 kids.length ci3] 52); clear a0 a1 a2 a3 b0 b1 b2 b3 z0 z1 z2 z3 f0 f1 f2 f3; obtain ⟨a0, a1, a2, a3, _⟩ := Ob.all4 (HO.out.bl (HB2.out.trans hv3)))
      have S0 : JSt w k (w.heap.size + 1 + 1) w3.heap.size w2.heap.size (w3.alloc (.cells #[.int .u8 k, .slice A3 keys.length c3, .slice B3 vals.length d3, .slice I3 kids.length ci3] 52)) keys vals kids (.slice A3 keys.length c3) (.slice B3 vals.length d3) (.slice I3 kids.length ci3) :=
        ⟨HZ.out.bl (HB2.out.trans hv3), Ob.new w3 _ _, hA3.bl ((Bl.refl _).alloc _), hB3.bl ((Bl.refl _).alloc _), hI3.bl ((Bl.refl _).alloc _), (HW.out.trans HB2.out).trans hv3,
          ⟨by omega, Nat.le_trans (HW.out.trans HB2.out).size hbl3.size, (HW.out.trans HB2.out).size, by have := hbl3.size; simp; omega, by have h1 := HZ.out.lt; have h2 := (HB2.out.trans hbl3).size; omega⟩, hap3⟩
      have HS0 := Lib.hid S0
      have HV3 := Lib.hid (HB2.out.trans hv3)
      have hub : u.heap.size ≤ w2.heap.size ∧ u.heap.size ≤ w3.heap.size := ⟨HB2.out.size, (HB2.out.trans hbl3).size⟩
      have HUB := Lib.hid hub
      clear hA3 hB3 hI3 hap3 S0 hv3 hub
      generalize w3.alloc (.cells #[.int .u8 k, .slice A3 keys.length c3, .slice B3 vals.length d3, .slice I3 kids.length ci3] 52) = v at HS0 HV3 a0 a1 a2 a3 ⊢
      generalize w3.heap.size = g8 at HS0 HUB ⊢
      generalize w2.heap.size = base at HS0 HUB ⊢
      generalize hgR : w.heap.size + 1 + 1 = gR at HS0 HZ ⊢
      obtain ⟨ks', hks⟩ : ∃ ks' : List ByteArray, ks' = if k = 2 then keys ++ [sep] else keys := ⟨_, rfl⟩
      have HKS := Lib.hid hks
      clear hks
      go_cut [] (fun wx => Hid (∃ K V I, JSt w k gR g8 base wx ks' vals kids K V I ∧ Bl u wx))
      case first =>
        by_cases h2 : k = 2
        · have HKE := Lib.hid (HKS.out.trans (if_pos h2))
          subst h2
          obtain ⟨n0, n1, n2, n3, _⟩ := Ob.all4 HS0.out.oN
          have hl13 : keys.length ≤ 13 := by have := HR1.out.2; omega
          go_wp2_with (at_builtin; go_must (refine append_one rfl _ _ 49 9 (.string .empty) 1 16 rfl Try.underlying49 Try.infoStr rfl (by decide) base HS0.out.aK (by rfl) (by rfl) (by rfl) (by intro u hu; simp at hu; subst hu; rfl) (by omega) (by omega) HS0.out.ord.2.2.2.1 ?_); intro v4 w4 hown4 hgr4 hat4; obtain ⟨A4, c4, rfl, hcc4⟩ := hown4.slice; have S4 := HS0.out.keys (n := 1) (xs := [sep]) rfl hown4 hgr4 hat4; have hN4 := (HS0.out.grow HS0.out.aK (by decide) hgr4 1 (.int .i64 0)).2.1; have g4 := hN4.cell 1 rfl; simp only [List.getElem_toArray, List.getElem_cons_zero, List.getElem_cons_succ] at g4; have f4 := hN4.free 1)
          go_meet
          case rel => exact ⟨_, _, _, by rw [HKE.out]; exact S4, (HV3.out.grown hgr4 (fun q hq => Nat.le_trans HUB.out.1 (HS0.out.aK.ge q hq))).setCell HUB.out.2 _⟩
        · have b2 : (k == 2) = false := by simpa using h2
          have HKE := Lib.hid (HKS.out.trans (if_neg h2))
          go_wp2_with fail
          go_meet
          case rel => exact ⟨_, _, _, by rw [HKE.out]; exact HS0.out, HV3.out⟩
      case rest =>
        obtain ⟨K, V, I', S5, hb5⟩ := hcut.out
        have HS5 := Lib.hid S5
        have HB5 := Lib.hid hb5
        clear S5 a0 a1 a2 a3 hb5
        obtain ⟨a0, a1, a2, a3, _⟩ := Ob.all4 (HO.out.bl HB5.out)
        obtain ⟨b0, b1, b2, b3, _⟩ := Ob.all4 (HO2.out.bl HB5.out)
        obtain ⟨z0, z1, z2, z3, f0, f1, f2, f3⟩ := Ob.all4 HS5.out.oR
        have hk13 : keys.length ≤ 13 := by have := HR1.out.2; omega
        have hk213 : keys2.length ≤ 13 := by have := HR2.out.2; omega
        go_wp2_with fail
        go_loopw [9] (fun i wr => ∃ j : Nat, j ≤ keys.length ∧ i = .int .i64 j ∧ Hid (k = 1 → ∀ x ∈ keys.take j, sLt x sep = true) ∧ wr = wc) (fun i _ => keys.length - (intOf i).toNat)
        case atStart => exact ⟨0, by omega, rfl, fun _ x hx => by simp at hx, rfl⟩
        case round =>
          obtain ⟨j, hj, rfl, HQ, hwr⟩ := hrel
          have hwr2 := hwr.symm
          clear hwr
          subst hwr2
          by_cases hlt : j < keys.length
          · obtain ⟨x, hx⟩ := get_some keys j hlt
            obtain ⟨bb, oo, rfl, hc⟩ := (RK.out.bl (HW.out.trans HB5.out)).get hx
            simp only [sv] at hc
            have HT := Lib.hid (show keys.take (j + 1) = keys.take j ++ [x] by rw [List.take_add_one, hx]; rfl)
            cases hs : sLt x sep
            · have HS := Lib.hid hs
              have hcmp : Op.bytesLess x.toList sep.toList = false := hs
              clear hs
              by_cases hk1 : k = 1
              · have HP := Lib.hid (show nodeJoin ⟨k, keys, vals, kids⟩ sep ⟨k, keys2, vals2, kids2⟩ = nodeNo 2 by
                  rw [HJ1.out, if_neg (by omega), if_pos ?_]
                  unfold joinOK
                  rw [show keys.all (fun x => sLt x sep) = false by rw [List.all_eq_false]; exact ⟨x, List.mem_of_getElem? hx, by rw [HS.out]; simp⟩]
                  simp)
                subst hk1
                clear hx
                go_wp2_with fail
                refine bodyPost_ret (v := .tuple #[nodeV 0 none 0 0 none 0 0 none 0 0, .int .i64 2]) (results_ct rfl _ _ (HS5.out.oR.set4 _ _ _ _).1 rfl rfl Try.underlying52 rfl Try.sizeNode) rfl ?_
                exact RetNode.no HP.out ((HS5.out.wb.ch [gR]).same (HS5.out.oR.set4 _ _ _ _).2 |>.bl (by have := HS5.out.ord.1; intro g hg; simp at hg; omega))
              · have c1 : (k == 1) = false := by simpa using hk1
                have HK1 := Lib.hid hk1
                clear hk1 hx
                go_wp2_with fail
                go_roundw
                case rel => exact ⟨j + 1, by omega, by go_num, fun hk1 => absurd hk1 HK1.out, trivial⟩
                case measure => simp [intOf]; omega
            · have HS := Lib.hid hs
              have hcmp : Op.bytesLess x.toList sep.toList = true := hs
              clear hs hx
              go_wp2_with fail
              go_roundw
              case rel =>
                refine ⟨j + 1, by omega, by go_num, fun hk1 y hy => ?_, trivial⟩
                rw [HT.out] at hy
                rcases List.mem_append.1 hy with hy | hy
                · exact HQ.out hk1 y hy
                · simp at hy; subst hy; exact HS.out
              case measure => simp [intOf]; omega
          · obtain rfl : j = keys.length := by omega
            have HQ1 := Lib.hid (show k = 1 → keys.all (fun x => sLt x sep) = true from fun h => by
              rw [List.all_eq_true]; intro y hy
              have := HQ.out h y
              rw [List.take_length] at this
              exact this hy)
            clear HQ
            go_wp2_with fail
            go_loopw [10] (fun i wr => ∃ j : Nat, j ≤ keys2.length ∧ i = .int .i64 j ∧ Hid (k = 1 → ∀ x ∈ keys2.take j, sLt x sep = false) ∧ wr = wc) (fun i _ => keys2.length - (intOf i).toNat)
            case atStart => exact ⟨0, by omega, rfl, fun _ x hx => by simp at hx, rfl⟩
            case round =>
              obtain ⟨j, hj, rfl, HQ, hwr⟩ := hrel
              have hwr2 := hwr.symm
              clear hwr
              subst hwr2
              by_cases hlt : j < keys2.length
              · obtain ⟨x, hx⟩ := get_some keys2 j hlt
                obtain ⟨bb, oo, rfl, hc⟩ := (RK2.out.bl (HW.out.trans HB5.out)).get hx
                simp only [sv] at hc
                have HT := Lib.hid (show keys2.take (j + 1) = keys2.take j ++ [x] by rw [List.take_add_one, hx]; rfl)
                cases hs : sLt x sep
                · have HS := Lib.hid hs
                  have hcmp : Op.bytesLess x.toList sep.toList = false := hs
                  clear hs hx
                  go_wp2_with fail
                  go_roundw
                  case rel =>
                    refine ⟨j + 1, by omega, by go_num, fun hk1 y hy => ?_, trivial⟩
                    rw [HT.out] at hy
                    rcases List.mem_append.1 hy with hy | hy
                    · exact HQ.out hk1 y hy
                    · simp at hy; subst hy; exact HS.out
                  case measure => simp [intOf]; omega
                · have HS := Lib.hid hs
                  have hcmp : Op.bytesLess x.toList sep.toList = true := hs
                  clear hs
                  by_cases hk1 : k = 1
                  · have HP := Lib.hid (show nodeJoin ⟨k, keys, vals, kids⟩ sep ⟨k, keys2, vals2, kids2⟩ = nodeNo 2 by
                      rw [HJ1.out, if_neg (by omega), if_pos ?_]
                      unfold joinOK
                      rw [show keys2.all (fun x => !sLt x sep) = false by rw [List.all_eq_false]; exact ⟨x, List.mem_of_getElem? hx, by rw [HS.out]; simp⟩]
                      simp)
                    subst hk1
                    clear hx
                    go_wp2_with fail
                    refine bodyPost_ret (v := .tuple #[nodeV 0 none 0 0 none 0 0 none 0 0, .int .i64 2]) (results_ct rfl _ _ (HS5.out.oR.set4 _ _ _ _).1 rfl rfl Try.underlying52 rfl Try.sizeNode) rfl ?_
                    exact RetNode.no HP.out ((HS5.out.wb.ch [gR]).same (HS5.out.oR.set4 _ _ _ _).2 |>.bl (by have := HS5.out.ord.1; intro g hg; simp at hg; omega))
                  · have c1 : (k == 1) = false := by simpa using hk1
                    have HK1 := Lib.hid hk1
                    clear hk1 hx
                    go_wp2_with fail
                    go_roundw
                    case rel => exact ⟨j + 1, by omega, by go_num, fun hk1 => absurd hk1 HK1.out, trivial⟩
                    case measure => simp [intOf]; omega
              · obtain rfl : j = keys2.length := by omega
                have HQ2 := Lib.hid (show k = 1 → keys2.all (fun x => !sLt x sep) = true from fun h => by
                  rw [List.all_eq_true]; intro y hy
                  have := HQ.out h y
                  rw [List.take_length] at this
                  rw [this hy]; rfl)
                clear HQ
                obtain ⟨AK, cK, rfl, _⟩ := HS5.out.aK.slice
                obtain ⟨AV, cV, rfl, _⟩ := HS5.out.aV.slice
                obtain ⟨AI, cI, rfl, _⟩ := HS5.out.aI.slice
                obtain ⟨n0, n1, n2, n3, _⟩ := Ob.all4 HS5.out.oN
                have hks14 : ks'.length ≤ 14 := by rw [HKS.out]; split <;> first | omega | (simp; omega)
                have hv14 : vals.length ≤ 14 := by have := HR1.out.2; rcases this with h | h <;> simp_all <;> omega
                have hv214 : vals2.length ≤ 14 := by have := HR2.out.2; rcases this with h | h <;> simp_all <;> omega
                have hi14 : kids.length ≤ 14 := by have := HR1.out.2; rcases this with h | h <;> simp_all <;> omega
                have hi214 : kids2.length ≤ 14 := by have := HR2.out.2; rcases this with h | h <;> simp_all <;> omega
                go_wp2_with (first
                  | (at_builtin; refine append_row rfl _ _ 49 9 (.string .empty) 1 16 rfl Try.underlying49 Try.infoStr rfl (by decide) base HS5.out.aK (by rfl) (by rfl) (RK2.out.bl (HW.out.trans HB5.out)) (by simp) (sv_one _) (by omega) (by omega) HS5.out.ord.2.2.2.1 ?_; intro v6 w6 hown6 hgr6 hat6; obtain ⟨A6, c6, rfl, hcc6⟩ := hown6.slice; have S6 := HS5.out.keys (xs := keys2) rfl hown6 hgr6 (hat6.imp id (fun h => ⟨_, h, Nat.le_refl _⟩)); have hN6 := (HS5.out.grow HS5.out.aK (by decide) hgr6 1 (.int .i64 0)).2.1; have g6 := hN6.cell 1 rfl; simp only [List.getElem_toArray, List.getElem_cons_zero, List.getElem_cons_succ] at g6; have f6 := hN6.free 1; have HS6 := Lib.hid S6; have HB6 := Lib.hid ((HB5.out.grown hgr6 (fun q hq => Nat.le_trans HUB.out.1 (HS5.out.aK.ge q hq))).setCell (w := u) (p := ⟨g8, 1, none⟩) HUB.out.2 (.slice A6 (ks'.length + keys2.length) c6)); obtain ⟨b0, b1, b2, b3, _⟩ := Ob.all4 (HO2.out.bl HB6.out); obtain ⟨n0, n1, n2, n3, _⟩ := Ob.all4 S6.oN)
                  | (at_builtin; refine append_row rfl _ _ 49 9 (.string .empty) 1 16 rfl Try.underlying49 Try.infoStr rfl (by decide) base HS6.out.aV (by rfl) (by rfl) (RV2.out.bl (HW.out.trans HB6.out)) (by simp) (sv_one _) (by omega) (by omega) HS6.out.ord.2.2.2.1 ?_; intro v7 w7 hown7 hgr7 hat7; obtain ⟨A7, c7, rfl, hcc7⟩ := hown7.slice; have S7 := HS6.out.vals (xs := vals2) rfl hown7 hgr7 (hat7.imp id (fun h => ⟨_, h, Nat.le_refl _⟩)); have hN7 := (HS6.out.grow HS6.out.aV (by decide) hgr7 2 (.int .i64 0)).2.1; have g7 := hN7.cell 2 rfl; simp only [List.getElem_toArray, List.getElem_cons_zero, List.getElem_cons_succ] at g7; have f7 := hN7.free 2; have HS7 := Lib.hid S7; have HB7 := Lib.hid ((HB6.out.grown hgr7 (fun q hq => Nat.le_trans HUB.out.1 (HS6.out.aV.ge q hq))).setCell (w := u) (p := ⟨g8, 2, none⟩) HUB.out.2 (.slice A7 (vals.length + vals2.length) c7)); obtain ⟨b0, b1, b2, b3, _⟩ := Ob.all4 (HO2.out.bl HB7.out); obtain ⟨n0, n1, n2, n3, _⟩ := Ob.all4 S7.oN)
                  | (at_builtin; refine append_row rfl _ _ 50 3 (.int .i64 0) 1 8 rfl Try.underlying50 Try.infoInt rfl (by decide) base HS7.out.aI (by rfl) (by rfl) (RN2.out.bl (HW.out.trans HB7.out)) (by simp) (iv_one _) (by omega) (by omega) HS7.out.ord.2.2.2.1 ?_; intro v8 w8 hown8 hgr8 hat8; obtain ⟨A8, c8, rfl, hcc8⟩ := hown8.slice; have S8 := HS7.out.kids (xs := kids2) rfl hown8 hgr8; have hN8 := (HS7.out.grow HS7.out.aI (by decide) hgr8 3 (.int .i64 0)).2.1; have gc8 := hN8.cell 3 rfl; simp only [List.getElem_toArray, List.getElem_cons_zero, List.getElem_cons_succ] at gc8; have f8 := hN8.free 3; have HS8 := Lib.hid S8; have HB8 := Lib.hid ((HB7.out.grown hgr8 (fun q hq => Nat.le_trans HUB.out.1 (HS7.out.aI.ge q hq))).setCell (w := u) (p := ⟨g8, 3, none⟩) HUB.out.2 (.slice A8 (kids.length + kids2.length) c8)); obtain ⟨b0, b1, b2, b3, _⟩ := Ob.all4 (HO2.out.bl HB8.out); obtain ⟨n0, n1, n2, n3, _⟩ := Ob.all4 S8.oN))
                have HWd : ∀ w', Rd w' A6 ((ks' ++ keys2).map sv) → Rd w' A7 ((vals ++ vals2).map sv) → Rd w' A8 ((kids ++ kids2).map iv) → Calls Try.prog 35 #[nodeV k A6 (ks'.length + keys2.length) c6 A7 (vals.length + vals2.length) c7 A8 (kids.length + kids2.length) c8] w' (RetBl (nodeRight k (ks' ++ keys2) (vals ++ vals2) (kids ++ kids2) 12 13) w') := fun w' x y z => by
                  have := ref_nodeWide k A6 A7 A8 (ks' ++ keys2) (vals ++ vals2) (kids ++ kids2) c6 c7 c8 w' (by simp; omega) (by simp; omega) (by simp; omega) x y z
                  simpa only [List.length_append] using this
                refine (HWd _ HS8.out.aK.rd.1 HS8.out.aV.rd.1 HS8.out.aI.rd.1).mono ?_
                rintro e w9 ⟨rfl, hbl9⟩
                have HS9 := Lib.hid (HS8.out.bl hbl9)
                clear HWd
                have HJE := Lib.hid (show nodeJoin ⟨k, keys, vals, kids⟩ sep ⟨k, keys2, vals2, kids2⟩ = joinEnd k (ks' ++ keys2) (vals ++ vals2) (kids ++ kids2) by
                  rw [HJ1.out, HKS.out]
                  rcases HR1.out.2 with ⟨q1, _, _, q2, _⟩ | ⟨q1, _, _, _, q2, _⟩
                  · rcases HR2.out.2 with ⟨_, _, _, q3, _⟩ | ⟨q3, _⟩
                    · have hok : joinOK keys sep keys2 = true := by unfold joinOK; rw [HQ1.out q1, HQ2.out q1]; rfl
                      rw [if_neg (by omega), if_neg (by rw [hok]; decide), if_neg (by omega), q2, q3]; rfl
                    · omega
                  · rcases HR2.out.2 with ⟨q3, _⟩ | ⟨_, _, _, _, q3, _⟩
                    · omega
                    · rw [if_pos q1, if_pos q1, q2, q3, q1]; rfl)
                obtain ⟨z0, z1, z2, z3, zf0, zf1, zf2, zf3⟩ := Ob.all4 HS9.out.oR
                obtain ⟨m0, m1, m2, m3, _⟩ := Ob.all4 HS9.out.oN
                cases hrr : nodeRight k (ks' ++ keys2) (vals ++ vals2) (kids ++ kids2) 12 13
                · have HP := Lib.hid (show nodeJoin ⟨k, keys, vals, kids⟩ sep ⟨k, keys2, vals2, kids2⟩ = nodeNo 2 by rw [HJE.out]; unfold joinEnd; rw [if_pos hrr])
                  clear hrr
                  go_wp2_with fail
                  refine bodyPost_ret (v := .tuple #[nodeV 0 none 0 0 none 0 0 none 0 0, .int .i64 2]) (results_ct rfl _ _ (HS9.out.oR.set4 _ _ _ _).1 rfl rfl Try.underlying52 rfl Try.sizeNode) rfl ?_
                  exact RetNode.no HP.out ((HS9.out.wb.ch [gR]).same (HS9.out.oR.set4 _ _ _ _).2 |>.bl (by have := HS9.out.ord.1; simp; omega))
                · have HP := Lib.hid (show nodeJoin ⟨k, keys, vals, kids⟩ sep ⟨k, keys2, vals2, kids2⟩ = ⟨k, ks' ++ keys2, vals ++ vals2, kids ++ kids2, 0⟩ by rw [HJE.out]; unfold joinEnd; rw [if_neg (by rw [hrr]; decide)])
                  clear hrr
                  go_wp2_with fail
                  refine bodyPost_ret (v := .tuple #[nodeV k A6 (ks'.length + keys2.length) c6 A7 (vals.length + vals2.length) c7 A8 (kids.length + kids2.length) c8, .int .i64 0]) (results_ct rfl _ _ (HS9.out.oR.set4 _ _ _ _).1 rfl rfl Try.underlying52 rfl Try.sizeNode) rfl ?_
                  unfold RetNode
                  rw [HP.out]
                  have hch := (HS9.out.oR.set4 (.int .u8 k) (.slice A6 (ks'.length + keys2.length) c6) (.slice A7 (vals.length + vals2.length) c7) (.slice A8 (kids.length + kids2.length) c8)).2
                  have key : ∀ {T : TypeId} {v : Value} {m : Nat} {cs : List Value}, 52 ≠ T → App _ base T 1 v m cs → App _ w.heap.size T 1 v m cs := fun hT a => (a.ch hch (fun g hg => by simp at hg; subst hg; exact HS9.out.oR.app a hT)).mono HS9.out.ord.2.2.1
                  refine ⟨A6, c6, A7, c7, A8, c8, ?_, ?_, ?_, ?_, (HS9.out.wb.ch [gR]).same hch |>.bl (by have := HS9.out.ord.1; simp; omega)⟩
                  · simp [nodeV]
                  · have := key (by decide) HS9.out.aK; simpa only [List.length_append] using this
                  · have := key (by decide) HS9.out.aV; simpa only [List.length_append] using this
                  · have := key (by decide) HS9.out.aI; simpa only [List.length_append] using this
end Go.Proofs.Ytedmamchfgkkfaa
/- Layer 18 (node) walked: Join. -/
set_option linter.unusedVariables false
set_option linter.unusedSimpArgs false
namespace Go.Proofs.Ytedmamchfgkkfaa
open Go.RowKit
set_option maxRecDepth 100000
set_option maxHeartbeats 8000000

theorem Mem.put4 {w0 w : World} {cs : List Chunk} (h : Mem w0 cs w) (k : Nat) {g : Nat} {T : TypeId} {a0 a1 a2 a3 : Value} (hk : cs[k]? = some (blk g T #[a0, a1, a2, a3])) (b0 b1 b2 b3 : Value) :
    Mem w0 (cs.set k (blk g T #[b0, b1, b2, b3])) ((((w.setCell ⟨g, 0, none⟩ b0).setCell ⟨g, 1, none⟩ b1).setCell ⟨g, 2, none⟩ b2).setCell ⟨g, 3, none⟩ b3) :=
  h.upd k hk _ ((h.ob k hk).set4 b0 b1 b2 b3).1 ((h.ob k hk).set4 b0 b1 b2 b3).2
theorem mem_box3 (w : World) (o1 o2 o3 : Obj) : Mem w [blkO (w.heap.size + 1 + 1) o3, blkO (w.heap.size + 1) o2, blkO w.heap.size o1, old w] (((w.alloc o1).alloc o2).alloc o3) := by
  have h := (((Mem.start w).alloc o1).alloc o2).alloc o3
  simpa only [heap_alloc_size] using h
/-- A node is handed back whose slices can be read. -/
def RetRd (r : NodeR) (w : World) (e : Ending) (w' : World) : Prop :=
  ∃ A c B d I ci, e = .returned (.tuple #[nodeV r.k A r.keys.length c B r.vals.length d I r.kids.length ci, .int .i64 r.e]) ∧ Rd w' A (r.keys.map sv) ∧ Rd w' B (r.vals.map sv) ∧ Rd w' I (r.kids.map iv) ∧ Bl w w' ∧ r.keys.length ≤ c ∧ r.vals.length ≤ d ∧ r.kids.length ≤ ci
theorem RetRd.no {r : NodeR} {w w' : World} {e : Int} (h : r = nodeNo e) (hb : Bl w w') : RetRd r w (.returned (.tuple #[nodeV 0 none 0 0 none 0 0 none 0 0, .int .i64 e])) w' := by
  subst h; exact ⟨none, 0, none, 0, none, 0, rfl, Rd.nil _ _, Rd.nil _ _, Rd.nil _ _, hb, Nat.le_refl _, Nat.le_refl _, Nat.le_refl _⟩
theorem RetNode.rd {r : NodeR} {w w' : World} {e : Ending} (h : RetNode r w e w') : RetRd r w e w' := by
  obtain ⟨A, c, B, d, I, ci, h1, h2, h3, h4, h5⟩ := h
  refine ⟨A, c, B, d, I, ci, h1, h2.rd.1, h3.rd.1, h4.rd.1, h5, ?_, ?_, ?_⟩
  · obtain ⟨_, _, e, h⟩ := h2.slice; cases e; exact h
  · obtain ⟨_, _, e, h⟩ := h3.slice; cases e; exact h
  · obtain ⟨_, _, e, h⟩ := h4.slice; cases e; exact h
/-- The memory in Join: a result's variable, two boxes. -/
def jL (k : Int) (A B I : Option Addr) (keys vals : List ByteArray) (kids : List Int) (c d ci : Nat) (A2 B2 I2 : Option Addr) (keys2 vals2 : List ByteArray) (kids2 : List Int) (c2 d2 ci2 : Nat) (gR g2 g1 : Nat) (w : World) : List Chunk :=
  [blk gR 52 #[.int .u8 0, .slice none 0 0, .slice none 0 0, .slice none 0 0], blk g2 52 #[.int .u8 k, .slice A2 keys2.length c2, .slice B2 vals2.length d2, .slice I2 kids2.length ci2], blk g1 52 #[.int .u8 k, .slice A keys.length c, .slice B vals.length d, .slice I kids.length ci], old w]

theorem node_Join (k : Int) (A B I : Option Addr) (keys vals : List ByteArray) (kids : List Int) (c d ci : Nat) (sep : ByteArray) (k2 : Int) (A2 B2 I2 : Option Addr) (keys2 vals2 : List ByteArray) (kids2 : List Int) (c2 d2 ci2 : Nat) (w : World)
    (hk : keys.length * 16 ≤ 140737488355328) (hv : vals.length * 16 ≤ 140737488355328) (hn : kids.length * 8 ≤ 140737488355328) (hk2 : keys2.length * 16 ≤ 140737488355328) (hv2 : vals2.length * 16 ≤ 140737488355328) (hn2 : kids2.length * 8 ≤ 140737488355328)
    (rk : Rd w A (keys.map sv)) (rv : Rd w B (vals.map sv)) (rn : Rd w I (kids.map iv)) (rk2 : Rd w A2 (keys2.map sv)) (rv2 : Rd w B2 (vals2.map sv)) (rn2 : Rd w I2 (kids2.map iv)) :
    Calls Try.prog 49 #[nodeV k A keys.length c B vals.length d I kids.length ci, .string sep, nodeV k2 A2 keys2.length c2 B2 vals2.length d2 I2 kids2.length ci2] w (RetRd (nodeJoin ⟨k, keys, vals, kids⟩ sep ⟨k2, keys2, vals2, kids2⟩) w) := by
  have RK := Lib.hid rk
  have RV := Lib.hid rv
  have RN := Lib.hid rn
  have RK2 := Lib.hid rk2
  have RV2 := Lib.hid rv2
  have RN2 := Lib.hid rn2
  have m0 := mem_box3 w (.cells #[.int .u8 k, .slice A keys.length c, .slice B vals.length d, .slice I kids.length ci] 52) (.cells #[.int .u8 k2, .slice A2 keys2.length c2, .slice B2 vals2.length d2, .slice I2 kids2.length ci2] 52) (.cells #[.int .u8 0, .slice none 0 0, .slice none 0 0, .slice none 0 0] 52)
  have M0 := Lib.hid m0
  clear rk rv rn rk2 rv2 rn2 m0
  go_enter Try.func49, Try.ntmps49
  go_wp2_with (go_at_call 34; fail_if_success skip)
  generalize (((w.alloc (.cells #[.int .u8 k, .slice A keys.length c, .slice B vals.length d, .slice I kids.length ci] 52)).alloc (.cells #[.int .u8 k2, .slice A2 keys2.length c2, .slice B2 vals2.length d2, .slice I2 kids2.length ci2] 52)).alloc (.cells #[.int .u8 0, .slice none 0 0, .slice none 0 0, .slice none 0 0] 52)) = u at M0 ⊢
  generalize hgR : w.heap.size + 1 + 1 = gR at M0 ⊢
  generalize hg2 : w.heap.size + 1 = g2 at M0 ⊢
  generalize hg1 : w.heap.size = g1 at M0 ⊢
  clear hgR hg2 hg1
  have blo := (M0.out.toBlAt 3 rfl rfl rfl rfl)
  refine (node_Wide k A B I keys vals kids c d ci u (by omega) (by omega) (by omega) (RK.out.bl blo) (RV.out.bl blo) (RN.out.bl blo)).mono ?_
  rintro e w1 ⟨rfl, hbl1⟩
  have M1 := Lib.hid (M0.out.bl hbl1)
  clear hbl1 M0 blo
  obtain ⟨a0, a1, a2, a3, _⟩ := Ob.all4 (M1.out.ob 2 rfl)
  obtain ⟨b0, b1, b2, b3, _⟩ := Ob.all4 (M1.out.ob 1 rfl)
  obtain ⟨z0, z1, z2, z3, f0, f1, f2, f3⟩ := Ob.all4 (M1.out.ob 0 rfl)
  cases hr : nodeRight k keys vals kids 12 13
  · have HP := Lib.hid (show nodeJoin ⟨k, keys, vals, kids⟩ sep ⟨k2, keys2, vals2, kids2⟩ = nodeNo 2 by unfold nodeJoin; rw [if_pos (.inl hr)])
    clear hr
    go_wp2_with fail
    have m9 := M1.out.put4 0 rfl (.int .u8 0) (.slice none 0 0) (.slice none 0 0) (.slice none 0 0)
    refine bodyPost_ret (v := .tuple #[nodeV 0 none 0 0 none 0 0 none 0 0, .int .i64 2]) (results_ct rfl _ _ (m9.ob 0 rfl) rfl rfl Try.underlying52 rfl Try.sizeNode) rfl ?_
    exact RetRd.no HP.out (m9.toBlAt 3 rfl rfl rfl rfl)
  · go_wp2_with (go_at_call 34; fail_if_success skip)
    have blo := (M1.out.toBlAt 3 rfl rfl rfl rfl)
    refine (node_Wide k2 A2 B2 I2 keys2 vals2 kids2 c2 d2 ci2 w1 (by omega) (by omega) (by omega) (RK2.out.bl blo) (RV2.out.bl blo) (RN2.out.bl blo)).mono ?_
    rintro e w2 ⟨rfl, hbl2⟩
    have M2 := Lib.hid (M1.out.bl hbl2)
    clear hbl2 M1 blo
    clear a0 a1 a2 a3 b0 b1 b2 b3 z0 z1 z2 z3 f0 f1 f2 f3
    obtain ⟨a0, a1, a2, a3, _⟩ := Ob.all4 (M2.out.ob 2 rfl)
    obtain ⟨b0, b1, b2, b3, _⟩ := Ob.all4 (M2.out.ob 1 rfl)
    obtain ⟨z0, z1, z2, z3, f0, f1, f2, f3⟩ := Ob.all4 (M2.out.ob 0 rfl)
    by_cases hbad : nodeRight k2 keys2 vals2 kids2 12 13 = false ∨ k ≠ k2 ∨ sep.size < 1 ∨ 40 < sep.size
    · have HP := Lib.hid (show nodeJoin ⟨k, keys, vals, kids⟩ sep ⟨k2, keys2, vals2, kids2⟩ = nodeNo 2 by unfold nodeJoin; rw [if_pos (.inr hbad)])
      rcases (show (nodeRight k2 keys2 vals2 kids2 12 13 = false) ∨ (nodeRight k2 keys2 vals2 kids2 12 13 = true ∧ (k != k2) = true) ∨ (nodeRight k2 keys2 vals2 kids2 12 13 = true ∧ (k != k2) = false ∧ sep.size < 1) ∨ (nodeRight k2 keys2 vals2 kids2 12 13 = true ∧ (k != k2) = false ∧ 1 ≤ sep.size ∧ 40 < sep.size) by
        cases h1 : nodeRight k2 keys2 vals2 kids2 12 13
        · exact .inl rfl
        · right
          by_cases h2 : k = k2
          · right
            have e2 : (k != k2) = false := by simpa using h2
            by_cases h3 : sep.size < 1
            · exact .inl ⟨rfl, e2, h3⟩
            · right
              refine ⟨rfl, e2, by omega, ?_⟩
              rcases hbad with h | h | h | h
              · rw [h1] at h; cases h
              · exact absurd h2 h
              · omega
              · exact h
          · exact .inl ⟨rfl, by simpa using h2⟩) with h1 | ⟨h1, h2⟩ | ⟨h1, h2, h3⟩ | ⟨h1, h2, h3, h4⟩
      all_goals
        clear hbad hr
        rw [h1]
        go_wp2_with fail
        have m9 := M2.out.put4 0 rfl (.int .u8 0) (.slice none 0 0) (.slice none 0 0) (.slice none 0 0)
        refine bodyPost_ret (v := .tuple #[nodeV 0 none 0 0 none 0 0 none 0 0, .int .i64 2]) (results_ct rfl _ _ (m9.ob 0 rfl) rfl rfl Try.underlying52 rfl Try.sizeNode) rfl ?_
        exact RetRd.no HP.out (m9.toBlAt 3 rfl rfl rfl rfl)
    · have h1 : nodeRight k2 keys2 vals2 kids2 12 13 = true := by
        cases h1 : nodeRight k2 keys2 vals2 kids2 12 13
        · exact absurd (.inl h1) hbad
        · rfl
      have hkk : k = k2 := by
        by_cases h2 : k = k2
        · exact h2
        · exact absurd (.inr (.inl h2)) hbad
      have s1 : 1 ≤ sep.size := by omega
      have s2 : sep.size ≤ 40 := by omega
      subst hkk
      rw [h1]
      have HJ1 := Lib.hid (show nodeJoin ⟨k, keys, vals, kids⟩ sep ⟨k, keys2, vals2, kids2⟩ = (if k = 2 then joinEnd 2 (keys ++ [sep] ++ keys2) [] (kids ++ kids2) else if joinOK keys sep keys2 = false then nodeNo 2 else joinEnd k (keys ++ keys2) (vals ++ vals2) []) by
        unfold nodeJoin
        rw [if_neg (show ¬ _ from fun h => by
          rcases h with h | h | h | h | h
          · have h : nodeRight k keys vals kids 12 13 = false := h
            rw [hr] at h; cases h
          · have h : nodeRight k keys2 vals2 kids2 12 13 = false := h
            rw [h1] at h; cases h
          · exact h rfl
          · omega
          · omega)])
      have HR1 := Lib.hid (nodeRight_or hr)
      have HR2 := Lib.hid (nodeRight_or h1)
      have e0 : (k != k) = false := by simp
      clear hr h1 hbad
      go_upto_region 4 with (fail)
      have HL : Hid (jL k A B I keys vals kids c d ci A2 B2 I2 keys2 vals2 kids2 c2 d2 ci2 gR g2 g1 w = [blk gR 52 #[.int .u8 0, .slice none 0 0, .slice none 0 0, .slice none 0 0], blk g2 52 #[.int .u8 k, .slice A2 keys2.length c2, .slice B2 vals2.length d2, .slice I2 kids2.length ci2], blk g1 52 #[.int .u8 k, .slice A keys.length c, .slice B vals.length d, .slice I kids.length ci], old w]) := rfl
      rw [← HL.out] at M2
      generalize hL : jL k A B I keys vals kids c d ci A2 B2 I2 keys2 vals2 kids2 c2 d2 ci2 gR g2 g1 w = L at M2 HL
      have HA : Hid (∀ w', Mem w L w' → Bl w w' ∧ Ob w' g1 52 #[.int .u8 k, .slice A keys.length c, .slice B vals.length d, .slice I kids.length ci] ∧ Ob w' g2 52 #[.int .u8 k, .slice A2 keys2.length c2, .slice B2 vals2.length d2, .slice I2 kids2.length ci2] ∧ Ob w' gR 52 #[.int .u8 0, .slice none 0 0, .slice none 0 0, .slice none 0 0]) := fun w' h => by
        rw [HL.out] at h
        exact ⟨h.toBlAt 3 rfl rfl rfl rfl, h.ob 2 rfl, h.ob 1 rfl, h.ob 0 rfl⟩
      clear hL
      go_cut [8] (fun s wx => Hid (∃ g K, s = .pointer (some ⟨g, 0, none⟩) ∧ Mem w (blk g 52 #[.int .u8 k, K, .slice none 0 0, .slice none 0 0] :: row 9 1 K keys.length (keys.map sv) :: L) wx))
      case first =>
        have HK : Hid (∀ w' : World, Mem w L w' → w'.cell? ⟨g1, 0, none⟩ = some (.int .u8 k) ∧ w'.cell? ⟨g1, 1, none⟩ = some (.slice A keys.length c) ∧ Mem w L w') := fun w' h => by
          obtain ⟨_, h1, _⟩ := HA.out w' h
          exact ⟨h1.cell 0 rfl, h1.cell 1 rfl, h⟩
        have HM2 := M2.out
        go_region_held3 (fun w' => w'.cell? ⟨g1, 0, none⟩ = some (.int .u8 k) ∧ w'.cell? ⟨g1, 1, none⟩ = some (.slice A keys.length c) ∧ Mem w L w')
          (first | (refine HK.out _ ?_; (focus ((repeat (first | with_reducible assumption | with_reducible refine Mem.drew ?_ | with_reducible refine Mem.drewN ?_ _ | with_reducible refine Mem.drop (Mem.alloc ?_ _) | (with_reducible refine Mem.bl ?_ (by with_reducible assumption)))); done))) | exact HK.out _ (((HM2.alloc _).drew.bl hbl3).put4 0 rfl _ _ _ _).drop)
          (first
            | (go_at_call 90; (with_reducible refine (clone_S A c keys _ (by have := HR1.out.2; omega) (RK.out.bl (HA.out _ (by (focus ((repeat (first | with_reducible assumption | with_reducible refine Mem.drew ?_ | with_reducible refine Mem.drewN ?_ _ | with_reducible refine Mem.drop (Mem.alloc ?_ _) | (with_reducible refine Mem.bl ?_ (by with_reducible assumption)))); done)))).1)).mono ?_); rintro e w3 ⟨K3, rfl, hown3, hbl3⟩; obtain ⟨A3, c3, rfl, hcc3⟩ := hown3.slice; try (have h9 : Ob _ w2.heap.size _ _ := (Ob.new w2.drew _ _).bl hbl3; obtain ⟨n0, n1, n2, n3, nf0, nf1, nf2, nf3⟩ := Ob.all4 h9)))
        · go_wp2_with fail
          go_meet
          case rel => exact ⟨_, _, rfl, ((HM2.drew.newRow hbl3 hown3).alloc _)⟩
        · go_wp2_with fail
          go_meet
          case rel => exact ⟨_, _, rfl, ((((HM2.alloc _).drew.newRow hbl3 hown3).put4 1 rfl _ _ _ _).bring 1)⟩
      case rest =>
        obtain ⟨gN, K, rfl, M3⟩ := hcut.out
        obtain ⟨AK, cK, rfl, _⟩ := (M3.app 1 rfl).slice
        have M3h := Lib.hid M3
        clear M3 a0 a1 a2 a3 b0 b1 b2 b3 z0 z1 z2 z3 f0 f1 f2 f3
        obtain ⟨_, oa, ob, oz⟩ := HA.out _ (M3h.out.drop.drop)
        obtain ⟨a0, a1, a2, a3, _⟩ := Ob.all4 oa
        obtain ⟨b0, b1, b2, b3, _⟩ := Ob.all4 ob
        obtain ⟨n0, n1, n2, n3, nf0, nf1, nf2, nf3⟩ := Ob.all4 (M3h.out.ob 0 rfl)
        clear oa ob oz
        go_upto_if 43 with (fail)
        go_cut [] (fun wx => Hid (∃ ks vs is K V I, nodeJoin ⟨k, keys, vals, kids⟩ sep ⟨k, keys2, vals2, kids2⟩ = joinEnd k ks vs is ∧ ks.length ≤ 30 ∧ vs.length ≤ 30 ∧ is.length ≤ 30 ∧ Mem w (blk gN 52 #[.int .u8 k, K, V, I] :: row 9 1 K ks.length (ks.map sv) :: row 9 1 V vs.length (vs.map sv) :: row 3 1 I is.length (is.map iv) :: L) wx))
        case first =>
          by_cases h2 : k = 2
          · subst h2
            have HRK := Lib.hid (show keys.length ≤ 13 ∧ kids.length = keys.length + 1 ∧ keys2.length ≤ 13 ∧ kids2.length = keys2.length + 1 by have := HR1.out.2; have := HR2.out.2; omega)
            go_upto_region 6 with (fail)
            go_cut [] (fun wx => Hid (∃ K, Mem w (blk gN 52 #[.int .u8 2, K, .slice none 0 0, .slice none 0 0] :: row 9 1 K (keys.length + 1 + keys2.length) (keys.map sv ++ [sv sep] ++ keys2.map sv) :: L) wx))
            case first =>
              have ma := M3h.out.alloc (.cells #[.string sep] 9)
              have MA := Lib.hid ma.drew
              obtain ⟨_, oa, ob, oz⟩ := HA.out _ (ma.drop.drop.drop)
              have b1' := ob.cell 1 rfl
              have n1' := (ma.ob 1 rfl).cell 1 rfl
              simp only [List.getElem_toArray, List.getElem_cons_zero, List.getElem_cons_succ] at b1' n1'
              clear oa ob oz ma
              go_region_law (first
                | (refine step_row rfl _ _ 49 9 (.string .empty) 1 16 (by rfl) Try.underlying49 Try.infoStr rfl (by decide) 0 (MA.out.app 2 rfl) (by rfl) (by rfl) ((put_one_rd wc 9 (.string sep)).bl (Bl.refl _).drew) (by simp) (by intro u hu; simp at hu; subst hu; rfl) (by have := HR1.out.2; omega) (by have := HR1.out.2; omega) (Nat.zero_le _) ?_; intro v4 w4 hown4 hgr4 hat4; obtain ⟨A4, c4, rfl, hcc4⟩ := hown4.slice; have M4 := Lib.hid (MA.out.grow 2 rfl hown4 hgr4 hat4).drop; have b4 := (HA.out _ M4.out.drop.drop).2.2.1.cell 1 rfl; simp only [List.getElem_toArray, List.getElem_cons_zero, List.getElem_cons_succ] at b4)
                | (refine step_row rfl _ _ 49 9 (.string .empty) 1 16 (by rfl) Try.underlying49 Try.infoStr rfl (by decide) 0 (M4.out.app 1 rfl) (by rfl) (by rfl) (RK2.out.bl (HA.out _ M4.out.drop.drop).1) (by simp) (sv_one _) (by have := HR1.out.2; have := HR2.out.2; omega) (by have := HR1.out.2; have := HR2.out.2; omega) (Nat.zero_le _) ?_; intro v5 w5 hown5 hgr5 hat5; obtain ⟨A5, c5, rfl, hcc5⟩ := hown5.slice; have M5 := Lib.hid (M4.out.grow 1 rfl hown5 hgr5 hat5); have n5 := (M5.out.ob 0 rfl).cell 1 rfl; simp only [List.getElem_toArray, List.getElem_cons_zero, List.getElem_cons_succ] at n5; have nf5 := (M5.out.ob 0 rfl).free 1))
              all_goals
                go_wp2_with fail
                go_meet
                case rel => exact ⟨_, M5.out.put 0 rfl 1 _⟩
            case rest =>
              obtain ⟨K, M6⟩ := hcut.out
              have M6h := Lib.hid M6
              clear M6 a0 a1 a2 a3 b0 b1 b2 b3 n0 n1 n2 n3 nf0 nf1 nf2 nf3
              obtain ⟨_, oa, ob, oz⟩ := HA.out _ (M6h.out.drop.drop)
              obtain ⟨a0, a1, a2, a3, _⟩ := Ob.all4 oa
              obtain ⟨b0, b1, b2, b3, _⟩ := Ob.all4 ob
              clear oa ob oz
              have blo : Bl w (wc.alloc (.cells #[.slice I kids.length ci, .slice I2 kids2.length ci2] 50)) := (HA.out _ (M6h.out.drop.drop)).1.alloc _
              have hc := concat_I (some ⟨wc.heap.size, 0, none⟩) 2 [(I, kids, ci), (I2, kids2, ci2)] (wc.alloc (.cells #[.slice I kids.length ci, .slice I2 kids2.length ci2] 50)) (by simp) (by have := HRK.out; simp [sumI]; omega) (row_lit rowvI wc [(I, kids, ci), (I2, kids2, ci2)] _ _ rfl) (by intro r hr; simp at hr; rcases hr with rfl | rfl; exact RN.out.bl blo; exact RN2.out.bl blo)
              rw [show sumI [(I, kids, ci), (I2, kids2, ci2)] = kids ++ kids2 by simp [sumI]] at hc
              have HC := Lib.hid hc
              clear blo hc
              go_wp2_with fail
              refine HC.out.mono ?_
              rintro e w7 ⟨v7, rfl, hown7, hbl7⟩
              have M7 := Lib.hid ((M6h.out.alloc _).drop.newRow hbl7 hown7)
              obtain ⟨A7, c7, rfl, hcc7⟩ := hown7.slice
              obtain ⟨n0, n1, n2, n3, nf0, nf1, nf2, nf3⟩ := Ob.all4 (M7.out.ob 1 rfl)
              clear hown7 hbl7
              go_wp2_with fail
              go_meet
              case rel =>
                refine ⟨keys ++ [sep] ++ keys2, [], kids ++ kids2, K, .slice none 0 0, .slice A7 (kids.length + kids2.length) c7, by rw [HJ1.out]; simp, by have := HRK.out; simp; omega, by simp, by have := HRK.out; simp; omega, ?_⟩
                have m8 := (((M7.out.put 1 rfl 3 (.slice A7 (kids.length + kids2.length) c7)).nilRow 9 1).bring 3).bring 3
                have e1 : (keys ++ [sep] ++ keys2).length = keys.length + 1 + keys2.length := by simp; omega
                have e2 : (keys ++ [sep] ++ keys2).map sv = keys.map sv ++ [sv sep] ++ keys2.map sv := by simp
                have e3 : (kids ++ kids2).length = kids.length + kids2.length := by simp
                rw [e1, e2, e3]
                rw [e3] at m8
                exact m8
          · have hk1 : k = 1 := by have := HR1.out.2; omega
            subst hk1
            have HRK := Lib.hid (show keys.length ≤ 12 ∧ vals.length = keys.length ∧ keys2.length ≤ 12 ∧ vals2.length = keys2.length ∧ kids = [] ∧ kids2 = [] by
              have q1 := HR1.out.2
              have q2 := HR2.out.2
              rcases q1 with q1 | q1
              · rcases q2 with q2 | q2
                · exact ⟨q1.2.1, q1.2.2.1, q2.2.1, q2.2.2.1, q1.2.2.2.1, q2.2.2.2.1⟩
                · omega
              · omega)
            have HC1 : Hid (keys.all (fun x => sLt x sep) = true ∧ keys = [] ∨ ∃ m y b o, keys.length = m + 1 ∧ A = some ⟨b, o, none⟩ ∧ Rd w A (keys.map sv) ∧ keys[m]? = some y ∧ keys.all (fun x => sLt x sep) = sLt y sep) := by
              cases hke : keys.length with
              | zero => exact .inl ⟨by rw [List.eq_nil_of_length_eq_zero hke]; rfl, List.eq_nil_of_length_eq_zero hke⟩
              | succ m =>
                obtain ⟨y, hy⟩ := get_some keys m (by omega)
                obtain ⟨b, o, hA', _⟩ := RK.out.get hy
                exact .inr ⟨m, y, b, o, rfl, hA', RK.out, hy, all_lt_last HR1.out.1 (by rw [hke]; exact hy)⟩
            have HC2 : Hid (keys2.all (fun x => !sLt x sep) = true ∧ keys2 = [] ∨ ∃ y b o, 0 < keys2.length ∧ A2 = some ⟨b, o, none⟩ ∧ Rd w A2 (keys2.map sv) ∧ keys2[0]? = some y ∧ keys2.all (fun x => !sLt x sep) = !sLt y sep) := by
              rcases Nat.eq_zero_or_pos keys2.length with hke | hke
              · exact .inl ⟨by rw [List.eq_nil_of_length_eq_zero hke]; rfl, List.eq_nil_of_length_eq_zero hke⟩
              · obtain ⟨y, hy⟩ := get_some keys2 0 hke
                obtain ⟨b, o, hA', _⟩ := RK2.out.get hy
                exact .inr ⟨y, b, o, hke, hA', RK2.out, hy, all_ge_first HR2.out.1 hy⟩
            have blo := Lib.hid (HA.out _ (M3h.out.drop.drop)).1
            go_upto_region 7 with (fail)
            go_cut [89] (fun v wx => ∃ bb : Bool, v = .bool bb ∧ Hid (bb = !joinOK keys sep keys2) ∧ wx = wc)
            case first =>
              rcases HC1.out with ⟨he, hnil⟩ | ⟨m, y, b, o, hlen, rfl, hrd, hy, he⟩
              · have HE := Lib.hid he
                clear he
                subst hnil
                rcases HC2.out with ⟨he2, hnil2⟩ | ⟨z, bz, oz, hlen2, rfl, hrd2, hz, he2⟩
                · subst hnil2
                  have HB := Lib.hid (show false = !joinOK [] sep [] by unfold joinOK; rw [HE.out, he2]; rfl)
                  clear he2
                  go_wp2_with fail
                  go_meet
                  case rel => exact ⟨_, rfl, HB.out, rfl⟩
                · obtain ⟨b', o', hbo, hcz⟩ := (hrd2.bl blo.out).get hz
                  cases hbo
                  simp only [sv, Nat.add_zero] at hcz
                  cases hs2 : sLt z sep
                  · have HB := Lib.hid (show false = !joinOK [] sep keys2 by unfold joinOK; rw [HE.out, he2, hs2]; rfl)
                    have hcmp2 : Op.bytesLess z.toList sep.toList = false := hs2
                    clear he2 hs2 hz hrd2
                    go_wp2_with fail
                    go_meet
                    case rel => exact ⟨_, rfl, HB.out, rfl⟩
                  · have HB := Lib.hid (show true = !joinOK [] sep keys2 by unfold joinOK; rw [HE.out, he2, hs2]; rfl)
                    have hcmp2 : Op.bytesLess z.toList sep.toList = true := hs2
                    clear he2 hs2 hz hrd2
                    go_wp2_with fail
                    go_meet
                    case rel => exact ⟨_, rfl, HB.out, rfl⟩
              · have em : (keys.length : Int) - 1 = (m : Int) := by omega
                have hmk : m < keys.length := by omega
                have hk0 : 0 < keys.length := by omega
                obtain ⟨b', o', hbo, hcy⟩ := (hrd.bl blo.out).get hy
                cases hbo
                simp only [sv] at hcy
                cases hs : sLt y sep
                · have HB := Lib.hid (show true = !joinOK keys sep keys2 by unfold joinOK; rw [he, hs]; rfl)
                  have hcmp : Op.bytesLess y.toList sep.toList = false := hs
                  clear he hs hy hlen hrd
                  go_wp2_with fail
                  go_meet
                  case rel => exact ⟨_, rfl, HB.out, rfl⟩
                · have HE := Lib.hid (he.trans hs)
                  have hcmp : Op.bytesLess y.toList sep.toList = true := hs
                  clear he hs hy hlen hrd
                  rcases HC2.out with ⟨he2, hnil2⟩ | ⟨z, bz, oz, hlen2, rfl, hrd2, hz, he2⟩
                  · subst hnil2
                    have HB := Lib.hid (show false = !joinOK keys sep [] by unfold joinOK; rw [HE.out, he2]; rfl)
                    clear he2
                    go_wp2_with fail
                    go_meet
                    case rel => exact ⟨_, rfl, HB.out, rfl⟩
                  · obtain ⟨b', o', hbo, hcz⟩ := (hrd2.bl blo.out).get hz
                    cases hbo
                    simp only [sv, Nat.add_zero] at hcz
                    cases hs2 : sLt z sep
                    · have HB := Lib.hid (show false = !joinOK keys sep keys2 by unfold joinOK; rw [HE.out, he2, hs2]; rfl)
                      have hcmp2 : Op.bytesLess z.toList sep.toList = false := hs2
                      clear he2 hs2 hz hrd2
                      go_wp2_with fail
                      go_meet
                      case rel => exact ⟨_, rfl, HB.out, rfl⟩
                    · have HB := Lib.hid (show true = !joinOK keys sep keys2 by unfold joinOK; rw [HE.out, he2, hs2]; rfl)
                      have hcmp2 : Op.bytesLess z.toList sep.toList = true := hs2
                      clear he2 hs2 hz hrd2
                      go_wp2_with fail
                      go_meet
                      case rel => exact ⟨_, rfl, HB.out, rfl⟩
            case rest =>
              obtain ⟨bb, rfl, HB, hwx⟩ := hcut
              subst hwx
              cases bb
              · have HB2 := Lib.hid (show joinOK keys sep keys2 = true by have := HB.out; simpa using this.symm)
                go_upto_region 9 with (fail)
                go_cut [] (fun wx => Hid (∃ K, Mem w (blk gN 52 #[.int .u8 1, K, .slice none 0 0, .slice none 0 0] :: row 9 1 K (keys.length + keys2.length) (keys.map sv ++ keys2.map sv) :: L) wx))
                case first =>
                  go_wp2_with (at_builtin; go_must (refine append_row rfl _ _ 49 9 (.string .empty) 1 16 rfl Try.underlying49 Try.infoStr rfl (by decide) 0 (M3h.out.app 1 rfl) (by rfl) (by rfl) (RK2.out.bl blo.out) (by simp) (sv_one _) (by have := HRK.out; omega) (by have := HRK.out; omega) (Nat.zero_le _) ?_); intro v4 w4 hown4 hgr4 hat4; obtain ⟨A4, c4, rfl, hcc4⟩ := hown4.slice; have M4 := Lib.hid (M3h.out.grow 1 rfl hown4 hgr4 hat4); obtain ⟨p0, p1, p2, p3, pf0, pf1, pf2, pf3⟩ := Ob.all4 (M4.out.ob 0 rfl))
                  go_meet
                  case rel => exact ⟨_, M4.out.put 0 rfl 1 _⟩
                case rest =>
                  obtain ⟨K, M6⟩ := hcut.out
                  have M6h := Lib.hid M6
                  clear M6 a0 a1 a2 a3 b0 b1 b2 b3 n0 n1 n2 n3 nf0 nf1 nf2 nf3
                  obtain ⟨_, oa, ob, oz⟩ := HA.out _ (M6h.out.drop.drop)
                  obtain ⟨a0, a1, a2, a3, _⟩ := Ob.all4 oa
                  obtain ⟨b0, b1, b2, b3, _⟩ := Ob.all4 ob
                  clear oa ob oz
                  have blo2 : Bl w (wc.alloc (.cells #[.slice B vals.length d, .slice B2 vals2.length d2] 49)) := (HA.out _ (M6h.out.drop.drop)).1.alloc _
                  have hc := concat_S (some ⟨wc.heap.size, 0, none⟩) 2 [(B, vals, d), (B2, vals2, d2)] (wc.alloc (.cells #[.slice B vals.length d, .slice B2 vals2.length d2] 49)) (by simp) (by have := HRK.out; simp [sumS]; omega) (row_lit rowvS wc [(B, vals, d), (B2, vals2, d2)] _ _ rfl) (by intro r hr; simp at hr; rcases hr with rfl | rfl; exact RV.out.bl blo2; exact RV2.out.bl blo2)
                  rw [show sumS [(B, vals, d), (B2, vals2, d2)] = vals ++ vals2 by simp [sumS]] at hc
                  have HC := Lib.hid hc
                  clear blo2 hc
                  go_wp2_with fail
                  refine HC.out.mono ?_
                  rintro e w7 ⟨v7, rfl, hown7, hbl7⟩
                  have M7 := Lib.hid ((M6h.out.alloc _).drop.newRow hbl7 hown7)
                  obtain ⟨A7, c7, rfl, hcc7⟩ := hown7.slice
                  obtain ⟨n0, n1, n2, n3, nf0, nf1, nf2, nf3⟩ := Ob.all4 (M7.out.ob 1 rfl)
                  clear hown7 hbl7
                  go_wp2_with fail
                  go_meet
                  case rel =>
                    refine ⟨keys ++ keys2, vals ++ vals2, [], K, .slice A7 (vals.length + vals2.length) c7, .slice none 0 0, by rw [HJ1.out, HB2.out]; simp, by have := HRK.out; simp; omega, by have := HRK.out; simp; omega, by simp, ?_⟩
                    have m8 := ((((M7.out.put 1 rfl 2 (.slice A7 (vals.length + vals2.length) c7)).nilRow 3 1).bring 1).bring 3).bring 3
                    have e1 : (keys ++ keys2).length = keys.length + keys2.length := by simp
                    have e2 : (keys ++ keys2).map sv = keys.map sv ++ keys2.map sv := by simp
                    have e3 : (vals ++ vals2).length = vals.length + vals2.length := by simp
                    rw [e1, e2, e3]
                    rw [e3] at m8
                    exact m8
              · have HP := Lib.hid (show nodeJoin ⟨1, keys, vals, kids⟩ sep ⟨1, keys2, vals2, kids2⟩ = nodeNo 2 by
                  have := HB.out
                  rw [HJ1.out, if_neg (by decide), if_pos (by simpa using this.symm)])
                obtain ⟨_, oa, ob, oz⟩ := HA.out _ (M3h.out.drop.drop)
                obtain ⟨z0, z1, z2, z3, f0, f1, f2, f3⟩ := Ob.all4 oz
                clear oa ob oz
                go_wp2_with fail
                have m8 := M3h.out.drop.drop
                rw [HL.out] at m8
                have m9 := m8.put4 0 rfl (.int .u8 0) (.slice none 0 0) (.slice none 0 0) (.slice none 0 0)
                refine bodyPost_ret (v := .tuple #[nodeV 0 none 0 0 none 0 0 none 0 0, .int .i64 2]) (results_ct rfl _ _ (m9.ob 0 rfl) rfl rfl Try.underlying52 rfl Try.sizeNode) rfl ?_
                exact RetRd.no HP.out (m9.toBlAt 3 rfl rfl rfl rfl)
        case rest =>
          obtain ⟨ks, vs, is, K, V, I3, HJE, hks, hvs, his, m5⟩ := hcut.out
          obtain ⟨AK, cK, rfl, hcK⟩ := (m5.app 1 rfl).slice
          obtain ⟨AV, cV, rfl, hcV⟩ := (m5.app 2 rfl).slice
          obtain ⟨AI, cI, rfl, hcI⟩ := (m5.app 3 rfl).slice
          have M5 := Lib.hid m5
          have HJ2 := Lib.hid HJE
          clear m5 HJE a0 a1 a2 a3 b0 b1 b2 b3 n0 n1 n2 n3 nf0 nf1 nf2 nf3
          obtain ⟨_, oa, ob, oz⟩ := HA.out _ (M5.out.drop.drop.drop.drop)
          obtain ⟨z0, z1, z2, z3, f0, f1, f2, f3⟩ := Ob.all4 oz
          obtain ⟨n0, n1, n2, n3, nf0, nf1, nf2, nf3⟩ := Ob.all4 (M5.out.ob 0 rfl)
          clear oa ob oz
          have hw9 := node_Wide k AK AV AI ks vs is cK cV cI wc (by omega) (by omega) (by omega) (M5.out.app 1 rfl).rd.1 (M5.out.app 2 rfl).rd.1 (M5.out.app 3 rfl).rd.1
          go_wp2_with fail
          refine hw9.mono ?_
          rintro e w9 ⟨rfl, hbl9⟩
          have M9 := Lib.hid (M5.out.bl hbl9)
          clear hw9 hbl9 z0 z1 z2 z3 f0 f1 f2 f3 n0 n1 n2 n3 nf0 nf1 nf2 nf3
          obtain ⟨_, oa, ob, oz⟩ := HA.out _ (M9.out.drop.drop.drop.drop)
          obtain ⟨z0, z1, z2, z3, f0, f1, f2, f3⟩ := Ob.all4 oz
          obtain ⟨n0, n1, n2, n3, nf0, nf1, nf2, nf3⟩ := Ob.all4 (M9.out.ob 0 rfl)
          clear oa ob oz
          have m8 := M9.out
          rw [HL.out] at m8
          have M8 := Lib.hid m8
          clear m8
          cases hrr : nodeRight k ks vs is 12 13
          · have HP := Lib.hid (show nodeJoin ⟨k, keys, vals, kids⟩ sep ⟨k, keys2, vals2, kids2⟩ = nodeNo 2 by rw [HJ2.out]; unfold joinEnd; rw [if_pos hrr])
            clear hrr
            go_wp2_with fail
            have m9 := M8.out.put4 4 rfl (.int .u8 0) (.slice none 0 0) (.slice none 0 0) (.slice none 0 0)
            refine bodyPost_ret (v := .tuple #[nodeV 0 none 0 0 none 0 0 none 0 0, .int .i64 2]) (results_ct rfl _ _ (m9.ob 4 rfl) rfl rfl Try.underlying52 rfl Try.sizeNode) rfl ?_
            exact RetRd.no HP.out (m9.toBlAt 7 rfl rfl rfl rfl)
          · have HP := Lib.hid (show nodeJoin ⟨k, keys, vals, kids⟩ sep ⟨k, keys2, vals2, kids2⟩ = ⟨k, ks, vs, is, 0⟩ by rw [HJ2.out]; unfold joinEnd; rw [if_neg (by rw [hrr]; decide)])
            clear hrr
            go_wp2_with fail
            have m9 := M8.out.put4 4 rfl (.int .u8 k) (.slice AK ks.length cK) (.slice AV vs.length cV) (.slice AI is.length cI)
            refine bodyPost_ret (v := .tuple #[nodeV k AK ks.length cK AV vs.length cV AI is.length cI, .int .i64 0]) (results_ct rfl _ _ (m9.ob 4 rfl) rfl rfl Try.underlying52 rfl Try.sizeNode) rfl ?_
            unfold RetRd
            rw [HP.out]
            exact ⟨AK, cK, AV, cV, AI, cI, rfl, (m9.app 1 rfl).rd.1, (m9.app 2 rfl).rd.1, (m9.app 3 rfl).rd.1, m9.toBlAt 7 rfl rfl rfl rfl, hcK, hcV, hcI⟩
end Go.Proofs.Ytedmamchfgkkfaa
/- Layer 18 (node): slices.Insert and slices.Delete of texts, by the library's contracts; rows written over. -/
set_option linter.unusedVariables false
set_option linter.unusedSimpArgs false
namespace Go.Proofs.Ytedmamchfgkkfaa
open Go.RowKit Go.Shelf
set_option maxRecDepth 100000

def insRen : Ren := ⟨fun | 17 => 103 | 22 => 93 | 29 => 100 | 30 => 101 | 36 => 102 | n => n, fun | 24 => 49 | 9 => 9 | 3 => 3 | 4 => 4 | 0 => 0 | n => n, fun n => n⟩
theorem insLays : Lays2.n22 Try.prog insRen := {
  mixed := by kernel_rfl
  f17 := Try.func103.trans (congrArg some (by kernel_rfl))
  f22 := Try.func93.trans (congrArg some (by kernel_rfl))
  f29 := Try.func100.trans (congrArg some (by kernel_rfl))
  f30 := Try.func101.trans (congrArg some (by kernel_rfl))
  f36 := Try.func102.trans (congrArg some (by kernel_rfl))
  t0 := Try.underlying0
  a0 := Try.isAgg0
  z0 := Try.sizeOf0
  v0 := Try.zeroValue0
  t3 := Try.underlying3
  a3 := Try.isAgg3
  z3 := Try.sizeOf3
  v3 := Try.zeroValue3
  t4 := Try.underlying4
  a4 := Try.isAgg4
  z4 := Try.sizeOf4
  v4 := Try.zeroValue4
  t9 := Try.underlying9
  a9 := Try.isAgg9
  z9 := Try.sizeOf9
  v9 := Try.zeroValue9
  t24 := Try.underlying49
  a24 := Try.isAgg49
  z24 := Try.sizeOf49
  v24 := Try.zeroValue49
  i9 := by kernel_rfl }
def delRen : Ren := ⟨fun | 24 => 94 | n => n, fun | 24 => 49 | 9 => 9 | 3 => 3 | 4 => 4 | 0 => 0 | n => n, fun n => n⟩
theorem delLays : Lays2.n24 Try.prog delRen := {
  mixed := by kernel_rfl
  f24 := Try.func94.trans (congrArg some (by kernel_rfl))
  t0 := Try.underlying0
  a0 := Try.isAgg0
  z0 := Try.sizeOf0
  v0 := Try.zeroValue0
  t3 := Try.underlying3
  a3 := Try.isAgg3
  z3 := Try.sizeOf3
  v3 := Try.zeroValue3
  t4 := Try.underlying4
  a4 := Try.isAgg4
  z4 := Try.sizeOf4
  v4 := Try.zeroValue4
  t9 := Try.underlying9
  a9 := Try.isAgg9
  z9 := Try.sizeOf9
  v9 := Try.zeroValue9
  t24 := Try.underlying49
  a24 := Try.isAgg49
  z24 := Try.sizeOf49
  v24 := Try.zeroValue49
  i9 := by kernel_rfl }

/-- Cells of a row are written over. -/
theorem App.over {base n c : Nat} {e : TypeId} {b o : Nat} : ∀ (r : List Value) (i : Nat) (w : World) (cs : List Value), App w base e 1 (.slice (some ⟨b, o, none⟩) n c) n cs → i + r.length ≤ n →
    App (w.setCells b (o + i) r) base e 1 (.slice (some ⟨b, o, none⟩) n c) n (cs.take i ++ (r ++ cs.drop (i + r.length))) ∧ w.grownBy (w.setCells b (o + i) r) (some b)
  | [], i, w, cs, h, _ => ⟨by simpa [World.setCells] using h, ⟨rfl, rfl, rfl, Nat.le_refl _, fun _ _ _ => rfl⟩⟩
  | v :: r, i, w, cs, h, hi => by
    simp only [List.length_cons] at hi
    have hl := h.len
    rw [Nat.mul_one] at hl
    obtain ⟨h1, h2⟩ := h.store i (by omega) v
    obtain ⟨h3, h4⟩ := App.over r (i + 1) _ _ h1 (by omega)
    refine ⟨?_, World.grownBy.trans h2 h4⟩
    rw [show w.setCells b (o + i) (v :: r) = (w.setCell ⟨b, o + i, none⟩ v).setCells b (o + (i + 1)) r from rfl]
    have e1 : (cs.set i v).take (i + 1) ++ (r ++ (cs.set i v).drop (i + 1 + r.length)) = cs.take i ++ (v :: r ++ cs.drop (i + (v :: r).length)) := by
      rw [List.drop_set_of_lt (by omega), List.take_set, List.take_add_one, List.set_append_right _ _ (by rw [List.length_take]; omega)]
      have hx : cs[i]? = some cs[i] := List.getElem?_eq_getElem (by omega)
      rw [hx, List.length_take, Nat.min_eq_left (by omega), Nat.sub_self]
      simp [Nat.add_assoc, Nat.add_comm 1]
    rw [← e1]
    exact h3
theorem Rd.some_of {w : World} {A : Option Addr} {xs : List ByteArray} (h : Rd w A (xs.map sv)) (hn : 0 < xs.length) : ∃ b o, A = some ⟨b, o, none⟩ ∧ ∀ j v, (xs.map sv)[j]? = some v → w.cell? ⟨b, o + j, none⟩ = some v := h (fun e => by
  have h2 : (xs.map sv).length = 0 := by rw [e]; rfl
  simp at h2
  subst h2
  simp at hn)
theorem ins_cells (X Y Z : List Value) (x : Value) (i : Nat) (hX : X.length = i) (hZ : Z.length = Y.length + 1) :
    ((X ++ Z).take i ++ ([x] ++ (X ++ Z).drop (i + [x].length))).take (i + 1) ++ (Y ++ ((X ++ Z).take i ++ ([x] ++ (X ++ Z).drop (i + [x].length))).drop (i + 1 + Y.length)) = X ++ x :: Y := by
  subst hX
  have e1 : (X ++ Z).take X.length = X := List.take_left
  have e2 : (X ++ Z).drop (X.length + [x].length) = Z.drop 1 := by rw [List.drop_append]; simp
  rw [e1, e2]
  have e3 : (X ++ ([x] ++ Z.drop 1)).take (X.length + 1) = X ++ [x] := by
    rw [← List.append_assoc, List.take_append_of_le_length (by simp), List.take_of_length_le (by simp)]
  have e4 : (X ++ ([x] ++ Z.drop 1)).drop (X.length + 1 + Y.length) = [] := List.drop_eq_nil_of_le (by simp; omega)
  rw [e3, e4]
  simp
theorem strs_of (xs : List ByteArray) : Lib.strsOf (fun i => xs.getD i .empty) xs.length = xs.map tb := by
  unfold Lib.strsOf
  apply List.ext_getElem?
  intro i
  rcases Nat.lt_or_ge i xs.length with h | h
  · simp [h, tb]
  · simp [h]
theorem enc_tb (l : List ByteArray) : (l.map tb).map Go.Proofs.encStr = l.map sv := by
  rw [List.map_map]
  refine List.map_congr_left fun x _ => ?_
  simp [Go.Proofs.encStr, tb, sv]
/-- A text is taken out of a row of the call's own. -/
def RetDel (base b o n : Nat) (xs : List ByteArray) (w : World) (e : Ending) (w' : World) : Prop :=
  e = .returned (.slice (some ⟨b, o, none⟩) (n - 1) n) ∧ App w' base 9 1 (.slice (some ⟨b, o, none⟩) (n - 1) n) (n - 1) (xs.map sv) ∧ w.grownBy w' (some b)
theorem delete_S (base b o i : Nat) (xs : List ByteArray) (w : World) (hi : i < xs.length) (hl : xs.length ≤ 1000000) (h : App w base 9 1 (.slice (some ⟨b, o, none⟩) xs.length xs.length) xs.length (xs.map sv)) :
    Calls Try.prog 94 #[.slice (some ⟨b, o, none⟩) xs.length xs.length, .int .i64 i, .int .i64 ((i : Int) + 1)] w (RetDel base b o xs.length (xs.take i ++ xs.drop (i + 1)) w) := by
  have hc := Any.slices_Delete_string_cells delLays b o xs.length xs.length i (i + 1) (fun i => xs.getD i .empty) w (Nat.le_refl _) (by omega) (by omega) (by omega)
    (fun j hj => by
      rw [h.at j (by simpa using hj)]
      simp [sv, hj])
    (fun j _ => h.frozen (o + j))
  refine Calls.mono hc ?_
  rintro e w' ⟨rfl, q, rfl⟩
  rw [strs_of, show List.replicate (i + 1 - i) ([] : List UInt8) = List.replicate 1 [] by rw [show i + 1 - i = 1 by omega]]
  have hd : App (w.drewN q) base 9 1 (.slice (some ⟨b, o, none⟩) xs.length xs.length) xs.length (xs.map sv) := h.bl ((Bl.refl w).drewN q)
  have e1 : (((xs.map tb).take i ++ (xs.map tb).drop (i + 1) ++ List.replicate 1 []).map Go.Proofs.encStr) = (xs.take i ++ xs.drop (i + 1)).map sv ++ [sv ⟨#[]⟩] := by
    rw [← List.map_take, ← List.map_drop, ← List.map_append, List.map_append, enc_tb]
    rfl
  rw [e1]
  obtain ⟨zs, hzs⟩ : ∃ zs, zs = (xs.take i ++ xs.drop (i + 1)).map sv := ⟨_, rfl⟩
  have lz : zs.length = xs.length - 1 := by rw [hzs]; simp; omega
  unfold RetDel
  rw [← hzs]
  have hlen : (zs ++ [sv ⟨#[]⟩]).length = xs.length := by simp; omega
  obtain ⟨h1, h2⟩ := App.over (zs ++ [sv ⟨#[]⟩]) 0 _ _ hd (by omega)
  rw [Nat.add_zero, List.take_zero, List.nil_append, Nat.zero_add, hlen, List.drop_eq_nil_of_le (by rw [List.length_map]; omega), List.append_nil] at h1
  rw [Nat.add_zero] at h2
  refine ⟨by rw [show xs.length - (i + 1 - i) = xs.length - 1 by omega], ?_, ⟨h2.os, h2.tape, h2.output, h2.size, fun k hk hne => (h2.block k hk hne)⟩⟩
  have h3 := h1.cut (xs.length - 1) xs.length (by omega) (Nat.le_refl _) (by omega)
  rw [Nat.mul_one, List.take_append_of_le_length (by omega), List.take_of_length_le (by omega)] at h3
  exact h3
/-- A text is put into a row whose room is its length: a new row. -/
def RetIns (xs : List ByteArray) (w : World) (e : Ending) (w' : World) : Prop :=
  ∃ A c, e = .returned (.slice A xs.length c) ∧ App w' w.heap.size 9 1 (.slice A xs.length c) xs.length (xs.map sv) ∧ Bl w w'
theorem insert_S (A : Option Addr) (i vb vo vc : Nat) (xs : List ByteArray) (x : ByteArray) (w : World) (hi : i ≤ xs.length) (hl : xs.length ≤ 1000000) (hr : Rd w A (xs.map sv)) (hv : w.cell? ⟨vb, vo, none⟩ = some (sv x)) :
    Calls Try.prog 93 #[.slice A xs.length xs.length, .int .i64 i, .slice (some ⟨vb, vo, none⟩) 1 vc] w (RetIns (xs.take i ++ x :: xs.drop i) w) := by
  have hx : ∀ j v, [sv x][j]? = some v → w.cell? ⟨vb, vo + j, none⟩ = some v := by
    intro j v h
    cases j with
    | zero => simp at h; subst h; exact hv
    | succ j => simp at h
  have hbig : (xs.length + 1) * 16 ≤ 140737488355328 := by omega
  have hge := grownCap_ge w (xs.length + 1) xs.length 9
  have hcm := grownCap_le_maxLen w (xs.length + 1) xs.length 9 (Nat.le_trans (show xs.length + 1 ≤ 140737488355328 by omega) (by decide))
  have hlen : (xs.take i ++ x :: xs.drop i).length = xs.length + 1 := by simp; omega
  have zl : ∀ k, (Builtin.zeroCells (Value.string ⟨#[]⟩).cells k).size = k := fun k => by rw [size_zeroCells]; simp [Value.cells]
  rcases Nat.lt_or_ge i xs.length with hlt | hge2
  · obtain ⟨b, o, rfl, hcells⟩ := hr.some_of (by omega)
    have hc := Any2.slices_Insert_string_grow insLays b o xs.length xs.length i vb vo 1 vc (xs.map sv) [sv x] w hlt (by omega) (Nat.le_refl _) (by omega) hbig (by simp) rfl hcells hx (sv_one _) (by intro u hu; simp at hu; subst hu; rfl)
    refine Calls.mono hc ?_
    rintro e w' ⟨rfl, rfl⟩
    unfold RetIns
    rw [hlen]
    refine ⟨_, _, rfl, ?_, ?_⟩
    · have h0 : App (w.alloc (.cells (((xs.map sv).take i).toArray ++ Builtin.zeroCells (Value.string ⟨#[]⟩).cells (xs.length + 1 - i) ++ Builtin.zeroCells (Value.string ⟨#[]⟩).cells (grownCap w (xs.length + 1) xs.length 9 - (xs.length + 1))) 9)).drew w.heap.size 9 1 (.slice (some ⟨w.heap.size, 0, none⟩) (xs.length + 1) (grownCap w (xs.length + 1) xs.length 9)) (xs.length + 1) ((xs.map sv).take i ++ (Builtin.zeroCells (Value.string ⟨#[]⟩).cells (xs.length + 1 - i)).toList) := by
        refine ⟨by simp [zl]; omega, .inr ⟨w.heap.size, 0, _, _, rfl, Nat.le_refl _, heap_alloc_new w _, hge, hcm, ?_, ?_⟩⟩
        · simp only [Array.size_append, List.size_toArray, zl, List.length_take, List.length_map]
          omega
        · simp only [Array.toList_append, List.drop_zero, Nat.mul_one]
          rw [List.take_append_of_le_length (by simp [zl]; omega), List.take_of_length_le (by simp [zl]; omega)]
      obtain ⟨h1, _⟩ := App.over [sv x] i _ _ h0 (by simp; omega)
      have h1 := h1.drew
      obtain ⟨h2, _⟩ := App.over ((xs.map sv).drop i) (i + 1) _ _ h1 (by simp; omega)
      rw [Nat.zero_add, Nat.zero_add] at h2
      have e1 := ins_cells ((xs.map sv).take i) ((xs.map sv).drop i) (Builtin.zeroCells (Value.string ⟨#[]⟩).cells (xs.length + 1 - i)).toList (sv x) i (by simp; omega) (by simp [zl]; omega)
      have e2 : (xs.map sv).take i ++ sv x :: (xs.map sv).drop i = (xs.take i ++ x :: xs.drop i).map sv := by simp
      rw [e2] at e1
      rw [e1] at h2
      exact h2
    · have hb : ∀ (v : World) (o' : Nat) (r : List Value), Bl w v → Bl w (v.setCells w.heap.size o' r) := by
        intro v o' r
        induction r generalizing v o' with
        | nil => exact fun h => h
        | cons y r ih => exact fun h => ih _ _ (h.setCell (Nat.le_refl _) y)
      exact hb _ _ _ (hb _ _ _ ((Bl.refl w).alloc _).drew).drew
  · obtain rfl : i = xs.length := by omega
    have hc := Any2.slices_Insert_string_end_grow insLays A xs.length xs.length vb vo 1 vc (xs.map sv) [sv x] w (by omega) (Nat.le_refl _) (by omega) hbig (by simp) rfl (fun h => by subst h; simpa using hr.none_nil)
      (fun a ha j v hv => by
        obtain ⟨b, o, e, hcells⟩ := hr (by intro h; rw [h] at hv; simp at hv)
        rw [ha] at e
        cases e
        have ha2 : (⟨b, o, none⟩ : Addr).add j = ⟨b, o + j, none⟩ := by unfold Addr.add; split <;> simp_all
        rw [ha2]; exact hcells j v hv) hx (by intro u hu; simp at hu; subst hu; rfl)
    refine Calls.mono hc ?_
    rintro e w' ⟨rfl, rfl⟩
    unfold RetIns
    rw [hlen]
    refine ⟨_, _, rfl, ?_, ((Bl.refl w).drew.alloc _)⟩
    refine ⟨by simp, .inr ⟨w.heap.size, 0, _, _, rfl, Nat.le_refl _, heap_alloc_new w.drew _, hge, hcm, ?_, ?_⟩⟩
    · simp only [Array.size_append, List.size_toArray, zl, List.length_append, List.length_map, List.length_singleton]
      show 0 + grownCap w (xs.length + 1) xs.length 9 * 1 ≤ xs.length + 1 + (grownCap w (xs.length + 1) xs.length 9 - (xs.length + 1))
      omega
    · simp only [Array.toList_append, List.drop_zero, Nat.mul_one]
      rw [List.take_append_of_le_length (by simp), List.take_of_length_le (by simp)]
      simp
end Go.Proofs.Ytedmamchfgkkfaa
/- Layer 18 (node): a leaf that is set, or cut, as plain functions; rows that grow round by round. No program in sight. -/
set_option linter.unusedVariables false
set_option linter.unusedSimpArgs false
namespace Go.Proofs.Ytedmamchfgkkfaa
open Go.RowKit

def putAt {α : Type} (xs : List α) (x : α) (k : Nat) (is : Bool) : List α := xs.take k ++ x :: xs.drop (k + if is then 1 else 0)
def nodeSet (n : Nd) (key value : ByteArray) : NodeR :=
  if n.k ≠ 1 ∨ nodeRight n.k n.keys n.vals n.kids 12 13 = false ∨ key.size < 1 ∨ 40 < key.size ∨ 40 < value.size then nodeNo 2
  else if findIs n.keys key = false ∧ 12 ≤ n.keys.length then nodeNo 3
  else ⟨1, putAt n.keys key (findN n.keys key) (findIs n.keys key), putAt n.vals value (findN n.keys key) (findIs n.keys key), [], 0⟩
def nodeCut (n : Nd) (key : ByteArray) : NodeR :=
  if n.k ≠ 1 ∨ nodeRight n.k n.keys n.vals n.kids 12 13 = false then nodeNo 2
  else if findIs n.keys key = false then nodeNo 7
  else ⟨1, n.keys.eraseIdx (findN n.keys key), n.vals.eraseIdx (findN n.keys key), [], 0⟩
theorem findN_le (keys : List ByteArray) (key : ByteArray) : findN keys key ≤ keys.length := List.countP_le_length
theorem findIs_at {keys : List ByteArray} {key : ByteArray} (h : findIs keys key = true) : keys[findN keys key]? = some key := of_decide_eq_true h
theorem putAt_len {α : Type} (xs : List α) (x : α) (k : Nat) (is : Bool) (hk : k ≤ xs.length) (hi : is = true → k < xs.length) : (putAt xs x k is).length = xs.length + if is then 0 else 1 := by
  unfold putAt
  cases is
  · simp; omega
  · have := hi rfl
    simp; omega
theorem putAt_set {α : Type} (xs : List α) (x : α) (k : Nat) (hk : k < xs.length) : putAt xs x k true = xs.set k x := by
  unfold putAt
  simp only [if_true]
  rw [List.set_eq_take_append_cons_drop, if_pos hk]
theorem putAt_same {xs : List ByteArray} {x : ByteArray} {k : Nat} (hx : xs[k]? = some x) : putAt xs x k true = xs := by
  rw [putAt_set _ _ _ (List.getElem?_eq_some_iff.1 hx).1]
  apply List.ext_getElem?
  intro j
  rw [List.getElem?_set]
  split
  · rename_i h; subst h; rw [hx]; simp; exact (List.getElem?_eq_some_iff.1 hx).1
  · rfl
/-- What stands behind so many rounds of the reference's Set. -/
def setUpto {α : Type} (xs : List α) (x : α) (k : Nat) (is : Bool) (i : Nat) : List α := if i ≤ k then xs.take i else xs.take k ++ x :: (xs.take i).drop (k + if is then 1 else 0)
theorem setUpto_zero {α : Type} (xs : List α) (x : α) (k : Nat) (is : Bool) : setUpto xs x k is 0 = [] := by simp [setUpto]
theorem take_over {α : Type} (xs : List α) (i : Nat) (h : xs.length ≤ i) : xs.take i = xs := List.take_of_length_le h
theorem setUpto_le {α : Type} (xs : List α) (x : α) (k : Nat) (is : Bool) (i : Nat) (h : i ≤ k) : setUpto xs x k is i = xs.take i := by unfold setUpto; exact if_pos h
theorem setUpto_gt {α : Type} (xs : List α) (x : α) (k : Nat) (is : Bool) (i : Nat) (h : k < i) : setUpto xs x k is i = xs.take k ++ x :: (xs.take i).drop (k + if is then 1 else 0) := by unfold setUpto; exact if_neg (by omega)
theorem setUpto_end {α : Type} (xs : List α) (x : α) (k : Nat) (is : Bool) (hk : k ≤ xs.length) : setUpto xs x k is (xs.length + 1) = putAt xs x k is := by
  rw [setUpto_gt _ _ _ _ _ (by omega), take_over xs (xs.length + 1) (by omega)]
  rfl
theorem setUpto_lo {α : Type} (xs : List α) (x y : α) (k : Nat) (is : Bool) (i : Nat) (hi : i < k) (hy : xs[i]? = some y) : setUpto xs x k is (i + 1) = setUpto xs x k is i ++ [y] := by
  rw [setUpto_le _ _ _ _ _ (by omega), setUpto_le _ _ _ _ _ (by omega), List.take_add_one, hy]; rfl
theorem setUpto_hi {α : Type} (xs : List α) (x y : α) (k : Nat) (is : Bool) (i : Nat) (hi : k < i) (hy : xs[i]? = some y) : setUpto xs x k is (i + 1) = setUpto xs x k is i ++ [y] := by
  have hl := (List.getElem?_eq_some_iff.1 hy).1
  have hs : k + (if is = true then 1 else 0) ≤ (xs.take i).length := by rw [List.length_take]; split <;> omega
  rw [setUpto_gt _ _ _ _ _ (by omega), setUpto_gt _ _ _ _ _ (by omega), List.take_add_one (i := i), hy, Option.toList, List.drop_append_of_le_length hs]
  simp
theorem setUpto_over {α : Type} (xs : List α) (x : α) (k : Nat) (is : Bool) (hk : k < xs.length) : setUpto xs x k is (xs.length + 1) = setUpto xs x k is xs.length := by
  rw [setUpto_gt _ _ _ _ _ (by omega), setUpto_gt _ _ _ _ _ (by omega), take_over xs (xs.length + 1) (by omega), take_over xs xs.length (by omega)]
theorem setUpto_at_is {α : Type} (xs : List α) (x : α) (k : Nat) (_hk : k < xs.length) : setUpto xs x k true (k + 1) = setUpto xs x k true k ++ [x] := by
  rw [setUpto_gt _ _ _ _ _ (by omega), setUpto_le _ _ _ _ _ (by omega)]
  simp only [if_true]
  rw [List.drop_eq_nil_of_le (by rw [List.length_take]; omega)]
theorem setUpto_at_no {α : Type} (xs : List α) (x y : α) (k : Nat) (hy : xs[k]? = some y) : setUpto xs x k false (k + 1) = setUpto xs x k false k ++ [x] ++ [y] := by
  have hl := (List.getElem?_eq_some_iff.1 hy).1
  have h1 : (xs.take k).length = k := by rw [List.length_take]; omega
  rw [setUpto_gt _ _ _ _ _ (by omega), setUpto_le _ _ _ _ _ (by omega), List.take_add_one (i := k), hy, Option.toList]
  simp only [Bool.false_eq_true, if_false, Nat.add_zero]
  rw [List.drop_append_of_le_length (by omega), List.drop_eq_nil_of_le (by omega)]
  simp
theorem setUpto_at_end {α : Type} (xs : List α) (x : α) (k : Nat) (hk : k = xs.length) : setUpto xs x k false (k + 1) = setUpto xs x k false k ++ [x] := by
  rw [setUpto_gt _ _ _ _ _ (by omega), setUpto_le _ _ _ _ _ (by omega), List.drop_eq_nil_of_le (by rw [List.length_take]; simp; omega)]
theorem eraseIdx_take {α : Type} (xs : List α) (k i : Nat) (hi : i ≤ k) : (xs.take i).eraseIdx k = xs.take i := List.eraseIdx_of_length_le (by simp; omega)
theorem eraseIdx_step {α : Type} (xs : List α) (y : α) (k i : Nat) (hi : i ≠ k) (hy : xs[i]? = some y) : (xs.take (i + 1)).eraseIdx k = (xs.take i).eraseIdx k ++ [y] := by
  have hl := (List.getElem?_eq_some_iff.1 hy).1
  rw [List.take_add_one, hy, Option.toList, List.eraseIdx_append]
  split
  · rfl
  · rename_i h
    rw [List.length_take] at h
    rw [List.eraseIdx_of_length_le (l := xs.take i) (by simp; omega), List.eraseIdx_of_length_le (by simp; omega)]
theorem eraseIdx_at {α : Type} (xs : List α) (k : Nat) (hk : k < xs.length) : (xs.take (k + 1)).eraseIdx k = (xs.take k).eraseIdx k := by
  have h1 : (xs.take k).length = k := by rw [List.length_take]; omega
  rw [eraseIdx_take xs k k (Nat.le_refl _), List.take_add_one, List.getElem?_eq_getElem hk, Option.toList, List.eraseIdx_append, if_neg (by omega), h1, Nat.sub_self]
  simp
theorem eraseIdx_td {α : Type} (xs : List α) (k : Nat) : xs.take k ++ xs.drop (k + 1) = xs.eraseIdx k := (List.eraseIdx_eq_take_drop_succ xs k).symm
end Go.Proofs.Ytedmamchfgkkfaa
/- The varints of layer 1: what is put is got, and what is got was put. No program in sight. -/
namespace Go.Proofs.Ytedmamchfgkkfaa
open Go.RowKit

theorem lead_stop (k : Nat) (l : List UInt8) : lead k l < k → lead k l < l.length → (l.getD (lead k l) 0).toNat < 128 := by
  induction k generalizing l with
  | zero => intro h; omega
  | succ k ih =>
    cases l with
    | nil => intro _ h; simp at h
    | cons c l =>
      simp only [lead, List.length_cons]
      split
      · intro h1 h2; simp only [List.getD_cons_succ]; exact ih l (by omega) (by omega)
      · intro _ _; simp only [List.getD_cons_zero]; omega
theorem u8c (n : Nat) (h : n < 256) : n.toUInt8.toNat = n := u8_toNat n h
/-- What Put lays down. -/
theorem lebPut_form (n : Nat) : ∃ k, (lebPut n).length = k + 1 ∧ (∀ j, j < k → 128 ≤ ((lebPut n).getD j 0).toNat) ∧ ((lebPut n).getD k 0).toNat < 128 ∧ vval (lebPut n) = n ∧ (n ≠ 0 → ((lebPut n).getD k 0).toNat ≠ 0) ∧ (n < 128 → k = 0) := by
  induction n using Nat.strongRecOn with
  | _ n ih =>
    by_cases h : n < 128
    · rw [lebPut_small h]
      refine ⟨0, rfl, fun j hj => by omega, ?_, ?_, ?_, fun _ => rfl⟩
      · simp only [List.getD_cons_zero]; rw [u8c n (by omega)]; exact h
      · simp only [vval]; rw [u8c n (by omega)]; omega
      · intro h0; simp only [List.getD_cons_zero]; rw [u8c n (by omega)]; exact h0
    · obtain ⟨k, h1, h2, h3, h4, h5, _⟩ := ih (n / 128) (by omega)
      have hc : (n % 128 + 128).toUInt8.toNat = n % 128 + 128 := u8c _ (by omega)
      rw [lebPut_great h]
      refine ⟨k + 1, by rw [List.length_cons, h1], fun j hj => ?_, ?_, ?_, fun h0 => ?_, fun h0 => absurd h0 h⟩
      · cases j with
        | zero => simp only [List.getD_cons_zero]; rw [hc]; omega
        | succ j => simp only [List.getD_cons_succ]; exact h2 j (by omega)
      · simp only [List.getD_cons_succ]; exact h3
      · simp only [vval]; rw [hc, h4]; omega
      · simp only [List.getD_cons_succ]; exact h5 (by omega)
theorem getD_app {l r : List UInt8} {j : Nat} (h : j < l.length) : (l ++ r).getD j 0 = l.getD j 0 := by
  simp [List.getD_eq_getElem?_getD, List.getElem?_append_left h]
theorem lebGet_put (pre post : List UInt8) (n : Nat) (hn : n < 2 ^ 64) : lebGet (pre ++ (lebPut n ++ post)) pre.length = ((n : Int), ((pre.length + (lebPut n).length : Nat) : Int), 0) := by
  obtain ⟨k, h1, h2, h3, h4, h5, h6⟩ := lebPut_form n
  have hk : k ≤ 9 := by have := (lebPut_ten hn).1; omega
  have hdrop : (pre ++ (lebPut n ++ post)).drop pre.length = lebPut n ++ post := List.drop_left
  have hlead : lead 9 (lebPut n ++ post) = k := by
    refine lead_eq 9 k _ hk (by rw [List.length_append]; omega) (fun j hj => ?_) (.inr (.inr ?_))
    · rw [getD_app (by omega)]; exact h2 j hj
    · rw [getD_app (by omega)]; exact h3
  have htake : (lebPut n ++ post).take (k + 1) = lebPut n := by rw [← h1]; exact List.take_left
  have hlast : (lebPut n ++ post).getD k 0 = (lebPut n).getD k 0 := getD_app (by omega)
  unfold lebGet
  rw [if_neg (by simp only [List.length_append]; omega)]
  simp only [Int.toNat_natCast, hdrop, hlead, hlast, htake, h4]
  rw [if_neg (by rw [List.length_append]; omega), if_neg]
  · rw [h1]; simp only [Prod.mk.injEq, and_true, true_and]; omega
  · rintro (⟨hk9, hl⟩ | ⟨hk0, hl⟩)
    · subst hk9
      have ht := vval_take_succ (lebPut n) 9 (by omega)
      rw [List.take_of_length_le (by omega), h4] at ht
      have : 128 ^ 9 * 2 ≤ 128 ^ 9 * (((lebPut n).getD 9 0).toNat % 128) := Nat.mul_le_mul_left _ (by omega)
      have h64 : (2 : Nat) ^ 64 = 128 ^ 9 * 2 := by decide
      omega
    · refine h5 (fun h0 => ?_) hl
      have := h6 (by omega)
      omega
/-- Bytes that Get takes are what Put lays down of their value. -/
theorem lebPut_vval (l : List UInt8) : ∀ (k : Nat), l.length = k + 1 → (∀ j, j < k → 128 ≤ (l.getD j 0).toNat) → (l.getD k 0).toNat < 128 → (0 < k → (l.getD k 0).toNat ≠ 0) → lebPut (vval l) = l := by
  induction l with
  | nil => intro k h; simp at h
  | cons c r ih =>
    intro k h1 h2 h3 h4
    have hc := c.toNat_lt
    have hcu : c.toNat.toUInt8 = c := by apply UInt8.toNat_inj.1; rw [u8c _ (by omega)]
    cases k with
    | zero =>
      have hr : r = [] := List.eq_nil_of_length_eq_zero (by simpa using h1)
      subst hr
      simp only [List.getD_cons_zero] at h3
      simp only [vval]
      rw [show c.toNat % 128 + 128 * 0 = c.toNat by omega, lebPut_small h3, hcu]
    | succ k =>
      have hr := ih k (by simpa using h1) (fun j hj => by simpa using h2 (j + 1) (by omega)) (by simpa using h3) (fun _ => by simpa using h4 (by omega))
      have hc0 : 128 ≤ c.toNat := by simpa using h2 0 (by omega)
      have hne : vval r ≠ 0 := by
        intro h0
        rw [h0, lebPut_small (by omega)] at hr
        have h5 := h4 (by omega)
        simp only [List.getD_cons_succ] at h5
        rw [← hr] at h1 h5
        simp at h1
        subst h1
        exact h5 (by simp)
      have hge : ¬ vval (c :: r) < 128 := by simp only [vval]; omega
      rw [lebPut_great hge]
      simp only [vval]
      rw [show (c.toNat % 128 + 128 * vval r) / 128 = vval r by omega, hr, show (c.toNat % 128 + 128 * vval r) % 128 + 128 = c.toNat by omega, hcu]
theorem lebGet_back {b : List UInt8} {p : Int} {v m : Nat} (h : lebGet b p = ((v : Int), (m : Int), 0)) : ∃ q : Nat, p = q ∧ q < m ∧ m ≤ b.length ∧ v < 2 ^ 64 ∧ b.drop q = lebPut v ++ b.drop m ∧ m = q + (lebPut v).length := by
  rcases lebGet_cases b p with ⟨e, h2, he⟩ | ⟨q, k, v2, rfl, h2, hk, hl, hv, hvv, hlead, hno⟩
  · rw [h] at h2
    simp only [Prod.mk.injEq] at h2
    omega
  · rw [h] at h2
    simp only [Prod.mk.injEq, and_true] at h2
    obtain ⟨e1, e2⟩ := h2
    obtain rfl : v = v2 := by omega
    obtain rfl : m = q + k + 1 := by omega
    have hdl : (b.drop q).length = b.length - q := List.length_drop
    have hlast : ((b.drop q).getD k 0).toNat < 128 := by
      rcases Nat.lt_or_ge k 9 with h9 | h9
      · have := lead_stop 9 (b.drop q)
        rw [hlead] at this
        exact this (by omega) (by omega)
      · have : k = 9 := by omega
        subst this
        have := fun h => hno (.inl ⟨rfl, h⟩)
        omega
    have hput : lebPut v = (b.drop q).take (k + 1) := by
      rw [hvv]
      refine lebPut_vval _ k (by rw [List.length_take]; omega) (fun j hj => ?_) ?_ (fun h0 => ?_)
      · have := lead_at 9 (b.drop q) j (by omega)
        simpa [List.getD_eq_getElem?_getD, List.getElem?_take, show j < k + 1 by omega] using this
      · simpa [List.getD_eq_getElem?_getD, List.getElem?_take] using hlast
      · have := fun h => hno (.inr ⟨h0, h⟩)
        simpa [List.getD_eq_getElem?_getD, List.getElem?_take] using this
    refine ⟨q, rfl, by omega, by omega, hv, ?_, ?_⟩
    · rw [hput, show q + k + 1 = q + (k + 1) by omega, ← List.drop_drop, List.take_append_drop]
    · rw [hput, List.length_take]; omega
end Go.Proofs.Ytedmamchfgkkfaa
/- The rows and lists of layer 1: what is put is got, and what is got was put. No program in sight. -/
namespace Go.Proofs.Ytedmamchfgkkfaa
open Go.RowKit

theorem lebGet_put' {b pre post : List UInt8} {n : Nat} {p : Int} (hb : b = pre ++ (lebPut n ++ post)) (hp : p = (pre.length : Int)) (hn : n < 2 ^ 64) : lebGet b p = ((n : Int), ((pre.length + (lebPut n).length : Nat) : Int), 0) := by
  subst hb hp; exact lebGet_put pre post n hn
theorem lebRow_put {b pre post r : List UInt8} {p most : Int} (hb : b = pre ++ (lebRowPut r ++ post)) (hp : p = (pre.length : Int)) (hr : r.length < 2 ^ 64) (hm : (r.length : Int) ≤ most) : lebRow b p most = (r, ((pre.length + (lebRowPut r).length : Nat) : Int), 0) := by
  have hg := lebGet_put' (b := b) (pre := pre) (post := r ++ post) (n := r.length) (p := p) (by rw [hb, lebRowPut, List.append_assoc]) hp hr
  have hc : lebCount b p most = ((r.length : Int), ((pre.length + (lebPut r.length).length : Nat) : Int), 0) := by
    unfold lebCount; rw [hg, if_neg (by simp), if_neg (by simp only; omega)]
  have hlen : b.length = pre.length + ((lebPut r.length).length + (r.length + post.length)) := by rw [hb, lebRowPut]; simp only [List.length_append]; omega
  have hdrop : b.drop (pre.length + (lebPut r.length).length) = r ++ post := by
    rw [hb, lebRowPut, List.append_assoc, ← List.append_assoc, ← List.length_append]; exact List.drop_left
  unfold lebRow
  rw [hc, if_neg (by simp), if_neg (by simp only; omega)]
  simp only [Int.toNat_natCast, hdrop, List.take_left', lebRowPut, List.length_append]
  simp only [Prod.mk.injEq, and_true, true_and]
  omega
theorem lebRow_back {b xs : List UInt8} {p m most : Int} (h : lebRow b p most = (xs, m, 0)) : ∃ q k : Nat, p = q ∧ m = k ∧ q < k ∧ k ≤ b.length ∧ b.drop q = lebRowPut xs ++ b.drop k ∧ k = q + (lebRowPut xs).length ∧ (xs.length : Int) ≤ most := by
  rcases lebCount_or b p most with ⟨e, hc, he, _⟩ | ⟨v, m1, hc, hg, hv, hmost, hmm, _⟩
  · unfold lebRow at h
    rw [hc] at h
    simp [he] at h
  · unfold lebRow at h
    rw [hc, if_neg (by simp)] at h
    simp only at h
    split at h
    · simp at h
    · rename_i hl
      simp only [Int.toNat_natCast, Prod.mk.injEq, and_true] at h
      obtain ⟨hx, rfl⟩ := h
      obtain ⟨q, rfl, hqm, _, _, hd, hmq⟩ := lebGet_back hg
      have hxl : xs.length = v := by rw [← hx, List.length_take, List.length_drop]; omega
      refine ⟨q, m1 + v, rfl, by omega, by omega, by omega, ?_, ?_, by omega⟩
      · rw [hd, lebRowPut, hxl, List.append_assoc, ← List.drop_drop, ← hx, List.take_append_drop]
      · rw [lebRowPut, List.length_append, hxl]; omega
theorem lebNums_put (ns : List Nat) : ∀ (b pre post : List UInt8) (acc : List Nat), b = pre ++ (lebAll ns ++ post) → (∀ n ∈ ns, n < 2 ^ 64) → lebNums b ns.length (pre.length : Int) acc = (acc ++ ns, ((pre.length + (lebAll ns).length : Nat) : Int), 0) := by
  induction ns with
  | nil => intro b pre post acc hb _; simp [lebNums, lebAll]
  | cons n ns ih =>
    intro b pre post acc hb h64
    have hg := lebGet_put' (b := b) (pre := pre) (post := lebAll ns ++ post) (n := n) (p := (pre.length : Int)) (by rw [hb, lebAll_cons, List.append_assoc]) rfl (h64 n (by simp))
    have h2 := ih b (pre ++ lebPut n) post (acc ++ [n]) (by rw [hb, lebAll_cons]; simp) (fun x hx => h64 x (by simp [hx]))
    rw [List.length_cons, lebNums, hg, if_neg (by simp)]
    simp only [Int.toNat_natCast]
    rw [List.length_append] at h2
    rw [h2, lebAll_cons]
    simp only [List.length_append, List.append_assoc, List.singleton_append, Prod.mk.injEq, and_true, true_and]
    omega
theorem lebNums_back (k : Nat) : ∀ (b : List UInt8) (q : Nat) (acc xs : List Nat) (m : Int), q ≤ b.length → lebNums b k (q : Int) acc = (xs, m, 0) → ∃ (ns : List Nat) (j : Nat), xs = acc ++ ns ∧ ns.length = k ∧ m = j ∧ j ≤ b.length ∧ b.drop q = lebAll ns ++ b.drop j ∧ j = q + (lebAll ns).length := by
  induction k with
  | zero =>
    intro b q acc xs m hq h
    simp only [lebNums, Prod.mk.injEq, and_true] at h
    obtain ⟨rfl, rfl⟩ := h
    exact ⟨[], q, by simp, rfl, rfl, hq, by simp [lebAll], by simp [lebAll]⟩
  | succ k ih =>
    intro b q acc xs m hq h
    rcases lebGet_or b q with ⟨e, hg, he, _⟩ | ⟨v, m1, hg, hv, hm, _⟩
    · rw [lebNums, hg] at h; simp [he] at h
    · rw [lebNums, hg, if_neg (by simp)] at h
      simp only [Int.toNat_natCast] at h
      obtain ⟨q2, hq2, hqm, _, _, hd, hmq⟩ := lebGet_back hg
      obtain rfl : q = q2 := by omega
      obtain ⟨ns, j, rfl, hl, rfl, hj, hd2, hjm⟩ := ih b m1 _ _ _ hm h
      refine ⟨v :: ns, j, by simp, by simp [hl], rfl, hj, ?_, ?_⟩
      · rw [hd, hd2, lebAll_cons, List.append_assoc]
      · rw [lebAll_cons, List.length_append]; omega
theorem lebList_put {b pre post : List UInt8} {l : List Nat} {p most : Int} (hb : b = pre ++ (lebListPut l ++ post)) (hp : p = (pre.length : Int)) (hl : l.length < 2 ^ 64) (h64 : ∀ n ∈ l, n < 2 ^ 64) (hm : (l.length : Int) ≤ most) : lebList b p most = (l, ((pre.length + (lebListPut l).length : Nat) : Int), 0) := by
  have hg := lebGet_put' (b := b) (pre := pre) (post := lebAll l ++ post) (n := l.length) (p := p) (by rw [hb, lebListPut, List.append_assoc]) hp hl
  have hc : lebCount b p most = ((l.length : Int), ((pre.length + (lebPut l.length).length : Nat) : Int), 0) := by
    unfold lebCount; rw [hg, if_neg (by simp), if_neg (by simp only; omega)]
  have h2 := lebNums_put l b (pre ++ lebPut l.length) post [] (by rw [hb, lebListPut]; simp) h64
  rw [List.length_append] at h2
  unfold lebList
  rw [hc, if_neg (by simp)]
  simp only [Int.toNat_natCast]
  rw [h2, lebListPut]
  simp only [List.length_append, List.nil_append, Prod.mk.injEq, and_true, true_and]
  omega
theorem lebList_back {b : List UInt8} {xs : List Nat} {p m most : Int} (h : lebList b p most = (xs, m, 0)) : ∃ q k : Nat, p = q ∧ m = k ∧ q < k ∧ k ≤ b.length ∧ b.drop q = lebListPut xs ++ b.drop k ∧ k = q + (lebListPut xs).length ∧ (xs.length : Int) ≤ most := by
  rcases lebCount_or b p most with ⟨e, hc, he, _⟩ | ⟨v, m1, hc, hg, hv, hmost, hmm, _⟩
  · unfold lebList at h
    rw [hc] at h
    simp [he] at h
  · unfold lebList at h
    rw [hc, if_neg (by simp)] at h
    simp only [Int.toNat_natCast] at h
    obtain ⟨q, rfl, hqm, _, _, hd, hmq⟩ := lebGet_back hg
    obtain ⟨ns, j, hx, hl, rfl, hj, hd2, hjm⟩ := lebNums_back v b m1 [] xs m hmm h
    rw [List.nil_append] at hx
    subst hx
    refine ⟨q, j, rfl, rfl, by omega, hj, ?_, ?_, by omega⟩
    · rw [hd, hd2, lebListPut, hl, List.append_assoc]
    · rw [lebListPut, List.length_append, hl]; omega
end Go.Proofs.Ytedmamchfgkkfaa
/- Layer 18 (node): what is put is got; what is parted is put together again. Plain: no program in sight. -/
set_option linter.unusedVariables false
set_option linter.unusedSimpArgs false
namespace Go.Proofs.Ytedmamchfgkkfaa
open Go.RowKit

theorem keysOK_get {keys : List ByteArray} (h : keysOK keys = true) {j : Nat} (hj : j < keys.length) : keyOK keys j = true := List.all_eq_true.1 h j (List.mem_range.2 hj)
theorem keysOK_take {keys : List ByteArray} (h : keysOK keys = true) (m : Nat) : keysOK (keys.take m) = true := by
  refine keysOK_good fun j hj => ?_
  rw [List.length_take] at hj
  have h1 := keysOK_get h (show j < keys.length by omega)
  unfold keyOK at h1 ⊢
  rw [List.getElem?_take_of_lt (by omega)]
  cases hx : keys[j]? with
  | none => rfl
  | some x =>
    rw [hx] at h1
    rcases Nat.eq_zero_or_pos j with h0 | h0
    · subst h0; simpa using h1
    · rw [List.getElem?_take_of_lt (by omega)]; exact h1
theorem keysOK_drop {keys : List ByteArray} (h : keysOK keys = true) (m : Nat) : keysOK (keys.drop m) = true := by
  refine keysOK_good fun j hj => ?_
  rw [List.length_drop] at hj
  have h1 := keysOK_get h (show m + j < keys.length by omega)
  unfold keyOK at h1 ⊢
  rw [List.getElem?_drop]
  cases hx : keys[m + j]? with
  | none => rfl
  | some x =>
    rw [hx] at h1
    simp only [Bool.and_eq_true] at h1 ⊢
    refine ⟨h1.1, ?_⟩
    rcases Nat.eq_zero_or_pos j with h0 | h0
    · subst h0; simp
    · rw [List.getElem?_drop, show m + (j - 1) = m + j - 1 by omega]
      have h2 := h1.2
      rw [show (m + j == 0) = false by simp; omega] at h2
      rw [Bool.false_or] at h2
      rw [h2, Bool.or_true]
theorem valsOK_sub {vals : List ByteArray} (h : valsOK vals = true) {l : List ByteArray} (hl : ∀ x ∈ l, x ∈ vals) : valsOK l = true := List.all_eq_true.2 fun x hx => List.all_eq_true.1 h x (hl x hx)
theorem kidsOK_sub {kids : List Int} (h : kidsOK kids = true) {l : List Int} (hl : ∀ x ∈ l, x ∈ kids) : kidsOK l = true := List.all_eq_true.2 fun x hx => List.all_eq_true.1 h x (hl x hx)
theorem right_leaf {keys vals : List ByteArray} {leaf inner : Nat} (h1 : keysOK keys = true) (h2 : valsOK vals = true) (h3 : keys.length ≤ leaf) (h4 : vals.length = keys.length) : nodeRight 1 keys vals [] leaf inner = true := by
  unfold nodeRight; rw [h1, h2]; simp [h3, h4]
theorem right_inner {keys : List ByteArray} {kids : List Int} {leaf inner : Nat} (h1 : keysOK keys = true) (h2 : kidsOK kids = true) (h3 : 1 ≤ keys.length) (h4 : keys.length ≤ inner) (h5 : kids.length = keys.length + 1) : nodeRight 2 keys [] kids leaf inner = true := by
  unfold nodeRight; rw [h1, h2]; simp [h3, h4, h5]
/-- Both parts may be, have three keys at least, and are put together again. -/
theorem part_halves {k : Int} {keys vals : List ByteArray} {kids : List Int} (hr : nodeRight k keys vals kids 12 13 = true) (h6 : 6 < keys.length) :
    (nodePart k keys vals kids).e = 0 ∧ nodeRight (nodePart k keys vals kids).a.k (nodePart k keys vals kids).a.keys (nodePart k keys vals kids).a.vals (nodePart k keys vals kids).a.kids 6 6 = true ∧
    nodeRight (nodePart k keys vals kids).b.k (nodePart k keys vals kids).b.keys (nodePart k keys vals kids).b.vals (nodePart k keys vals kids).b.kids 6 6 = true ∧ 3 ≤ (nodePart k keys vals kids).a.keys.length ∧ 3 ≤ (nodePart k keys vals kids).b.keys.length ∧
    nodeJoin (nodePart k keys vals kids).a (nodePart k keys vals kids).sep (nodePart k keys vals kids).b = ⟨k, keys, vals, kids, 0⟩ := by
  have wide : ∀ {k : Int} {ks vs : List ByteArray} {is : List Int}, nodeRight k ks vs is 6 6 = true → nodeRight k ks vs is 12 13 = true := by
    intro k ks vs is h
    rcases nodeRight_or h with ⟨h0, ⟨rfl, h1, h2, rfl, h3⟩ | ⟨rfl, h1, h2, h3, rfl, h4⟩⟩
    · exact right_leaf h0 h3 (by omega) h2
    · exact right_inner h0 h4 h1 (by omega) h3
  have fin : ∀ {a b : Nd} {s : ByteArray}, nodeRight a.k a.keys a.vals a.kids 6 6 = true → nodeRight b.k b.keys b.vals b.kids 6 6 = true → a.k = b.k → 1 ≤ s.size → s.size ≤ 40 → nodeJoin a s b = if a.k = 2 then joinEnd 2 (a.keys ++ [s] ++ b.keys) [] (a.kids ++ b.kids) else if joinOK a.keys s b.keys = false then nodeNo 2 else joinEnd a.k (a.keys ++ b.keys) (a.vals ++ b.vals) [] := by
    intro a b s ha hb hk h1 h2
    unfold nodeJoin
    rw [if_neg]
    rintro (h | h | h | h | h)
    · rw [wide ha] at h; cases h
    · rw [wide hb] at h; cases h
    · exact h hk
    · omega
    · omega
  rcases nodeRight_or hr with ⟨hko, ⟨rfl, h1, h2, rfl, h3⟩ | ⟨rfl, h1, h2, h3, rfl, h4⟩⟩
  · obtain ⟨m, hm⟩ : ∃ m, m = keys.length - keys.length / 2 := ⟨_, rfl⟩
    have e : nodePart 1 keys vals [] = ⟨⟨1, keys.take m, vals.take m, []⟩, keys.getD m .empty, ⟨1, keys.drop m, vals.drop m, []⟩, 0⟩ := by
      unfold nodePart; rw [if_neg (by rw [hr]; simp; omega), if_pos rfl, ← hm]
    obtain ⟨x, hx⟩ := get_some keys m (by omega)
    have hxs := keysOK_at hko hx
    rw [getD_of hx] at e
    rw [e]
    have ra : nodeRight 1 (keys.take m) (vals.take m) [] 6 6 = true := right_leaf (keysOK_take hko m) (valsOK_sub h3 (fun x hx => List.mem_of_mem_take hx)) (by simp; omega) (by simp; omega)
    have rb : nodeRight 1 (keys.drop m) (vals.drop m) [] 6 6 = true := right_leaf (keysOK_drop hko m) (valsOK_sub h3 (fun x hx => List.mem_of_mem_drop hx)) (by simp; omega) (by simp; omega)
    refine ⟨rfl, ra, rb, by simp; omega, by simp; omega, ?_⟩
    have ff := fin (a := ⟨1, keys.take m, vals.take m, []⟩) (b := ⟨1, keys.drop m, vals.drop m, []⟩) (s := x) ra rb rfl hxs.1 hxs.2
    simp only at ff ⊢
    rw [ff]
    have hok : joinOK (keys.take m) x (keys.drop m) = true := by
      unfold joinOK
      rw [Bool.and_eq_true]
      refine ⟨List.all_eq_true.2 fun y hy => ?_, ?_⟩
      · obtain ⟨j, hj⟩ := List.mem_iff_getElem?.1 hy
        have hjl := (List.getElem?_eq_some_iff.1 hj).1
        rw [List.length_take] at hjl
        rw [List.getElem?_take_of_lt (by omega)] at hj
        exact keysOK_rise hko (m - j - 1) hj (by rw [show j + (m - j - 1) + 1 = m by omega]; exact hx)
      · rw [all_ge_first (keysOK_drop hko m) (by rw [List.getElem?_drop]; exact hx), sLt_irrefl]; rfl
    rw [if_neg (by decide), hok, if_neg (by decide), List.take_append_drop, List.take_append_drop]
    unfold joinEnd
    rw [hr, if_neg (by decide)]
  · obtain ⟨m, hm⟩ : ∃ m, m = keys.length / 2 := ⟨_, rfl⟩
    have e : nodePart 2 keys [] kids = ⟨⟨2, keys.take m, [], kids.take (m + 1)⟩, keys.getD m .empty, ⟨2, keys.drop (m + 1), [], kids.drop (m + 1)⟩, 0⟩ := by
      unfold nodePart; rw [if_neg (by rw [hr]; simp; omega), if_neg (by decide), ← hm]
    obtain ⟨x, hx⟩ := get_some keys m (by omega)
    have hxs := keysOK_at hko hx
    rw [getD_of hx] at e
    rw [e]
    have ra : nodeRight 2 (keys.take m) [] (kids.take (m + 1)) 6 6 = true := right_inner (keysOK_take hko m) (kidsOK_sub h4 (fun x hx => List.mem_of_mem_take hx)) (by simp; omega) (by simp; omega) (by simp; omega)
    have rb : nodeRight 2 (keys.drop (m + 1)) [] (kids.drop (m + 1)) 6 6 = true := right_inner (keysOK_drop hko (m + 1)) (kidsOK_sub h4 (fun x hx => List.mem_of_mem_drop hx)) (by simp; omega) (by simp; omega) (by simp; omega)
    refine ⟨rfl, ra, rb, by simp; omega, by simp; omega, ?_⟩
    have ff := fin (a := ⟨2, keys.take m, [], kids.take (m + 1)⟩) (b := ⟨2, keys.drop (m + 1), [], kids.drop (m + 1)⟩) (s := x) ra rb rfl hxs.1 hxs.2
    simp only at ff ⊢
    rw [ff, if_pos trivial]
    have e1 : keys.take m ++ [x] ++ keys.drop (m + 1) = keys := by
      have h5 : keys.take (m + 1) = keys.take m ++ [x] := by rw [List.take_add_one, hx]; rfl
      rw [← h5, List.take_append_drop]
    rw [e1, List.take_append_drop]
    unfold joinEnd
    rw [hr, if_neg (by decide)]

/-! ### What is put is got -/
theorem lebCount_put {b pre post : List UInt8} {n : Nat} {p most : Int} (hb : b = pre ++ (lebPut n ++ post)) (hp : p = (pre.length : Int)) (hn : n < 2 ^ 64) (hm : (n : Int) ≤ most) : lebCount b p most = ((n : Int), ((pre.length + (lebPut n).length : Nat) : Int), 0) := by
  unfold lebCount
  rw [lebGet_put' hb hp hn]
  simp
  omega
theorem row_len {x : ByteArray} (h : x.size ≤ 40) : (lebRowPut (tb x)).length = x.size + 1 := by
  unfold lebRowPut
  rw [tb_len, lebPut_small (by omega)]; simp [tb_len]
theorem byt_len (n : Nat) (h : n < 65536) : (lebPut n).length ≤ 3 := (lebPut_len 2 n (by omega)).1
theorem nodeBytes_len {k : Int} {keys vals : List ByteArray} {kids : List Int} (hb : nodeRight k keys vals kids 6 6 = true) : (nodeBytes k keys vals kids).length ≤ 496 := by
  obtain ⟨hko, hcase⟩ := nodeRight_or hb
  have hl : keys.length ≤ 6 := by rcases hcase with h | h <;> omega
  have key : ∀ j, j ≤ keys.length → (nodeUpto k keys vals kids j).length ≤ 4 + 82 * j := by
    intro j
    induction j with
    | zero =>
      intro _
      have h1 : (lebPut keys.length).length = 1 := by rw [lebPut_small (by omega)]; rfl
      unfold nodeUpto nodeHead
      rcases hcase with ⟨rfl, _⟩ | ⟨rfl, _, _, hkl, _, hno⟩
      · simp; omega
      · obtain ⟨x, hx⟩ := get_some kids 0 (by omega)
        have := kidsOK_at hno hx
        have h2 := byt_len x.toNat (by omega)
        rw [getD_of hx]
        simp; omega
    | succ j ih =>
      intro hj
      have := ih (by omega)
      rw [nodeUpto_succ, List.length_append]
      obtain ⟨x, hx⟩ := get_some keys j (by omega)
      have hx4 := keysOK_at hko hx
      have h1 := row_len hx4.2
      unfold nodePiece
      rw [getD_of hx, List.length_append]
      rcases hcase with ⟨rfl, _, hvl, _, hvo⟩ | ⟨rfl, _, _, hkl, _, hno⟩
      · obtain ⟨y, hy⟩ := get_some vals j (by omega)
        have hy4 := valsOK_at hvo hy
        have h2 := row_len hy4
        rw [if_neg (by decide), getD_of hy]
        omega
      · obtain ⟨y, hy⟩ := get_some kids (j + 1) (by omega)
        have := kidsOK_at hno hy
        have h2 := byt_len y.toNat (by omega)
        rw [if_pos rfl, getD_of hy]
        omega
  have := key keys.length (Nat.le_refl _)
  unfold nodeBytes
  omega
theorem nodeBytes_at (k : Int) (keys vals : List ByteArray) (kids : List Int) (j : Nat) (hj : j < keys.length) : ∃ post, nodeBytes k keys vals kids = nodeUpto k keys vals kids j ++ (nodePiece k keys vals kids j ++ post) := by
  have key : ∀ d, ∃ post, nodeUpto k keys vals kids (j + 1 + d) = nodeUpto k keys vals kids (j + 1) ++ post := by
    intro d
    induction d with
    | zero => exact ⟨[], by simp⟩
    | succ d ih =>
      obtain ⟨post, h⟩ := ih
      exact ⟨post ++ nodePiece k keys vals kids (j + 1 + d), by rw [← Nat.add_assoc, nodeUpto_succ, h, List.append_assoc]⟩
  obtain ⟨post, h⟩ := key (keys.length - (j + 1))
  rw [show j + 1 + (keys.length - (j + 1)) = keys.length by omega, nodeUpto_succ] at h
  exact ⟨post, by unfold nodeBytes; rw [h, List.append_assoc]⟩
theorem mk_tb (x : ByteArray) : (⟨(tb x).toArray⟩ : ByteArray) = x := tb_inj (by simp [tb])
theorem nodeLoop_put {k : Int} {keys vals : List ByteArray} {kids : List Int} (hb : nodeRight k keys vals kids 6 6 = true) (hk : k = 1 ∨ k = 2) :
    ∀ (r j : Nat), j + r = keys.length → nodeLoop k (nodeBytes k keys vals kids) r ((nodeUpto k keys vals kids j).length : Int) (keys.take j) (if k = 2 then [] else vals.take j) (if k = 2 then kids.take (j + 1) else []) = ⟨k, keys, vals, kids, 0⟩ := by
  obtain ⟨hko, hcase⟩ := nodeRight_or hb
  intro r
  induction r with
  | zero =>
    intro j hj
    obtain rfl : j = keys.length := by omega
    unfold nodeLoop nodeEnd
    have e1 : (if k = 2 then ([] : List ByteArray) else vals.take keys.length) = vals := by
      rcases hcase with ⟨rfl, _, hvl, _, _⟩ | ⟨rfl, _, _, _, rfl, _⟩
      · rw [if_neg (by decide), List.take_of_length_le (by omega)]
      · rw [if_pos rfl]
    have e2 : (if k = 2 then kids.take (keys.length + 1) else []) = kids := by
      rcases hcase with ⟨rfl, _, _, rfl, _⟩ | ⟨rfl, _, _, hkl, _, _⟩
      · rw [if_neg (by decide)]
      · rw [if_pos rfl, List.take_of_length_le (by omega)]
    rw [e1, e2, List.take_length, hb, if_neg (by unfold nodeBytes; simp)]
  | succ r ih =>
    intro j hj
    obtain ⟨post, hpost⟩ := nodeBytes_at k keys vals kids j (by omega)
    obtain ⟨x, hx⟩ := get_some keys j (by omega)
    have hx4 := keysOK_at hko hx
    have hpc : nodePiece k keys vals kids j = lebRowPut (tb x) ++ if k = 2 then lebPut (kids.getD (j + 1) 0).toNat else lebRowPut (tb (vals.getD j .empty)) := by unfold nodePiece; rw [getD_of hx]
    have tx : keys.take (j + 1) = keys.take j ++ [x] := by rw [List.take_add_one, hx]; rfl
    have nx := ih (j + 1) (by omega)
    rw [nodeUpto_succ, hpc, List.length_append, List.length_append] at nx
    rw [hpc, List.append_assoc] at hpost
    unfold nodeLoop
    have h1 := lebRow_put (most := 40) (p := ((nodeUpto k keys vals kids j).length : Int)) hpost rfl (by rw [tb_len]; omega) (by rw [tb_len]; omega)
    rw [h1, if_neg (by simp)]
    simp only [mk_tb]
    rw [← List.append_assoc, ← List.append_assoc, List.append_assoc (nodeUpto k keys vals kids j ++ lebRowPut (tb x))] at hpost
    rcases hcase with ⟨rfl, _, hvl, hkn, hvo⟩ | ⟨rfl, _, _, hkl, hvn, hno⟩
    · obtain ⟨y, hy⟩ := get_some vals j (by omega)
      have hy4 := valsOK_at hvo hy
      have ty : vals.take (j + 1) = vals.take j ++ [y] := by rw [List.take_add_one, hy]; rfl
      rw [if_neg (by decide), getD_of hy] at nx hpost
      rw [if_neg (by decide)]
      have h2 := lebRow_put (most := 40) (p := ((nodeUpto 1 keys vals kids j).length + (lebRowPut (tb x)).length : Nat)) hpost (by simp) (by rw [tb_len]; omega) (by rw [tb_len]; omega)
      rw [h2, if_neg (by simp)]
      simp only [mk_tb]
      rw [tx, ty] at nx
      rw [if_neg (by decide), if_neg (by decide)] at nx ⊢
      rw [← nx]
      simp [Nat.add_assoc]
    · obtain ⟨y, hy⟩ := get_some kids (j + 1) (by omega)
      have hy4 := kidsOK_at hno hy
      have ty : kids.take (j + 1 + 1) = kids.take (j + 1) ++ [y] := by rw [List.take_add_one, hy]; rfl
      rw [if_pos rfl, getD_of hy] at nx hpost
      rw [if_pos rfl]
      have h2 := lebCount_put (most := 65535) (p := ((nodeUpto 2 keys vals kids j).length + (lebRowPut (tb x)).length : Nat)) hpost (by simp) (by omega) (by omega)
      rw [h2, if_neg (by simp)]
      simp only
      rw [tx, ty] at nx
      simp only [if_true] at nx ⊢
      rw [← nx]
      simp [Nat.add_assoc, Int.toNat_of_nonneg (show 0 ≤ y by omega)]
theorem nodeGet_put {k : Int} {keys vals : List ByteArray} {kids : List Int} (hb : nodeRight k keys vals kids 6 6 = true) : nodeGet k (nodeBytes k keys vals kids) = ⟨k, keys, vals, kids, 0⟩ := by
  obtain ⟨hko, hcase⟩ := nodeRight_or hb
  have hl : keys.length ≤ 6 := by rcases hcase with h | h <;> omega
  have hk : k = 1 ∨ k = 2 := by rcases hcase with h | h; exact .inl h.1; exact .inr h.1
  have key : ∀ d, ∃ post, nodeUpto k keys vals kids d = nodeHead k keys kids ++ post := fun d => ⟨_, rfl⟩
  obtain ⟨post, hpost⟩ := key keys.length
  have hpost : nodeBytes k keys vals kids = nodeHead k keys kids ++ post := hpost
  unfold nodeHead at hpost
  have lp := nodeLoop_put hb hk keys.length 0 (by omega)
  have e0 : (nodeUpto k keys vals kids 0) = nodeHead k keys kids := by unfold nodeUpto; simp
  rw [e0] at lp
  unfold nodeHead at lp
  have h1 := lebCount_put (b := nodeBytes k keys vals kids) (pre := []) (most := 6) (p := 0) (by rw [hpost, List.append_assoc]; rfl) rfl (by omega) (show ((keys.length : Nat) : Int) ≤ 6 by omega)
  unfold nodeGet
  rw [if_neg (by omega), h1, if_neg (by simp)]
  simp only [List.length_nil, Nat.zero_add, Int.toNat_natCast]
  rcases hcase with ⟨rfl, _, hvl, hkn, hvo⟩ | ⟨rfl, _, _, hkl, hvn, hno⟩
  · rw [if_neg (by decide)]
    rw [if_neg (by decide), if_neg (by decide), if_neg (by decide)] at lp
    simpa using lp
  · obtain ⟨y, hy⟩ := get_some kids 0 (by omega)
    have hy4 := kidsOK_at hno hy
    rw [if_pos rfl, getD_of hy] at hpost
    rw [if_pos rfl]
    have h2 := lebCount_put (b := nodeBytes 2 keys vals kids) (pre := lebPut keys.length) (most := 65535) (p := (((lebPut keys.length).length : Nat) : Int)) (by rw [hpost, List.append_assoc]) rfl (show y.toNat < 2 ^ 64 by omega) (by omega)
    rw [h2, if_neg (by simp)]
    rw [if_pos rfl, if_pos rfl, if_pos rfl, getD_of hy] at lp
    rw [show kids.take (0 + 1) = [y] by rw [List.take_add_one, hy]; rfl] at lp
    simpa [Int.toNat_of_nonneg (show 0 ≤ y by omega)] using lp
end Go.Proofs.Ytedmamchfgkkfaa
