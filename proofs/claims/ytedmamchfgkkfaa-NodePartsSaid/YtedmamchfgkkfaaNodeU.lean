/- The reference of layer 18 (node) walked: Join. -/
import Derived.Test.YtedmamchfgkkfaaNodeS
import Derived.Test.YtedmamchfgkkfaaNodeT
import Derived.Test.YtedmamchfgkkfaaNodeJS
set_option linter.unusedVariables false
set_option linter.unusedSimpArgs false
namespace Go.Proofs.Ytedmamchfgkkfaa
open Go.RowKit
set_option maxRecDepth 100000
set_option maxHeartbeats 8000000

/-- Two boxes and a result's variable. -/
theorem join_setup (w : World) (cs cs2 : Array Value) :
    Ob (((w.alloc (.cells cs 52)).alloc (.cells cs2 52)).alloc (.cells #[.int .u8 0, .slice none 0 0, .slice none 0 0, .slice none 0 0] 52)) w.heap.size 52 cs ∧
    Ob (((w.alloc (.cells cs 52)).alloc (.cells cs2 52)).alloc (.cells #[.int .u8 0, .slice none 0 0, .slice none 0 0, .slice none 0 0] 52)) (w.heap.size + 1) 52 cs2 ∧
    Ob (((w.alloc (.cells cs 52)).alloc (.cells cs2 52)).alloc (.cells #[.int .u8 0, .slice none 0 0, .slice none 0 0, .slice none 0 0] 52)) (w.heap.size + 1 + 1) 52 #[.int .u8 0, .slice none 0 0, .slice none 0 0, .slice none 0 0] := by
  refine ⟨?_, ?_, ?_⟩
  all_goals simp only [Ob, heap_alloc_at, heap_alloc_size, if_true] <;> (repeat' split) <;> first | rfl | omega
theorem ref_nodeJoin (k : Int) (A B I : Option Addr) (keys vals : List ByteArray) (kids : List Int) (c d ci : Nat) (sep : ByteArray) (k2 : Int) (A2 B2 I2 : Option Addr) (keys2 vals2 : List ByteArray) (kids2 : List Int) (c2 d2 ci2 : Nat) (w : World)
    (hk : keys.length * 16 ≤ 140737488355328) (hv : vals.length * 16 ≤ 140737488355328) (hn : kids.length * 8 ≤ 140737488355328) (hk2 : keys2.length * 16 ≤ 140737488355328) (hv2 : vals2.length * 16 ≤ 140737488355328) (hn2 : kids2.length * 8 ≤ 140737488355328)
    (rk : Rd w A (keys.map sv)) (rv : Rd w B (vals.map sv)) (rn : Rd w I (kids.map iv)) (rk2 : Rd w A2 (keys2.map sv)) (rv2 : Rd w B2 (vals2.map sv)) (rn2 : Rd w I2 (kids2.map iv)) :
    Calls Try.prog 50 #[nodeV k A keys.length c B vals.length d I kids.length ci, .string sep, nodeV k2 A2 keys2.length c2 B2 vals2.length d2 I2 kids2.length ci2] w (RetNode (nodeJoin ⟨k, keys, vals, kids⟩ sep ⟨k2, keys2, vals2, kids2⟩) w) := by
  have RK := Lib.hid rk
  have RV := Lib.hid rv
  have RN := Lib.hid rn
  have RK2 := Lib.hid rk2
  have RV2 := Lib.hid rv2
  have RN2 := Lib.hid rn2
  obtain ⟨o1, o2, o3⟩ := join_setup w #[.int .u8 k, .slice A keys.length c, .slice B vals.length d, .slice I kids.length ci] #[.int .u8 k2, .slice A2 keys2.length c2, .slice B2 vals2.length d2, .slice I2 kids2.length ci2]
  have HO := Lib.hid o1
  have HO2 := Lib.hid o2
  have HZ := Lib.hid o3
  have HW := Lib.hid ((((Bl.refl w).alloc (.cells #[.int .u8 k, .slice A keys.length c, .slice B vals.length d, .slice I kids.length ci] 52)).alloc (.cells #[.int .u8 k2, .slice A2 keys2.length c2, .slice B2 vals2.length d2, .slice I2 kids2.length ci2] 52)).alloc (.cells #[.int .u8 0, .slice none 0 0, .slice none 0 0, .slice none 0 0] 52))
  clear rk rv rn rk2 rv2 rn2 o1 o2 o3
  go_enter Try.func50, Try.ntmps50
  go_wp2_with (go_at_call 35; fail_if_success skip)
  generalize (((w.alloc (.cells #[.int .u8 k, .slice A keys.length c, .slice B vals.length d, .slice I kids.length ci] 52)).alloc (.cells #[.int .u8 k2, .slice A2 keys2.length c2, .slice B2 vals2.length d2, .slice I2 kids2.length ci2] 52)).alloc (.cells #[.int .u8 0, .slice none 0 0, .slice none 0 0, .slice none 0 0] 52)) = u at HO HO2 HZ HW ⊢
  refine (ref_nodeWide k A B I keys vals kids c d ci u (by omega) (by omega) (by omega) (RK.out.bl HW.out) (RV.out.bl HW.out) (RN.out.bl HW.out)).mono ?_
  rintro e w1 ⟨rfl, hbl1⟩
  have HB1 := Lib.hid hbl1
  have HWB : Hid (∀ w', Bl u w' → Calls Try.prog 35 #[nodeV k2 A2 keys2.length c2 B2 vals2.length d2 I2 kids2.length ci2] w' (RetBl (nodeRight k2 keys2 vals2 kids2 12 13) w')) := fun w' h =>
    ref_nodeWide k2 A2 B2 I2 keys2 vals2 kids2 c2 d2 ci2 w' (by omega) (by omega) (by omega) (RK2.out.bl (HW.out.trans h)) (RV2.out.bl (HW.out.trans h)) (RN2.out.bl (HW.out.trans h))
  obtain ⟨a0, a1, a2, a3, _⟩ := Ob.all4 (HO.out.bl hbl1)
  obtain ⟨b0, b1, b2, b3, _⟩ := Ob.all4 (HO2.out.bl hbl1)
  obtain ⟨z0, z1, z2, z3, f0, f1, f2, f3⟩ := Ob.all4 (HZ.out.bl hbl1)
  clear hbl1
  have HJ := Lib.hid (show nodeJoin ⟨k, keys, vals, kids⟩ sep ⟨k2, keys2, vals2, kids2⟩ = _ from rfl)
  have no : ∀ {x : Prop}, x → True := fun _ => trivial
  cases hr : nodeRight k keys vals kids 12 13
  · have HP := Lib.hid (show nodeJoin ⟨k, keys, vals, kids⟩ sep ⟨k2, keys2, vals2, kids2⟩ = nodeNo 2 by unfold nodeJoin; rw [if_pos (.inl hr)])
    clear hr no
    go_wp2_with fail
    refine bodyPost_ret (v := .tuple #[nodeV 0 none 0 0 none 0 0 none 0 0, .int .i64 2]) (results_ct rfl _ _ ((HZ.out.bl HB1.out).set4 _ _ _ _).1 rfl rfl Try.underlying52 rfl Try.sizeNode) rfl ?_
    exact RetNode.no HP.out (((HW.out.trans HB1.out).ch [w.heap.size + 1 + 1]).same ((HZ.out.bl HB1.out).set4 _ _ _ _).2 |>.bl (by intro g hg; simp at hg; omega))
  · go_wp2_with (go_at_call 35; fail_if_success skip)
    refine (HWB.out w1 HB1.out).mono ?_
    rintro e w2 ⟨rfl, hbl2⟩
    have HB2 := Lib.hid (HB1.out.trans hbl2)
    clear a0 a1 a2 a3 b0 b1 b2 b3 z0 z1 z2 z3 f0 f1 f2 f3
    obtain ⟨a0, a1, a2, a3, _⟩ := Ob.all4 (HO.out.bl HB2.out)
    obtain ⟨b0, b1, b2, b3, _⟩ := Ob.all4 (HO2.out.bl HB2.out)
    obtain ⟨z0, z1, z2, z3, f0, f1, f2, f3⟩ := Ob.all4 (HZ.out.bl HB2.out)
    clear hbl2
    by_cases hbad : nodeRight k2 keys2 vals2 kids2 12 13 = false ∨ k ≠ k2 ∨ sep.size < 1 ∨ 40 < sep.size
    · have HP := Lib.hid (show nodeJoin ⟨k, keys, vals, kids⟩ sep ⟨k2, keys2, vals2, kids2⟩ = nodeNo 2 by unfold nodeJoin; rw [if_pos (.inr hbad)])
      have key : ∀ {w' : World}, w' = w' := rfl
      rcases (show (nodeRight k2 keys2 vals2 kids2 12 13 = false) ∨ (nodeRight k2 keys2 vals2 kids2 12 13 = true ∧ (k != k2) = true) ∨ (nodeRight k2 keys2 vals2 kids2 12 13 = true ∧ (k != k2) = false ∧ sep.size < 1) ∨ (nodeRight k2 keys2 vals2 kids2 12 13 = true ∧ (k != k2) = false ∧ 1 ≤ sep.size ∧ 40 < sep.size) by
        cases h1 : nodeRight k2 keys2 vals2 kids2 12 13
        · exact .inl rfl
        · right
          by_cases h2 : k = k2
          · right
            have e2 : (k != k2) = false := by simpa using h2
            by_cases h3 : sep.size < 1
            · exact .inl ⟨rfl, e2, h3⟩
            · right
              refine ⟨rfl, e2, by omega, ?_⟩
              rcases hbad with h | h | h | h
              · rw [h1] at h; cases h
              · exact absurd h2 h
              · omega
              · exact h
          · exact .inl ⟨rfl, by simpa using h2⟩) with h1 | ⟨h1, h2⟩ | ⟨h1, h2, h3⟩ | ⟨h1, h2, h3, h4⟩
      all_goals
        clear hbad hr no key
        rw [h1]
        go_wp2_with fail
        refine bodyPost_ret (v := .tuple #[nodeV 0 none 0 0 none 0 0 none 0 0, .int .i64 2]) (results_ct rfl _ _ ((HZ.out.bl HB2.out).set4 _ _ _ _).1 rfl rfl Try.underlying52 rfl Try.sizeNode) rfl ?_
        exact RetNode.no HP.out (((HW.out.trans HB2.out).ch [w.heap.size + 1 + 1]).same ((HZ.out.bl HB2.out).set4 _ _ _ _).2 |>.bl (by intro g hg; simp at hg; omega))
    · have h1 : nodeRight k2 keys2 vals2 kids2 12 13 = true := by
        cases h1 : nodeRight k2 keys2 vals2 kids2 12 13
        · exact absurd (.inl h1) hbad
        · rfl
      have hkk : k = k2 := by
        by_cases h2 : k = k2
        · exact h2
        · exact absurd (.inr (.inl h2)) hbad
      have s1 : 1 ≤ sep.size := by omega
      have s2 : sep.size ≤ 40 := by omega
      subst hkk
      rw [h1]
      have HJ1 := Lib.hid (show nodeJoin ⟨k, keys, vals, kids⟩ sep ⟨k, keys2, vals2, kids2⟩ = (if k = 2 then joinEnd 2 (keys ++ [sep] ++ keys2) [] (kids ++ kids2) else if joinOK keys sep keys2 = false then nodeNo 2 else joinEnd k (keys ++ keys2) (vals ++ vals2) []) by
        unfold nodeJoin
        rw [if_neg (show ¬ _ from fun h => by
          rcases h with h | h | h | h | h
          · have h : nodeRight k keys vals kids 12 13 = false := h
            rw [hr] at h; cases h
          · have h : nodeRight k keys2 vals2 kids2 12 13 = false := h
            rw [h1] at h; cases h
          · exact h rfl
          · omega
          · omega)])
      have HR1 := Lib.hid (nodeRight_or hr)
      have HR2 := Lib.hid (nodeRight_or h1)
      have e0 : (k != k) = false := by simp
      clear hr h1 hbad no HJ HWB
      go_upto_if 41 with (go_at_call 46; go_must (refine (ref_nodeCopy k A B I keys vals kids c d ci w2 hk hv hn (RK.out.bl (HW.out.trans HB2.out)) (RV.out.bl (HW.out.trans HB2.out)) (RN.out.bl (HW.out.trans HB2.out))).mono ?_); rintro e w3 ⟨A3, c3, B3, d3, I3, ci3, rfl, hA3, hB3, hI3, hbl3, hap3⟩; have hv3 := hbl3.alloc (.cells #[.int .u8 k, .slice A3 keys.length c3, .slice B3 vals.length d3, .slice I3 kids.length ci3] 52); clear a0 a1 a2 a3 b0 b1 b2 b3 z0 z1 z2 z3 f0 f1 f2 f3; obtain ⟨a0, a1, a2, a3, _⟩ := Ob.all4 (HO.out.bl (HB2.out.trans hv3)))
      have S0 : JSt w k (w.heap.size + 1 + 1) w3.heap.size w2.heap.size (w3.alloc (.cells #[.int .u8 k, .slice A3 keys.length c3, .slice B3 vals.length d3, .slice I3 kids.length ci3] 52)) keys vals kids (.slice A3 keys.length c3) (.slice B3 vals.length d3) (.slice I3 kids.length ci3) :=
        ⟨HZ.out.bl (HB2.out.trans hv3), Ob.new w3 _ _, hA3.bl ((Bl.refl _).alloc _), hB3.bl ((Bl.refl _).alloc _), hI3.bl ((Bl.refl _).alloc _), (HW.out.trans HB2.out).trans hv3,
          ⟨by omega, Nat.le_trans (HW.out.trans HB2.out).size hbl3.size, (HW.out.trans HB2.out).size, by have := hbl3.size; simp; omega, by have h1 := HZ.out.lt; have h2 := (HB2.out.trans hbl3).size; omega⟩, hap3⟩
      have HS0 := Lib.hid S0
      have HV3 := Lib.hid (HB2.out.trans hv3)
      have hub : u.heap.size ≤ w2.heap.size ∧ u.heap.size ≤ w3.heap.size := ⟨HB2.out.size, (HB2.out.trans hbl3).size⟩
      have HUB := Lib.hid hub
      clear hA3 hB3 hI3 hap3 S0 hv3 hub
      generalize w3.alloc (.cells #[.int .u8 k, .slice A3 keys.length c3, .slice B3 vals.length d3, .slice I3 kids.length ci3] 52) = v at HS0 HV3 a0 a1 a2 a3 ⊢
      generalize w3.heap.size = g8 at HS0 HUB ⊢
      generalize w2.heap.size = base at HS0 HUB ⊢
      generalize hgR : w.heap.size + 1 + 1 = gR at HS0 HZ ⊢
      obtain ⟨ks', hks⟩ : ∃ ks' : List ByteArray, ks' = if k = 2 then keys ++ [sep] else keys := ⟨_, rfl⟩
      have HKS := Lib.hid hks
      clear hks
      go_cut [] (fun wx => Hid (∃ K V I, JSt w k gR g8 base wx ks' vals kids K V I ∧ Bl u wx))
      case first =>
        by_cases h2 : k = 2
        · have HKE := Lib.hid (HKS.out.trans (if_pos h2))
          subst h2
          obtain ⟨n0, n1, n2, n3, _⟩ := Ob.all4 HS0.out.oN
          have hl13 : keys.length ≤ 13 := by have := HR1.out.2; omega
          go_wp2_with (at_builtin; go_must (refine append_one rfl _ _ 49 9 (.string .empty) 1 16 rfl Try.underlying49 Try.infoStr rfl (by decide) base HS0.out.aK (by rfl) (by rfl) (by rfl) (by intro u hu; simp at hu; subst hu; rfl) (by omega) (by omega) HS0.out.ord.2.2.2.1 ?_); intro v4 w4 hown4 hgr4 hat4; obtain ⟨A4, c4, rfl, hcc4⟩ := hown4.slice; have S4 := HS0.out.keys (n := 1) (xs := [sep]) rfl hown4 hgr4 hat4; have hN4 := (HS0.out.grow HS0.out.aK (by decide) hgr4 1 (.int .i64 0)).2.1; have g4 := hN4.cell 1 rfl; simp only [List.getElem_toArray, List.getElem_cons_zero, List.getElem_cons_succ] at g4; have f4 := hN4.free 1)
          go_meet
          case rel => exact ⟨_, _, _, by rw [HKE.out]; exact S4, (HV3.out.grown hgr4 (fun q hq => Nat.le_trans HUB.out.1 (HS0.out.aK.ge q hq))).setCell HUB.out.2 _⟩
        · have b2 : (k == 2) = false := by simpa using h2
          have HKE := Lib.hid (HKS.out.trans (if_neg h2))
          go_wp2_with fail
          go_meet
          case rel => exact ⟨_, _, _, by rw [HKE.out]; exact HS0.out, HV3.out⟩
      case rest =>
        obtain ⟨K, V, I', S5, hb5⟩ := hcut.out
        have HS5 := Lib.hid S5
        have HB5 := Lib.hid hb5
        clear S5 a0 a1 a2 a3 hb5
        obtain ⟨a0, a1, a2, a3, _⟩ := Ob.all4 (HO.out.bl HB5.out)
        obtain ⟨b0, b1, b2, b3, _⟩ := Ob.all4 (HO2.out.bl HB5.out)
        obtain ⟨z0, z1, z2, z3, f0, f1, f2, f3⟩ := Ob.all4 HS5.out.oR
        have hk13 : keys.length ≤ 13 := by have := HR1.out.2; omega
        have hk213 : keys2.length ≤ 13 := by have := HR2.out.2; omega
        go_wp2_with fail
        go_loopw [9] (fun i wr => ∃ j : Nat, j ≤ keys.length ∧ i = .int .i64 j ∧ Hid (k = 1 → ∀ x ∈ keys.take j, sLt x sep = true) ∧ wr = wc) (fun i _ => keys.length - (intOf i).toNat)
        case atStart => exact ⟨0, by omega, rfl, fun _ x hx => by simp at hx, rfl⟩
        case round =>
          obtain ⟨j, hj, rfl, HQ, hwr⟩ := hrel
          have hwr2 := hwr.symm
          clear hwr
          subst hwr2
          by_cases hlt : j < keys.length
          · obtain ⟨x, hx⟩ := get_some keys j hlt
            obtain ⟨bb, oo, rfl, hc⟩ := (RK.out.bl (HW.out.trans HB5.out)).get hx
            simp only [sv] at hc
            have HT := Lib.hid (show keys.take (j + 1) = keys.take j ++ [x] by rw [List.take_add_one, hx]; rfl)
            cases hs : sLt x sep
            · have HS := Lib.hid hs
              have hcmp : Op.bytesLess x.toList sep.toList = false := hs
              clear hs
              by_cases hk1 : k = 1
              · have HP := Lib.hid (show nodeJoin ⟨k, keys, vals, kids⟩ sep ⟨k, keys2, vals2, kids2⟩ = nodeNo 2 by
                  rw [HJ1.out, if_neg (by omega), if_pos ?_]
                  unfold joinOK
                  rw [show keys.all (fun x => sLt x sep) = false by rw [List.all_eq_false]; exact ⟨x, List.mem_of_getElem? hx, by rw [HS.out]; simp⟩]
                  simp)
                subst hk1
                clear hx
                go_wp2_with fail
                refine bodyPost_ret (v := .tuple #[nodeV 0 none 0 0 none 0 0 none 0 0, .int .i64 2]) (results_ct rfl _ _ (HS5.out.oR.set4 _ _ _ _).1 rfl rfl Try.underlying52 rfl Try.sizeNode) rfl ?_
                exact RetNode.no HP.out ((HS5.out.wb.ch [gR]).same (HS5.out.oR.set4 _ _ _ _).2 |>.bl (by have := HS5.out.ord.1; intro g hg; simp at hg; omega))
              · have c1 : (k == 1) = false := by simpa using hk1
                have HK1 := Lib.hid hk1
                clear hk1 hx
                go_wp2_with fail
                go_roundw
                case rel => exact ⟨j + 1, by omega, by go_num, fun hk1 => absurd hk1 HK1.out, trivial⟩
                case measure => simp [intOf]; omega
            · have HS := Lib.hid hs
              have hcmp : Op.bytesLess x.toList sep.toList = true := hs
              clear hs hx
              go_wp2_with fail
              go_roundw
              case rel =>
                refine ⟨j + 1, by omega, by go_num, fun hk1 y hy => ?_, trivial⟩
                rw [HT.out] at hy
                rcases List.mem_append.1 hy with hy | hy
                · exact HQ.out hk1 y hy
                · simp at hy; subst hy; exact HS.out
              case measure => simp [intOf]; omega
          · obtain rfl : j = keys.length := by omega
            have HQ1 := Lib.hid (show k = 1 → keys.all (fun x => sLt x sep) = true from fun h => by
              rw [List.all_eq_true]; intro y hy
              have := HQ.out h y
              rw [List.take_length] at this
              exact this hy)
            clear HQ
            go_wp2_with fail
            go_loopw [10] (fun i wr => ∃ j : Nat, j ≤ keys2.length ∧ i = .int .i64 j ∧ Hid (k = 1 → ∀ x ∈ keys2.take j, sLt x sep = false) ∧ wr = wc) (fun i _ => keys2.length - (intOf i).toNat)
            case atStart => exact ⟨0, by omega, rfl, fun _ x hx => by simp at hx, rfl⟩
            case round =>
              obtain ⟨j, hj, rfl, HQ, hwr⟩ := hrel
              have hwr2 := hwr.symm
              clear hwr
              subst hwr2
              by_cases hlt : j < keys2.length
              · obtain ⟨x, hx⟩ := get_some keys2 j hlt
                obtain ⟨bb, oo, rfl, hc⟩ := (RK2.out.bl (HW.out.trans HB5.out)).get hx
                simp only [sv] at hc
                have HT := Lib.hid (show keys2.take (j + 1) = keys2.take j ++ [x] by rw [List.take_add_one, hx]; rfl)
                cases hs : sLt x sep
                · have HS := Lib.hid hs
                  have hcmp : Op.bytesLess x.toList sep.toList = false := hs
                  clear hs hx
                  go_wp2_with fail
                  go_roundw
                  case rel =>
                    refine ⟨j + 1, by omega, by go_num, fun hk1 y hy => ?_, trivial⟩
                    rw [HT.out] at hy
                    rcases List.mem_append.1 hy with hy | hy
                    · exact HQ.out hk1 y hy
                    · simp at hy; subst hy; exact HS.out
                  case measure => simp [intOf]; omega
                · have HS := Lib.hid hs
                  have hcmp : Op.bytesLess x.toList sep.toList = true := hs
                  clear hs
                  by_cases hk1 : k = 1
                  · have HP := Lib.hid (show nodeJoin ⟨k, keys, vals, kids⟩ sep ⟨k, keys2, vals2, kids2⟩ = nodeNo 2 by
                      rw [HJ1.out, if_neg (by omega), if_pos ?_]
                      unfold joinOK
                      rw [show keys2.all (fun x => !sLt x sep) = false by rw [List.all_eq_false]; exact ⟨x, List.mem_of_getElem? hx, by rw [HS.out]; simp⟩]
                      simp)
                    subst hk1
                    clear hx
                    go_wp2_with fail
                    refine bodyPost_ret (v := .tuple #[nodeV 0 none 0 0 none 0 0 none 0 0, .int .i64 2]) (results_ct rfl _ _ (HS5.out.oR.set4 _ _ _ _).1 rfl rfl Try.underlying52 rfl Try.sizeNode) rfl ?_
                    exact RetNode.no HP.out ((HS5.out.wb.ch [gR]).same (HS5.out.oR.set4 _ _ _ _).2 |>.bl (by have := HS5.out.ord.1; intro g hg; simp at hg; omega))
                  · have c1 : (k == 1) = false := by simpa using hk1
                    have HK1 := Lib.hid hk1
                    clear hk1 hx
                    go_wp2_with fail
                    go_roundw
                    case rel => exact ⟨j + 1, by omega, by go_num, fun hk1 => absurd hk1 HK1.out, trivial⟩
                    case measure => simp [intOf]; omega
              · obtain rfl : j = keys2.length := by omega
                have HQ2 := Lib.hid (show k = 1 → keys2.all (fun x => !sLt x sep) = true from fun h => by
                  rw [List.all_eq_true]; intro y hy
                  have := HQ.out h y
                  rw [List.take_length] at this
                  rw [this hy]; rfl)
                clear HQ
                obtain ⟨AK, cK, rfl, _⟩ := HS5.out.aK.slice
                obtain ⟨AV, cV, rfl, _⟩ := HS5.out.aV.slice
                obtain ⟨AI, cI, rfl, _⟩ := HS5.out.aI.slice
                obtain ⟨n0, n1, n2, n3, _⟩ := Ob.all4 HS5.out.oN
                have hks14 : ks'.length ≤ 14 := by rw [HKS.out]; split <;> first | omega | (simp; omega)
                have hv14 : vals.length ≤ 14 := by have := HR1.out.2; rcases this with h | h <;> simp_all <;> omega
                have hv214 : vals2.length ≤ 14 := by have := HR2.out.2; rcases this with h | h <;> simp_all <;> omega
                have hi14 : kids.length ≤ 14 := by have := HR1.out.2; rcases this with h | h <;> simp_all <;> omega
                have hi214 : kids2.length ≤ 14 := by have := HR2.out.2; rcases this with h | h <;> simp_all <;> omega
                go_wp2_with (first
                  | (at_builtin; refine append_row rfl _ _ 49 9 (.string .empty) 1 16 rfl Try.underlying49 Try.infoStr rfl (by decide) base HS5.out.aK (by rfl) (by rfl) (RK2.out.bl (HW.out.trans HB5.out)) (by simp) (sv_one _) (by omega) (by omega) HS5.out.ord.2.2.2.1 ?_; intro v6 w6 hown6 hgr6 hat6; obtain ⟨A6, c6, rfl, hcc6⟩ := hown6.slice; have S6 := HS5.out.keys (xs := keys2) rfl hown6 hgr6 (hat6.imp id (fun h => ⟨_, h, Nat.le_refl _⟩)); have hN6 := (HS5.out.grow HS5.out.aK (by decide) hgr6 1 (.int .i64 0)).2.1; have g6 := hN6.cell 1 rfl; simp only [List.getElem_toArray, List.getElem_cons_zero, List.getElem_cons_succ] at g6; have f6 := hN6.free 1; have HS6 := Lib.hid S6; have HB6 := Lib.hid ((HB5.out.grown hgr6 (fun q hq => Nat.le_trans HUB.out.1 (HS5.out.aK.ge q hq))).setCell (w := u) (p := ⟨g8, 1, none⟩) HUB.out.2 (.slice A6 (ks'.length + keys2.length) c6)); obtain ⟨b0, b1, b2, b3, _⟩ := Ob.all4 (HO2.out.bl HB6.out); obtain ⟨n0, n1, n2, n3, _⟩ := Ob.all4 S6.oN)
                  | (at_builtin; refine append_row rfl _ _ 49 9 (.string .empty) 1 16 rfl Try.underlying49 Try.infoStr rfl (by decide) base HS6.out.aV (by rfl) (by rfl) (RV2.out.bl (HW.out.trans HB6.out)) (by simp) (sv_one _) (by omega) (by omega) HS6.out.ord.2.2.2.1 ?_; intro v7 w7 hown7 hgr7 hat7; obtain ⟨A7, c7, rfl, hcc7⟩ := hown7.slice; have S7 := HS6.out.vals (xs := vals2) rfl hown7 hgr7 (hat7.imp id (fun h => ⟨_, h, Nat.le_refl _⟩)); have hN7 := (HS6.out.grow HS6.out.aV (by decide) hgr7 2 (.int .i64 0)).2.1; have g7 := hN7.cell 2 rfl; simp only [List.getElem_toArray, List.getElem_cons_zero, List.getElem_cons_succ] at g7; have f7 := hN7.free 2; have HS7 := Lib.hid S7; have HB7 := Lib.hid ((HB6.out.grown hgr7 (fun q hq => Nat.le_trans HUB.out.1 (HS6.out.aV.ge q hq))).setCell (w := u) (p := ⟨g8, 2, none⟩) HUB.out.2 (.slice A7 (vals.length + vals2.length) c7)); obtain ⟨b0, b1, b2, b3, _⟩ := Ob.all4 (HO2.out.bl HB7.out); obtain ⟨n0, n1, n2, n3, _⟩ := Ob.all4 S7.oN)
                  | (at_builtin; refine append_row rfl _ _ 50 3 (.int .i64 0) 1 8 rfl Try.underlying50 Try.infoInt rfl (by decide) base HS7.out.aI (by rfl) (by rfl) (RN2.out.bl (HW.out.trans HB7.out)) (by simp) (iv_one _) (by omega) (by omega) HS7.out.ord.2.2.2.1 ?_; intro v8 w8 hown8 hgr8 hat8; obtain ⟨A8, c8, rfl, hcc8⟩ := hown8.slice; have S8 := HS7.out.kids (xs := kids2) rfl hown8 hgr8; have hN8 := (HS7.out.grow HS7.out.aI (by decide) hgr8 3 (.int .i64 0)).2.1; have gc8 := hN8.cell 3 rfl; simp only [List.getElem_toArray, List.getElem_cons_zero, List.getElem_cons_succ] at gc8; have f8 := hN8.free 3; have HS8 := Lib.hid S8; have HB8 := Lib.hid ((HB7.out.grown hgr8 (fun q hq => Nat.le_trans HUB.out.1 (HS7.out.aI.ge q hq))).setCell (w := u) (p := ⟨g8, 3, none⟩) HUB.out.2 (.slice A8 (kids.length + kids2.length) c8)); obtain ⟨b0, b1, b2, b3, _⟩ := Ob.all4 (HO2.out.bl HB8.out); obtain ⟨n0, n1, n2, n3, _⟩ := Ob.all4 S8.oN))
                have HWd : ∀ w', Rd w' A6 ((ks' ++ keys2).map sv) → Rd w' A7 ((vals ++ vals2).map sv) → Rd w' A8 ((kids ++ kids2).map iv) → Calls Try.prog 35 #[nodeV k A6 (ks'.length + keys2.length) c6 A7 (vals.length + vals2.length) c7 A8 (kids.length + kids2.length) c8] w' (RetBl (nodeRight k (ks' ++ keys2) (vals ++ vals2) (kids ++ kids2) 12 13) w') := fun w' x y z => by
                  have := ref_nodeWide k A6 A7 A8 (ks' ++ keys2) (vals ++ vals2) (kids ++ kids2) c6 c7 c8 w' (by simp; omega) (by simp; omega) (by simp; omega) x y z
                  simpa only [List.length_append] using this
                refine (HWd _ HS8.out.aK.rd.1 HS8.out.aV.rd.1 HS8.out.aI.rd.1).mono ?_
                rintro e w9 ⟨rfl, hbl9⟩
                have HS9 := Lib.hid (HS8.out.bl hbl9)
                clear HWd
                have HJE := Lib.hid (show nodeJoin ⟨k, keys, vals, kids⟩ sep ⟨k, keys2, vals2, kids2⟩ = joinEnd k (ks' ++ keys2) (vals ++ vals2) (kids ++ kids2) by
                  rw [HJ1.out, HKS.out]
                  rcases HR1.out.2 with ⟨q1, _, _, q2, _⟩ | ⟨q1, _, _, _, q2, _⟩
                  · rcases HR2.out.2 with ⟨_, _, _, q3, _⟩ | ⟨q3, _⟩
                    · have hok : joinOK keys sep keys2 = true := by unfold joinOK; rw [HQ1.out q1, HQ2.out q1]; rfl
                      rw [if_neg (by omega), if_neg (by rw [hok]; decide), if_neg (by omega), q2, q3]; rfl
                    · omega
                  · rcases HR2.out.2 with ⟨q3, _⟩ | ⟨_, _, _, _, q3, _⟩
                    · omega
                    · rw [if_pos q1, if_pos q1, q2, q3, q1]; rfl)
                obtain ⟨z0, z1, z2, z3, zf0, zf1, zf2, zf3⟩ := Ob.all4 HS9.out.oR
                obtain ⟨m0, m1, m2, m3, _⟩ := Ob.all4 HS9.out.oN
                cases hrr : nodeRight k (ks' ++ keys2) (vals ++ vals2) (kids ++ kids2) 12 13
                · have HP := Lib.hid (show nodeJoin ⟨k, keys, vals, kids⟩ sep ⟨k, keys2, vals2, kids2⟩ = nodeNo 2 by rw [HJE.out]; unfold joinEnd; rw [if_pos hrr])
                  clear hrr
                  go_wp2_with fail
                  refine bodyPost_ret (v := .tuple #[nodeV 0 none 0 0 none 0 0 none 0 0, .int .i64 2]) (results_ct rfl _ _ (HS9.out.oR.set4 _ _ _ _).1 rfl rfl Try.underlying52 rfl Try.sizeNode) rfl ?_
                  exact RetNode.no HP.out ((HS9.out.wb.ch [gR]).same (HS9.out.oR.set4 _ _ _ _).2 |>.bl (by have := HS9.out.ord.1; simp; omega))
                · have HP := Lib.hid (show nodeJoin ⟨k, keys, vals, kids⟩ sep ⟨k, keys2, vals2, kids2⟩ = ⟨k, ks' ++ keys2, vals ++ vals2, kids ++ kids2, 0⟩ by rw [HJE.out]; unfold joinEnd; rw [if_neg (by rw [hrr]; decide)])
                  clear hrr
                  go_wp2_with fail
                  refine bodyPost_ret (v := .tuple #[nodeV k A6 (ks'.length + keys2.length) c6 A7 (vals.length + vals2.length) c7 A8 (kids.length + kids2.length) c8, .int .i64 0]) (results_ct rfl _ _ (HS9.out.oR.set4 _ _ _ _).1 rfl rfl Try.underlying52 rfl Try.sizeNode) rfl ?_
                  unfold RetNode
                  rw [HP.out]
                  have hch := (HS9.out.oR.set4 (.int .u8 k) (.slice A6 (ks'.length + keys2.length) c6) (.slice A7 (vals.length + vals2.length) c7) (.slice A8 (kids.length + kids2.length) c8)).2
                  have key : ∀ {T : TypeId} {v : Value} {m : Nat} {cs : List Value}, 52 ≠ T → App _ base T 1 v m cs → App _ w.heap.size T 1 v m cs := fun hT a => (a.ch hch (fun g hg => by simp at hg; subst hg; exact HS9.out.oR.app a hT)).mono HS9.out.ord.2.2.1
                  refine ⟨A6, c6, A7, c7, A8, c8, ?_, ?_, ?_, ?_, (HS9.out.wb.ch [gR]).same hch |>.bl (by have := HS9.out.ord.1; simp; omega)⟩
                  · simp [nodeV]
                  · have := key (by decide) HS9.out.aK; simpa only [List.length_append] using this
                  · have := key (by decide) HS9.out.aV; simpa only [List.length_append] using this
                  · have := key (by decide) HS9.out.aI; simpa only [List.length_append] using this
end Go.Proofs.Ytedmamchfgkkfaa
