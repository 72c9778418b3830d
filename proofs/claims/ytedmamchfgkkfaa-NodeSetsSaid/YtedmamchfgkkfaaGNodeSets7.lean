/- Texts of the claim NodeSets, part 7: NodeSv, NodeSw, NodeJ, NodeK. -/
import Derived.Test.YtedmamchfgkkfaaGNodeSets6
import Derived.Test.YtedmamchfgkkfaaGNodeSets3
import Derived.Test.YtedmamchfgkkfaaGNodeSets2
/- The reference of layer 18 (node) walked: Set and Cut (printed by gen_refset18.py). -/
set_option linter.unusedVariables false
set_option linter.unusedSimpArgs false
namespace Go.Proofs.Ytedmamchfgkkfaa
open Go.RowKit
set_option maxRecDepth 100000
set_option maxHeartbeats 8000000

theorem setUpto_len {α : Type} (xs : List α) (x : α) (k : Nat) (is : Bool) (i : Nat) : (setUpto xs x k is i).length ≤ xs.length + 1 + xs.length := by
  unfold setUpto
  split
  · rw [List.length_take]; omega
  · simp; omega
/-- The memory of the reference's Set and Cut: a result's variable, a box. -/
def nL (A B I : Option Addr) (keys vals : List ByteArray) (kids : List Int) (c d ci gR g1 : Nat) (w : World) : List Chunk := [blk gR 52 #[.int .u8 0, .slice none 0 0, .slice none 0 0, .slice none 0 0], blk g1 52 #[.int .u8 1, .slice A keys.length c, .slice B vals.length d, .slice I kids.length ci], old w]
theorem ref_nodeCut (k : Int) (A B I : Option Addr) (keys vals : List ByteArray) (kids : List Int) (c d ci : Nat) (key : ByteArray) (w : World) (hk : keys.length * 16 ≤ 140737488355328) (hv : vals.length * 16 ≤ 140737488355328) (hn : kids.length * 8 ≤ 140737488355328)
    (rk : Rd w A (keys.map sv)) (rv : Rd w B (vals.map sv)) (rn : Rd w I (kids.map iv)) :
    Calls Try.prog 54 #[nodeV k A keys.length c B vals.length d I kids.length ci, .string key] w (RetRd (nodeCut ⟨k, keys, vals, kids⟩ key) w) := by
  have RK := Lib.hid rk
  have RV := Lib.hid rv
  have RN := Lib.hid rn
  clear rk rv rn
  have m0 := mem_box2 w (.cells #[.int .u8 k, .slice A keys.length c, .slice B vals.length d, .slice I kids.length ci] 52) (.cells #[.int .u8 0, .slice none 0 0, .slice none 0 0, .slice none 0 0] 52)
  have M0 := Lib.hid m0
  clear m0
  by_cases hk1 : k = 1
  case neg =>
    have HP := Lib.hid (show nodeCut ⟨k, keys, vals, kids⟩ key = nodeNo 2 by unfold nodeCut; rw [if_pos (.inl hk1)])
    have b1 : (k != 1) = true := by simpa using hk1
    clear hk1
    go_enter Try.func54, Try.ntmps54
    go_upto_region 2 with (fail)
    generalize (w.alloc (.cells #[.int .u8 k, .slice A keys.length c, .slice B vals.length d, .slice I kids.length ci] 52)).alloc (.cells #[.int .u8 0, .slice none 0 0, .slice none 0 0, .slice none 0 0] 52) = u at M0 ⊢
    generalize w.heap.size + 1 = gR at M0 ⊢
    generalize w.heap.size = g1 at M0 ⊢
    obtain ⟨z0, z1, z2, z3, zf0, zf1, zf2, zf3⟩ := Ob.all4 (M0.out.ob 0 rfl)
    go_wp2_with fail
    have m9 := M0.out.put4 0 rfl (.int .u8 0) (.slice none 0 0) (.slice none 0 0) (.slice none 0 0)
    refine bodyPost_ret (v := .tuple #[nodeV 0 none 0 0 none 0 0 none 0 0, .int .i64 2]) (results_ct rfl _ _ (m9.ob 0 rfl) rfl rfl Try.underlying52 rfl Try.sizeNode) rfl ?_
    exact RetRd.no HP.out (m9.toBlAt 2 rfl rfl rfl rfl)
  case pos =>
    subst hk1
    go_enter Try.func54, Try.ntmps54
    go_wp2_with fail
    generalize (w.alloc (.cells #[.int .u8 1, .slice A keys.length c, .slice B vals.length d, .slice I kids.length ci] 52)).alloc (.cells #[.int .u8 0, .slice none 0 0, .slice none 0 0, .slice none 0 0] 52) = u at M0 ⊢
    generalize w.heap.size + 1 = gR at M0 ⊢
    generalize w.heap.size = g1 at M0 ⊢
    have blo := M0.out.toBlAt 2 rfl rfl rfl rfl
    refine (ref_nodeWide 1 A B I keys vals kids c d ci u (by omega) (by omega) (by omega) (RK.out.bl blo) (RV.out.bl blo) (RN.out.bl blo)).mono ?_
    rintro e w1 ⟨rfl, hbl1⟩
    have M1 := Lib.hid (M0.out.bl hbl1)
    clear hbl1 M0 blo
    obtain ⟨a0, a1, a2, a3, _⟩ := Ob.all4 (M1.out.ob 1 rfl)
    obtain ⟨z0, z1, z2, z3, zf0, zf1, zf2, zf3⟩ := Ob.all4 (M1.out.ob 0 rfl)
    by_cases hbad : nodeRight 1 keys vals kids 12 13 = false
    case pos =>
      have HP := Lib.hid (show nodeCut ⟨1, keys, vals, kids⟩ key = nodeNo 2 by unfold nodeCut; rw [if_pos (.inr hbad)])
      rw [hbad]
      clear hbad
      go_wp2_with fail
      have m9 := M1.out.put4 0 rfl (.int .u8 0) (.slice none 0 0) (.slice none 0 0) (.slice none 0 0)
      refine bodyPost_ret (v := .tuple #[nodeV 0 none 0 0 none 0 0 none 0 0, .int .i64 2]) (results_ct rfl _ _ (m9.ob 0 rfl) rfl rfl Try.underlying52 rfl Try.sizeNode) rfl ?_
      exact RetRd.no HP.out (m9.toBlAt 2 rfl rfl rfl rfl)
    case neg =>
      have hr : nodeRight 1 keys vals kids 12 13 = true := by
        cases h1 : nodeRight 1 keys vals kids 12 13
        · exact absurd (h1) hbad
        · rfl
      have HS := Lib.hid (show nodeCut ⟨1, keys, vals, kids⟩ key = if findIs keys key = false then nodeNo 7 else ⟨1, keys.eraseIdx (findN keys key), vals.eraseIdx (findN keys key), [], 0⟩ by
        unfold nodeCut
        rw [if_neg (by intro h; rcases h with h | h; exact h rfl; exact hbad h)])
      have HR := Lib.hid (show keys.length ≤ 12 ∧ vals.length = keys.length ∧ kids = [] by
        have := (nodeRight_or hr).2
        rcases this with h | h
        · exact ⟨h.2.1, h.2.2.1, h.2.2.2.1⟩
        · omega)
      rw [hr]
      clear hr hbad
      go_wp2_with fail
      have blo := M1.out.toBlAt 2 rfl rfl rfl rfl
      refine (ref_nodeFind 1 A B I keys c vals.length d kids.length ci key w1 (by omega) (RK.out.bl blo)).mono ?_
      rintro e w2 ⟨rfl, hbl2⟩
      have M2 := Lib.hid (M1.out.bl hbl2)
      clear hbl2 M1 blo
      clear a0 a1 a2 a3
      clear z0 z1 z2 z3 zf0 zf1 zf2 zf3
      obtain ⟨a0, a1, a2, a3, _⟩ := Ob.all4 (M2.out.ob 1 rfl)
      obtain ⟨z0, z1, z2, z3, zf0, zf1, zf2, zf3⟩ := Ob.all4 (M2.out.ob 0 rfl)
      have HFL := Lib.hid (findN_le keys key)
      have HFI := Lib.hid (show findIs keys key = true → findN keys key < keys.length from fun h => (List.getElem?_eq_some_iff.1 (findIs_at h)).1)
      generalize findN keys key = fn at HS HFL HFI ⊢
      generalize findIs keys key = fi at HS HFI ⊢
      by_cases hlim : fi = false
      case pos =>
        subst hlim
        have HP := Lib.hid (show nodeCut ⟨1, keys, vals, kids⟩ key = nodeNo 7 by rw [HS.out, if_pos rfl])
        go_wp2_with fail
        have m9 := M2.out.put4 0 rfl (.int .u8 0) (.slice none 0 0) (.slice none 0 0) (.slice none 0 0)
        refine bodyPost_ret (v := .tuple #[nodeV 0 none 0 0 none 0 0 none 0 0, .int .i64 7]) (results_ct rfl _ _ (m9.ob 0 rfl) rfl rfl Try.underlying52 rfl Try.sizeNode) rfl ?_
        exact RetRd.no HP.out (m9.toBlAt 2 rfl rfl rfl rfl)
      case neg =>
        have HS2 := Lib.hid (HS.out.trans (if_neg hlim))
        have hfi : fi = true := by simpa using hlim
        subst hfi
        clear hlim HS
        go_upto_region 7 with (fail)
        have hL : Hid (nL A B I keys vals kids c d ci gR g1 w = [blk gR 52 #[.int .u8 0, .slice none 0 0, .slice none 0 0, .slice none 0 0], blk g1 52 #[.int .u8 1, .slice A keys.length c, .slice B vals.length d, .slice I kids.length ci], old w]) := rfl
        have M3 := Lib.hid (((M2.out.alloc (.cells #[.int .u8 1, .slice none 0 0, .slice none 0 0, .slice none 0 0] 52)).nilRow 9 1).nilRow 9 1)
        have M3 := Lib.hid (M3.out.bring 2)
        generalize w2.alloc (.cells #[.int .u8 1, .slice none 0 0, .slice none 0 0, .slice none 0 0] 52) = w3 at M3 ⊢
        generalize w2.heap.size = gO at M3 ⊢
        have M3 : Hid (Mem w (blk gO 52 #[.int .u8 1, .slice none 0 0, .slice none 0 0, .slice none 0 0] :: row 9 1 (.slice none 0 0) 0 [] :: row 9 1 (.slice none 0 0) 0 [] :: nL A B I keys vals kids c d ci gR g1 w) w3) := M3
        generalize nL A B I keys vals kids c d ci gR g1 w = L at M3 hL
        have HA : Hid (∀ w', Mem w L w' → Bl w w' ∧ Ob w' g1 52 #[.int .u8 1, .slice A keys.length c, .slice B vals.length d, .slice I kids.length ci] ∧ Ob w' gR 52 #[.int .u8 0, .slice none 0 0, .slice none 0 0, .slice none 0 0]) := fun w' h => by
          rw [hL.out] at h
          exact ⟨h.toBlAt 2 rfl rfl rfl rfl, h.ob 1 rfl, h.ob 0 rfl⟩
        clear a0 a1 a2 a3
        clear z0 z1 z2 z3 zf0 zf1 zf2 zf3
        go_wp2_with fail
        go_loopw [9] (fun i wr => ∃ (j : Nat) (K V : Value), j ≤ keys.length ∧ i = .int .i64 j ∧ Hid (Mem w (blk gO 52 #[.int .u8 1, K, V, .slice none 0 0] :: row 9 1 K ((keys.take j).eraseIdx fn).length (((keys.take j).eraseIdx fn).map sv) :: row 9 1 V ((vals.take j).eraseIdx fn).length (((vals.take j).eraseIdx fn).map sv) :: L) wr)) (fun i _ => keys.length - (intOf i).toNat)
        case atStart => exact ⟨0, _, _, by omega, rfl, M3.out⟩
        case round =>
          obtain ⟨j, K, V, hj, rfl, HM⟩ := hrel
          obtain ⟨AK, cK, rfl, hcK⟩ := (HM.out.app 1 rfl).slice
          obtain ⟨AV, cV, rfl, hcV⟩ := (HM.out.app 2 rfl).slice
          have HCC := Lib.hid (And.intro hcK hcV)
          clear hcK hcV
          obtain ⟨v, rfl⟩ : ∃ v : World, v = wr := ⟨_, rfl⟩
          obtain ⟨_, oa, oz⟩ := HA.out _ (HM.out.drop.drop.drop)
          obtain ⟨a0, a1, a2, a3, _⟩ := Ob.all4 oa
          clear oa oz
          obtain ⟨n0, n1, n2, n3, nf0, nf1, nf2, nf3⟩ := Ob.all4 (HM.out.ob 0 rfl)
          by_cases hlt : j < keys.length
          · by_cases hjf : j = fn
            · subst hjf
              have b2 : ((j : Int) != (j : Int)) = false := by simp
              have HE1 := Lib.hid (eraseIdx_at keys j hlt)
              have HE2 := Lib.hid (eraseIdx_at vals j (by have := HR.out; omega))
              go_wp2_with fail
              go_roundw
              case rel => exact ⟨j + 1, _, _, by omega, by go_num, by rw [HE1.out, HE2.out]; exact HM.out⟩
              case measure => simp [intOf]; omega
            · have b2 : ((j : Int) != (fn : Int)) = true := by simp; omega
              obtain ⟨xy, hxy⟩ := get_some keys j (by have := HR.out; omega)
              obtain ⟨xb, xo, hxe, hxc⟩ := (RK.out.bl (HA.out _ (HM.out.drop.drop.drop)).1).get hxy
              subst hxe
              simp only [sv] at hxc
              have HxY := Lib.hid hxy
              clear hxy
              obtain ⟨yy, hyy⟩ := get_some vals j (by have := HR.out; omega)
              obtain ⟨yb, yo, hye, hyc⟩ := (RV.out.bl (HA.out _ (HM.out.drop.drop.drop)).1).get hyy
              subst hye
              simp only [sv] at hyc
              have HyY := Lib.hid hyy
              clear hyy
              have i0 : (j : Int) < (keys.length : Int) := by omega
              have i1 : (j : Int) < (vals.length : Int) := by have := HR.out; omega
              have HE1 := Lib.hid (eraseIdx_step keys xy fn j hjf HxY.out)
              have HE2 := Lib.hid (eraseIdx_step vals yy fn j hjf HyY.out)
              have HB := Lib.hid (show ((keys.take j).eraseIdx fn).length ≤ 12 ∧ ((vals.take j).eraseIdx fn).length ≤ 12 by
                have h1 := List.length_eraseIdx_le (keys.take j) fn
                have h2 := List.length_eraseIdx_le (vals.take j) fn
                have := HR.out; simp only [List.length_take] at h1 h2; omega)
              go_upto_region 11 with (fail)
              go_cut [] (fun wx => Hid (∃ K', Mem w (blk gO 52 #[.int .u8 1, K', (.slice AV ((vals.take j).eraseIdx fn).length cV), .slice none 0 0] :: row 9 1 K' (((keys.take j).eraseIdx fn ++ [xy])).length ((((keys.take j).eraseIdx fn ++ [xy])).map sv) :: row 9 1 (.slice AV ((vals.take j).eraseIdx fn).length cV) ((vals.take j).eraseIdx fn).length (((vals.take j).eraseIdx fn).map sv) :: L) wx))
              case first =>
                have ma := HM.out.alloc (.cells #[.string xy] 9)
                have MA := Lib.hid ma.drew
                have n1' := (ma.ob 1 rfl).cell 1 rfl
                simp only [List.getElem_toArray, List.getElem_cons_zero, List.getElem_cons_succ] at n1'
                clear ma
                go_region_law (refine step_row rfl _ _ 49 9 (.string .empty) 1 16 (by rfl) Try.underlying49 Try.infoStr rfl (by decide) 0 (MA.out.app 2 rfl) (by rfl) (by rfl) ((put_one_rd v 9 (.string xy)).bl (Bl.refl _).drew) (by simp) (by intro u hu; simp at hu; subst hu; rfl) (by have := HB.out; omega) (by have := HB.out; omega) (Nat.zero_le _) ?_; intro v4 w4 hown4 hgr4 hat4; obtain ⟨A4, c4, rfl, hcc4⟩ := hown4.slice; have M4 := Lib.hid (MA.out.grow 2 rfl hown4 hgr4 hat4).drop; have n4 := (M4.out.ob 0 rfl).cell 1 rfl; simp only [List.getElem_toArray, List.getElem_cons_zero, List.getElem_cons_succ] at n4; have nf4 := (M4.out.ob 0 rfl).free 1)
                all_goals
                  go_wp2_with fail
                  go_meet
                  case rel =>
                    have e1 : ((keys.take j).eraseIdx fn ++ [xy]).length = ((keys.take j).eraseIdx fn).length + 1 := by simp
                    have e2 : ((keys.take j).eraseIdx fn ++ [xy]).map sv = ((keys.take j).eraseIdx fn).map sv ++ [.string xy] := by simp [sv]
                    rw [e1, e2]
                    exact ⟨.slice A4 (((keys.take j).eraseIdx fn).length + 1) c4, M4.out.put 0 rfl 1 (.slice A4 (((keys.take j).eraseIdx fn).length + 1) c4)⟩
              case rest =>
                obtain ⟨K', mk'⟩ := hcut.out
                obtain ⟨AK8, cK8, rfl, _⟩ := (mk'.app 1 rfl).slice
                have HM8 := Lib.hid mk'
                clear mk'
                clear a0 a1 a2 a3 n0 n1 n2 n3 nf0 nf1 nf2 nf3 hxc hyc
                obtain ⟨_, oa, oz⟩ := HA.out _ (HM8.out.drop.drop.drop)
                obtain ⟨a0, a1, a2, a3, _⟩ := Ob.all4 oa
                clear oa oz
                obtain ⟨n0, n1, n2, n3, nf0, nf1, nf2, nf3⟩ := Ob.all4 (HM8.out.ob 0 rfl)
                have hyc : wc.cell? ⟨yb, yo + j, none⟩ = some (.string yy) := by
                  obtain ⟨_, _, e, hc⟩ := (RV.out.bl (HA.out _ (HM8.out.drop.drop.drop)).1).get HyY.out
                  cases e; exact hc
                go_upto_region 12 with (fail)
                have ma := HM8.out.alloc (.cells #[.string yy] 9)
                have MA := Lib.hid ma.drew
                have n1' := (ma.ob 1 rfl).cell 2 rfl
                simp only [List.getElem_toArray, List.getElem_cons_zero, List.getElem_cons_succ] at n1'
                clear ma
                go_region_law (refine step_row rfl _ _ 49 9 (.string .empty) 1 16 (by rfl) Try.underlying49 Try.infoStr rfl (by decide) 0 (MA.out.app 3 rfl) (by rfl) (by rfl) ((put_one_rd wc 9 (.string yy)).bl (Bl.refl _).drew) (by simp) (by intro u hu; simp at hu; subst hu; rfl) (by have := HB.out; omega) (by have := HB.out; omega) (Nat.zero_le _) ?_; intro v4 w4 hown4 hgr4 hat4; obtain ⟨A4, c4, rfl, hcc4⟩ := hown4.slice; have M4 := Lib.hid (MA.out.grow 3 rfl hown4 hgr4 hat4).drop; have n4 := (M4.out.ob 0 rfl).cell 2 rfl; simp only [List.getElem_toArray, List.getElem_cons_zero, List.getElem_cons_succ] at n4; have nf4 := (M4.out.ob 0 rfl).free 2)
                all_goals
                  go_wp2_with fail
                  go_roundw
                  case rel =>
                    have e1 : ((vals.take j).eraseIdx fn ++ [yy]).length = ((vals.take j).eraseIdx fn).length + 1 := by simp
                    have e2 : ((vals.take j).eraseIdx fn ++ [yy]).map sv = ((vals.take j).eraseIdx fn).map sv ++ [.string yy] := by simp [sv]
                    refine ⟨j + 1, (.slice AK8 ((keys.take j).eraseIdx fn ++ [xy]).length cK8), .slice A4 (((vals.take j).eraseIdx fn).length + 1) c4, by omega, by go_num, ?_⟩
                    rw [HE1.out, HE2.out, e1, e2]
                    exact M4.out.put 0 rfl 2 (.slice A4 (((vals.take j).eraseIdx fn).length + 1) c4)
                  case measure => simp [intOf]; omega
          · obtain rfl : j = keys.length := by omega
            obtain ⟨_, _, oz⟩ := HA.out _ (HM.out.drop.drop.drop)
            obtain ⟨z0, z1, z2, z3, zf0, zf1, zf2, zf3⟩ := Ob.all4 oz
            clear oz
            have he1 : (keys.take keys.length).eraseIdx fn = keys.eraseIdx fn := by rw [List.take_length]
            have he2 : (vals.take keys.length).eraseIdx fn = vals.eraseIdx fn := by rw [take_over vals keys.length (by have := HR.out; omega)]
            rw [he1, he2] at HM HCC
            clear he1 he2
            clear n0 n1 n2 n3 nf0 nf1 nf2 nf3
            obtain ⟨n0, n1, n2, n3, nf0, nf1, nf2, nf3⟩ := Ob.all4 (HM.out.ob 0 rfl)
            go_wp2_with fail
            have m9 := HM.out
            rw [hL.out] at m9
            have m9 := m9.put4 3 rfl (.int .u8 1) (.slice AK (keys.eraseIdx fn).length cK) (.slice AV (vals.eraseIdx fn).length cV) (.slice none 0 0)
            refine bodyPost_ret (v := .tuple #[nodeV 1 AK (keys.eraseIdx fn).length cK AV (vals.eraseIdx fn).length cV none 0 0, .int .i64 0]) (results_ct rfl _ _ (m9.ob 3 rfl) rfl rfl Try.underlying52 rfl Try.sizeNode) rfl ?_
            unfold RetRd
            rw [HS2.out]
            have h1 := (m9.app 1 rfl).rd.1
            have h2 := (m9.app 2 rfl).rd.1
            have b9 := m9.toBlAt 5 rfl rfl rfl rfl
            have hcc := HCC.out
            exact ⟨AK, cK, AV, cV, none, 0, rfl, h1, h2, Rd.nil _ _, b9, hcc.1, hcc.2, Nat.le_refl _⟩
end Go.Proofs.Ytedmamchfgkkfaa
/- The reference of layer 18 (node) walked: Set (printed by gen_refset18.py). -/
set_option linter.unusedVariables false
set_option linter.unusedSimpArgs false
namespace Go.Proofs.Ytedmamchfgkkfaa
open Go.RowKit
set_option maxRecDepth 100000
set_option maxHeartbeats 8000000

theorem ref_nodeSet (k : Int) (A B I : Option Addr) (keys vals : List ByteArray) (kids : List Int) (c d ci : Nat) (key value : ByteArray) (w : World) (hk : keys.length * 16 ≤ 140737488355328) (hv : vals.length * 16 ≤ 140737488355328) (hn : kids.length * 8 ≤ 140737488355328)
    (rk : Rd w A (keys.map sv)) (rv : Rd w B (vals.map sv)) (rn : Rd w I (kids.map iv)) :
    Calls Try.prog 52 #[nodeV k A keys.length c B vals.length d I kids.length ci, .string key, .string value] w (RetRd (nodeSet ⟨k, keys, vals, kids⟩ key value) w) := by
  have RK := Lib.hid rk
  have RV := Lib.hid rv
  have RN := Lib.hid rn
  clear rk rv rn
  have m0 := mem_box2 w (.cells #[.int .u8 k, .slice A keys.length c, .slice B vals.length d, .slice I kids.length ci] 52) (.cells #[.int .u8 0, .slice none 0 0, .slice none 0 0, .slice none 0 0] 52)
  have M0 := Lib.hid m0
  clear m0
  by_cases hk1 : k = 1
  case neg =>
    have HP := Lib.hid (show nodeSet ⟨k, keys, vals, kids⟩ key value = nodeNo 2 by unfold nodeSet; rw [if_pos (.inl hk1)])
    have b1 : (k != 1) = true := by simpa using hk1
    clear hk1
    go_enter Try.func52, Try.ntmps52
    go_upto_region 2 with (fail)
    generalize (w.alloc (.cells #[.int .u8 k, .slice A keys.length c, .slice B vals.length d, .slice I kids.length ci] 52)).alloc (.cells #[.int .u8 0, .slice none 0 0, .slice none 0 0, .slice none 0 0] 52) = u at M0 ⊢
    generalize w.heap.size + 1 = gR at M0 ⊢
    generalize w.heap.size = g1 at M0 ⊢
    obtain ⟨z0, z1, z2, z3, zf0, zf1, zf2, zf3⟩ := Ob.all4 (M0.out.ob 0 rfl)
    go_wp2_with fail
    have m9 := M0.out.put4 0 rfl (.int .u8 0) (.slice none 0 0) (.slice none 0 0) (.slice none 0 0)
    refine bodyPost_ret (v := .tuple #[nodeV 0 none 0 0 none 0 0 none 0 0, .int .i64 2]) (results_ct rfl _ _ (m9.ob 0 rfl) rfl rfl Try.underlying52 rfl Try.sizeNode) rfl ?_
    exact RetRd.no HP.out (m9.toBlAt 2 rfl rfl rfl rfl)
  case pos =>
    subst hk1
    go_enter Try.func52, Try.ntmps52
    go_wp2_with fail
    generalize (w.alloc (.cells #[.int .u8 1, .slice A keys.length c, .slice B vals.length d, .slice I kids.length ci] 52)).alloc (.cells #[.int .u8 0, .slice none 0 0, .slice none 0 0, .slice none 0 0] 52) = u at M0 ⊢
    generalize w.heap.size + 1 = gR at M0 ⊢
    generalize w.heap.size = g1 at M0 ⊢
    have blo := M0.out.toBlAt 2 rfl rfl rfl rfl
    refine (ref_nodeWide 1 A B I keys vals kids c d ci u (by omega) (by omega) (by omega) (RK.out.bl blo) (RV.out.bl blo) (RN.out.bl blo)).mono ?_
    rintro e w1 ⟨rfl, hbl1⟩
    have M1 := Lib.hid (M0.out.bl hbl1)
    clear hbl1 M0 blo
    obtain ⟨a0, a1, a2, a3, _⟩ := Ob.all4 (M1.out.ob 1 rfl)
    obtain ⟨z0, z1, z2, z3, zf0, zf1, zf2, zf3⟩ := Ob.all4 (M1.out.ob 0 rfl)
    by_cases hbad : nodeRight 1 keys vals kids 12 13 = false ∨ key.size < 1 ∨ 40 < key.size ∨ 40 < value.size
    case pos =>
      have HP := Lib.hid (show nodeSet ⟨1, keys, vals, kids⟩ key value = nodeNo 2 by unfold nodeSet; rw [if_pos (.inr hbad)])
      rcases (show nodeRight 1 keys vals kids 12 13 = false ∨ (nodeRight 1 keys vals kids 12 13 = true ∧ key.size < 1) ∨ (nodeRight 1 keys vals kids 12 13 = true ∧ 1 ≤ key.size ∧ 40 < key.size) ∨ (nodeRight 1 keys vals kids 12 13 = true ∧ 1 ≤ key.size ∧ key.size ≤ 40 ∧ 40 < value.size) by
        cases h1 : nodeRight 1 keys vals kids 12 13
        · exact .inl rfl
        · right
          rw [h1] at hbad
          simp only [Bool.true_eq_false, false_or] at hbad
          by_cases h2 : key.size < 1
          · exact .inl ⟨rfl, h2⟩
          · right
            by_cases h3 : 40 < key.size
            · exact .inl ⟨rfl, by omega, h3⟩
            · exact .inr ⟨rfl, by omega, by omega, by omega⟩) with h1 | ⟨h1, h2⟩ | ⟨h1, h2, h3⟩ | ⟨h1, h2, h3, h4⟩
      all_goals
        clear hbad
        rw [h1]
        go_wp2_with fail
        have m9 := M1.out.put4 0 rfl (.int .u8 0) (.slice none 0 0) (.slice none 0 0) (.slice none 0 0)
        refine bodyPost_ret (v := .tuple #[nodeV 0 none 0 0 none 0 0 none 0 0, .int .i64 2]) (results_ct rfl _ _ (m9.ob 0 rfl) rfl rfl Try.underlying52 rfl Try.sizeNode) rfl ?_
        exact RetRd.no HP.out (m9.toBlAt 2 rfl rfl rfl rfl)
    case neg =>
      have hr : nodeRight 1 keys vals kids 12 13 = true := by
        cases h1 : nodeRight 1 keys vals kids 12 13
        · exact absurd (.inl h1) hbad
        · rfl
      have s1 : 1 ≤ key.size := by omega
      have s2 : key.size ≤ 40 := by omega
      have s3 : value.size ≤ 40 := by omega
      have HS := Lib.hid (show nodeSet ⟨1, keys, vals, kids⟩ key value = if findIs keys key = false ∧ 12 ≤ keys.length then nodeNo 3 else ⟨1, putAt keys key (findN keys key) (findIs keys key), putAt vals value (findN keys key) (findIs keys key), [], 0⟩ by
        unfold nodeSet
        rw [if_neg (by intro h; rcases h with h | h; exact h rfl; exact hbad h)])
      have HR := Lib.hid (show keys.length ≤ 12 ∧ vals.length = keys.length ∧ kids = [] by
        have := (nodeRight_or hr).2
        rcases this with h | h
        · exact ⟨h.2.1, h.2.2.1, h.2.2.2.1⟩
        · omega)
      rw [hr]
      clear hr hbad
      go_wp2_with fail
      have blo := M1.out.toBlAt 2 rfl rfl rfl rfl
      refine (ref_nodeFind 1 A B I keys c vals.length d kids.length ci key w1 (by omega) (RK.out.bl blo)).mono ?_
      rintro e w2 ⟨rfl, hbl2⟩
      have M2 := Lib.hid (M1.out.bl hbl2)
      clear hbl2 M1 blo
      clear a0 a1 a2 a3
      clear z0 z1 z2 z3 zf0 zf1 zf2 zf3
      obtain ⟨a0, a1, a2, a3, _⟩ := Ob.all4 (M2.out.ob 1 rfl)
      obtain ⟨z0, z1, z2, z3, zf0, zf1, zf2, zf3⟩ := Ob.all4 (M2.out.ob 0 rfl)
      have HFL := Lib.hid (findN_le keys key)
      have HFI := Lib.hid (show findIs keys key = true → findN keys key < keys.length from fun h => (List.getElem?_eq_some_iff.1 (findIs_at h)).1)
      generalize findN keys key = fn at HS HFL HFI ⊢
      generalize findIs keys key = fi at HS HFI ⊢
      by_cases hlim : fi = false ∧ 12 ≤ keys.length
      case pos =>
        obtain ⟨rfl, hlen⟩ := hlim
        have HP := Lib.hid (show nodeSet ⟨1, keys, vals, kids⟩ key value = nodeNo 3 by rw [HS.out, if_pos ⟨rfl, hlen⟩])
        go_wp2_with fail
        have m9 := M2.out.put4 0 rfl (.int .u8 0) (.slice none 0 0) (.slice none 0 0) (.slice none 0 0)
        refine bodyPost_ret (v := .tuple #[nodeV 0 none 0 0 none 0 0 none 0 0, .int .i64 3]) (results_ct rfl _ _ (m9.ob 0 rfl) rfl rfl Try.underlying52 rfl Try.sizeNode) rfl ?_
        exact RetRd.no HP.out (m9.toBlAt 2 rfl rfl rfl rfl)
      case neg =>
        have HS2 := Lib.hid (HS.out.trans (if_neg hlim))
        have hfl : fi = true ∨ (fi = false ∧ (keys.length : Int) < 12) := by
          cases fi
          · right; exact ⟨rfl, by have : ¬ 12 ≤ keys.length := fun h => hlim ⟨rfl, h⟩; omega⟩
          · left; rfl
        clear hlim HS
        rcases hfl with rfl | ⟨rfl, hl12⟩
        case inl =>
          have HFN := Lib.hid (HFI.out rfl)
          clear HFI
          go_upto_region 7 with (fail)
          have hL : Hid (nL A B I keys vals kids c d ci gR g1 w = [blk gR 52 #[.int .u8 0, .slice none 0 0, .slice none 0 0, .slice none 0 0], blk g1 52 #[.int .u8 1, .slice A keys.length c, .slice B vals.length d, .slice I kids.length ci], old w]) := rfl
          have M3 := Lib.hid (((M2.out.alloc (.cells #[.int .u8 1, .slice none 0 0, .slice none 0 0, .slice none 0 0] 52)).nilRow 9 1).nilRow 9 1)
          have M3 := Lib.hid (M3.out.bring 2)
          generalize w2.alloc (.cells #[.int .u8 1, .slice none 0 0, .slice none 0 0, .slice none 0 0] 52) = w3 at M3 ⊢
          generalize w2.heap.size = gO at M3 ⊢
          have M3 : Hid (Mem w (blk gO 52 #[.int .u8 1, .slice none 0 0, .slice none 0 0, .slice none 0 0] :: row 9 1 (.slice none 0 0) 0 [] :: row 9 1 (.slice none 0 0) 0 [] :: nL A B I keys vals kids c d ci gR g1 w) w3) := M3
          generalize nL A B I keys vals kids c d ci gR g1 w = L at M3 hL
          have HA : Hid (∀ w', Mem w L w' → Bl w w' ∧ Ob w' g1 52 #[.int .u8 1, .slice A keys.length c, .slice B vals.length d, .slice I kids.length ci] ∧ Ob w' gR 52 #[.int .u8 0, .slice none 0 0, .slice none 0 0, .slice none 0 0]) := fun w' h => by
            rw [hL.out] at h
            exact ⟨h.toBlAt 2 rfl rfl rfl rfl, h.ob 1 rfl, h.ob 0 rfl⟩
          clear a0 a1 a2 a3
          clear z0 z1 z2 z3 zf0 zf1 zf2 zf3
          go_wp2_with fail
          go_loopw [11] (fun i wr => ∃ (j : Nat) (K V : Value), j ≤ keys.length + 1 ∧ i = .int .i64 j ∧ Hid (Mem w (blk gO 52 #[.int .u8 1, K, V, .slice none 0 0] :: row 9 1 K (setUpto keys key fn true j).length ((setUpto keys key fn true j).map sv) :: row 9 1 V (setUpto vals value fn true j).length ((setUpto vals value fn true j).map sv) :: L) wr)) (fun i _ => keys.length + 1 - (intOf i).toNat)
          case atStart => exact ⟨0, _, _, by omega, rfl, by rw [setUpto_zero, setUpto_zero]; exact M3.out⟩
          case round =>
            obtain ⟨j, K, V, hj, rfl, HM⟩ := hrel
            obtain ⟨AK, cK, rfl, hcK⟩ := (HM.out.app 1 rfl).slice
            obtain ⟨AV, cV, rfl, hcV⟩ := (HM.out.app 2 rfl).slice
            have HCC := Lib.hid (And.intro hcK hcV)
            clear hcK hcV
            obtain ⟨v, rfl⟩ : ∃ v : World, v = wr := ⟨_, rfl⟩
            obtain ⟨_, oa, oz⟩ := HA.out _ (HM.out.drop.drop.drop)
            obtain ⟨a0, a1, a2, a3, _⟩ := Ob.all4 oa
            clear oa oz
            obtain ⟨n0, n1, n2, n3, nf0, nf1, nf2, nf3⟩ := Ob.all4 (HM.out.ob 0 rfl)
            have HSZ := Lib.hid (show keys.length ≤ 12 ∧ fn ≤ keys.length ∧ vals.length = keys.length by have := HR.out; have := HFL.out; omega)
            have hk12 : keys.length ≤ 12 := HSZ.out.1
            have hfk : fn ≤ keys.length := HSZ.out.2.1
            have hv12 : vals.length ≤ 12 := by have := HSZ.out; omega
            have hfn : fn < keys.length := HFN.out
            have HB := Lib.hid (show (setUpto keys key fn true j).length ≤ 30 ∧ (setUpto vals value fn true j).length ≤ 30 by
              have h1 := setUpto_len keys key fn true j
              have h2 := setUpto_len vals value fn true j
              omega)
            by_cases hlt : j ≤ keys.length
            · by_cases hjf : j = fn
              · subst hjf
                have b2 : ((j : Int) == (j : Int)) = true := by simp
                have b3 : ((j : Int) != (j : Int)) = false := by simp
                have i0 : (j : Int) < (keys.length : Int) := by omega
                go_upto_if 63 with (fail)
                go_cut [] (fun wx => Hid (∃ K V, Mem w (blk gO 52 #[.int .u8 1, K, V, .slice none 0 0] :: row 9 1 K (setUpto keys key j true j ++ [key]).length ((setUpto keys key j true j ++ [key]).map sv) :: row 9 1 V (setUpto vals value j true j ++ [value]).length ((setUpto vals value j true j ++ [value]).map sv) :: L) wx))
                case first =>
                  go_upto_region 11 with (fail)
                  go_cut [] (fun wx => Hid (∃ K', Mem w (blk gO 52 #[.int .u8 1, K', (.slice AV (setUpto vals value j true j).length cV), .slice none 0 0] :: row 9 1 K' ((setUpto keys key j true j ++ [key])).length (((setUpto keys key j true j ++ [key])).map sv) :: row 9 1 (.slice AV (setUpto vals value j true j).length cV) (setUpto vals value j true j).length ((setUpto vals value j true j).map sv) :: L) wx))
                  case first =>
                    have ma := HM.out.alloc (.cells #[.string key] 9)
                    have MA := Lib.hid ma
                    have n1' := (ma.ob 1 rfl).cell 1 rfl
                    simp only [List.getElem_toArray, List.getElem_cons_zero, List.getElem_cons_succ] at n1'
                    clear ma
                    go_wp2_with (at_builtin; go_must (refine append_row rfl _ _ 49 9 (.string .empty) 1 16 rfl Try.underlying49 Try.infoStr rfl (by decide) 0 (MA.out.app 2 rfl) (by rfl) (by rfl) (put_one_rd v 9 (.string key)) (by simp) (by intro u hu; simp at hu; subst hu; rfl) (by have := HB.out; omega) (by have := HB.out; omega) (Nat.zero_le _) ?_); intro v4 w4 hown4 hgr4 hat4; obtain ⟨A4, c4, rfl, hcc4⟩ := hown4.slice; have M4 := Lib.hid (MA.out.grow 2 rfl hown4 hgr4 hat4).drop; have n4 := (M4.out.ob 0 rfl).cell 1 rfl; simp only [List.getElem_toArray, List.getElem_cons_zero, List.getElem_cons_succ] at n4; have nf4 := (M4.out.ob 0 rfl).free 1)
                    go_meet
                    case rel =>
                      have e1 : (setUpto keys key j true j ++ [key]).length = (setUpto keys key j true j).length + 1 := by simp
                      have e2 : (setUpto keys key j true j ++ [key]).map sv = (setUpto keys key j true j).map sv ++ [.string key] := by simp [sv]
                      rw [e1, e2]
                      exact ⟨.slice A4 ((setUpto keys key j true j).length + 1) c4, M4.out.put 0 rfl 1 (.slice A4 ((setUpto keys key j true j).length + 1) c4)⟩
                  case rest =>
                    obtain ⟨K', mk'⟩ := hcut.out
                    obtain ⟨AK6, cK6, rfl, _⟩ := (mk'.app 1 rfl).slice
                    have HM6 := Lib.hid mk'
                    clear mk'
                    clear a0 a1 a2 a3 n0 n1 n2 n3 nf0 nf1 nf2 nf3
                    obtain ⟨_, oa, oz⟩ := HA.out _ (HM6.out.drop.drop.drop)
                    obtain ⟨a0, a1, a2, a3, _⟩ := Ob.all4 oa
                    clear oa oz
                    obtain ⟨n0, n1, n2, n3, nf0, nf1, nf2, nf3⟩ := Ob.all4 (HM6.out.ob 0 rfl)
                    go_upto_region 12 with (fail)
                    have ma := HM6.out.alloc (.cells #[.string value] 9)
                    have MA := Lib.hid ma
                    have n1' := (ma.ob 1 rfl).cell 2 rfl
                    simp only [List.getElem_toArray, List.getElem_cons_zero, List.getElem_cons_succ] at n1'
                    clear ma
                    go_wp2_with (at_builtin; go_must (refine append_row rfl _ _ 49 9 (.string .empty) 1 16 rfl Try.underlying49 Try.infoStr rfl (by decide) 0 (MA.out.app 3 rfl) (by rfl) (by rfl) (put_one_rd wc 9 (.string value)) (by simp) (by intro u hu; simp at hu; subst hu; rfl) (by have := HB.out; omega) (by have := HB.out; omega) (Nat.zero_le _) ?_); intro v4 w4 hown4 hgr4 hat4; obtain ⟨A4, c4, rfl, hcc4⟩ := hown4.slice; have M4 := Lib.hid (MA.out.grow 3 rfl hown4 hgr4 hat4).drop; have n4 := (M4.out.ob 0 rfl).cell 2 rfl; simp only [List.getElem_toArray, List.getElem_cons_zero, List.getElem_cons_succ] at n4; have nf4 := (M4.out.ob 0 rfl).free 2)
                    go_meet
                    case rel =>
                      have e1 : (setUpto vals value j true j ++ [value]).length = (setUpto vals value j true j).length + 1 := by simp
                      have e2 : (setUpto vals value j true j ++ [value]).map sv = (setUpto vals value j true j).map sv ++ [.string value] := by simp [sv]
                      refine ⟨(.slice AK6 (setUpto keys key j true j ++ [key]).length cK6), .slice A4 ((setUpto vals value j true j).length + 1) c4, ?_⟩
                      rw [e1, e2]
                      exact M4.out.put 0 rfl 2 (.slice A4 ((setUpto vals value j true j).length + 1) c4)
                case rest =>
                  obtain ⟨K7, V7, hm7⟩ := hcut.out
                  obtain ⟨k7, hk7⟩ : ∃ k7, k7 = setUpto keys key j true j ++ [key] := ⟨_, rfl⟩
                  obtain ⟨v7, hv7⟩ : ∃ v7, v7 = setUpto vals value j true j ++ [value] := ⟨_, rfl⟩
                  rw [← hk7, ← hv7] at hm7
                  have HKV := Lib.hid (And.intro hk7 hv7)
                  clear hk7 hv7
                  obtain ⟨AK7, cK7, rfl, _⟩ := (hm7.app 1 rfl).slice
                  obtain ⟨AV7, cV7, rfl, _⟩ := (hm7.app 2 rfl).slice
                  have HM7 := Lib.hid hm7
                  clear hm7
                  clear a0 a1 a2 a3 n0 n1 n2 n3 nf0 nf1 nf2 nf3
                  obtain ⟨_, oa, oz⟩ := HA.out _ (HM7.out.drop.drop.drop)
                  obtain ⟨a0, a1, a2, a3, _⟩ := Ob.all4 oa
                  clear oa oz
                  obtain ⟨n0, n1, n2, n3, nf0, nf1, nf2, nf3⟩ := Ob.all4 (HM7.out.ob 0 rfl)
                  have HE1 := Lib.hid ((setUpto_at_is keys key j hfn).trans HKV.out.1.symm)
                  have HE2 := Lib.hid ((setUpto_at_is vals value j (by have := HSZ.out; omega)).trans HKV.out.2.symm)
                  go_wp2_with fail
                  go_roundw
                  case rel => exact ⟨j + 1, _, _, by omega, by go_num, by rw [HE1.out, HE2.out]; exact HM7.out⟩
                  case measure => simp [intOf]; omega
              · have b2 : ((j : Int) == (fn : Int)) = false := by simp; omega
                have b3 : ((j : Int) != (fn : Int)) = true := by simp; omega
                by_cases hjn : j < keys.length
                · have i0 : (j : Int) < (keys.length : Int) := by omega
                  have i1 : (j : Int) < (vals.length : Int) := by have := HSZ.out; omega
                  obtain ⟨xy, hxy⟩ := get_some keys j (by have := HR.out; omega)
                  obtain ⟨xb, xo, hxe, hxc⟩ := (RK.out.bl (HA.out _ (HM.out.drop.drop.drop)).1).get hxy
                  subst hxe
                  simp only [sv] at hxc
                  have HxY := Lib.hid hxy
                  clear hxy
                  obtain ⟨yy, hyy⟩ := get_some vals j (by have := HR.out; omega)
                  obtain ⟨yb, yo, hye, hyc⟩ := (RV.out.bl (HA.out _ (HM.out.drop.drop.drop)).1).get hyy
                  subst hye
                  simp only [sv] at hyc
                  have HyY := Lib.hid hyy
                  clear hyy
                  have HE1 := Lib.hid (show setUpto keys key fn true (j + 1) = setUpto keys key fn true j ++ [xy] by
                    rcases Nat.lt_or_gt_of_ne hjf with h | h
                    · exact setUpto_lo keys key xy fn true j h HxY.out
                    · exact setUpto_hi keys key xy fn true j h HxY.out)
                  have HE2 := Lib.hid (show setUpto vals value fn true (j + 1) = setUpto vals value fn true j ++ [yy] by
                    rcases Nat.lt_or_gt_of_ne hjf with h | h
                    · exact setUpto_lo vals value yy fn true j h HyY.out
                    · exact setUpto_hi vals value yy fn true j h HyY.out)
                  go_upto_region 14 with (fail)
                  go_cut [] (fun wx => Hid (∃ K', Mem w (blk gO 52 #[.int .u8 1, K', (.slice AV (setUpto vals value fn true j).length cV), .slice none 0 0] :: row 9 1 K' ((setUpto keys key fn true j ++ [xy])).length (((setUpto keys key fn true j ++ [xy])).map sv) :: row 9 1 (.slice AV (setUpto vals value fn true j).length cV) (setUpto vals value fn true j).length ((setUpto vals value fn true j).map sv) :: L) wx))
                  case first =>
                    have ma := HM.out.alloc (.cells #[.string xy] 9)
                    have MA := Lib.hid ma.drew
                    have n1' := (ma.ob 1 rfl).cell 1 rfl
                    simp only [List.getElem_toArray, List.getElem_cons_zero, List.getElem_cons_succ] at n1'
                    clear ma
                    go_region_law (refine step_row rfl _ _ 49 9 (.string .empty) 1 16 (by rfl) Try.underlying49 Try.infoStr rfl (by decide) 0 (MA.out.app 2 rfl) (by rfl) (by rfl) ((put_one_rd v 9 (.string xy)).bl (Bl.refl _).drew) (by simp) (by intro u hu; simp at hu; subst hu; rfl) (by have := HB.out; omega) (by have := HB.out; omega) (Nat.zero_le _) ?_; intro v4 w4 hown4 hgr4 hat4; obtain ⟨A4, c4, rfl, hcc4⟩ := hown4.slice; have M4 := Lib.hid (MA.out.grow 2 rfl hown4 hgr4 hat4).drop; have n4 := (M4.out.ob 0 rfl).cell 1 rfl; simp only [List.getElem_toArray, List.getElem_cons_zero, List.getElem_cons_succ] at n4; have nf4 := (M4.out.ob 0 rfl).free 1)
                    all_goals
                      go_wp2_with fail
                      go_meet
                      case rel =>
                        have e1 : (setUpto keys key fn true j ++ [xy]).length = (setUpto keys key fn true j).length + 1 := by simp
                        have e2 : (setUpto keys key fn true j ++ [xy]).map sv = (setUpto keys key fn true j).map sv ++ [.string xy] := by simp [sv]
                        rw [e1, e2]
                        exact ⟨.slice A4 ((setUpto keys key fn true j).length + 1) c4, M4.out.put 0 rfl 1 (.slice A4 ((setUpto keys key fn true j).length + 1) c4)⟩
                  case rest =>
                    obtain ⟨K', mk'⟩ := hcut.out
                    obtain ⟨AK8, cK8, rfl, _⟩ := (mk'.app 1 rfl).slice
                    have HM8 := Lib.hid mk'
                    clear mk'
                    clear a0 a1 a2 a3 n0 n1 n2 n3 nf0 nf1 nf2 nf3 hxc hyc
                    obtain ⟨_, oa, oz⟩ := HA.out _ (HM8.out.drop.drop.drop)
                    obtain ⟨a0, a1, a2, a3, _⟩ := Ob.all4 oa
                    clear oa oz
                    obtain ⟨n0, n1, n2, n3, nf0, nf1, nf2, nf3⟩ := Ob.all4 (HM8.out.ob 0 rfl)
                    have hyc : wc.cell? ⟨yb, yo + j, none⟩ = some (.string yy) := by
                      obtain ⟨_, _, e, hc⟩ := (RV.out.bl (HA.out _ (HM8.out.drop.drop.drop)).1).get HyY.out
                      cases e; exact hc
                    go_upto_region 15 with (fail)
                    have ma := HM8.out.alloc (.cells #[.string yy] 9)
                    have MA := Lib.hid ma.drew
                    have n1' := (ma.ob 1 rfl).cell 2 rfl
                    simp only [List.getElem_toArray, List.getElem_cons_zero, List.getElem_cons_succ] at n1'
                    clear ma
                    go_region_law (refine step_row rfl _ _ 49 9 (.string .empty) 1 16 (by rfl) Try.underlying49 Try.infoStr rfl (by decide) 0 (MA.out.app 3 rfl) (by rfl) (by rfl) ((put_one_rd wc 9 (.string yy)).bl (Bl.refl _).drew) (by simp) (by intro u hu; simp at hu; subst hu; rfl) (by have := HB.out; omega) (by have := HB.out; omega) (Nat.zero_le _) ?_; intro v4 w4 hown4 hgr4 hat4; obtain ⟨A4, c4, rfl, hcc4⟩ := hown4.slice; have M4 := Lib.hid (MA.out.grow 3 rfl hown4 hgr4 hat4).drop; have n4 := (M4.out.ob 0 rfl).cell 2 rfl; simp only [List.getElem_toArray, List.getElem_cons_zero, List.getElem_cons_succ] at n4; have nf4 := (M4.out.ob 0 rfl).free 2)
                    all_goals
                      go_wp2_with fail
                      go_roundw
                      case rel =>
                        have e1 : (setUpto vals value fn true j ++ [yy]).length = (setUpto vals value fn true j).length + 1 := by simp
                        have e2 : (setUpto vals value fn true j ++ [yy]).map sv = (setUpto vals value fn true j).map sv ++ [.string yy] := by simp [sv]
                        refine ⟨j + 1, (.slice AK8 (setUpto keys key fn true j ++ [xy]).length cK8), .slice A4 ((setUpto vals value fn true j).length + 1) c4, by omega, by go_num, ?_⟩
                        rw [HE1.out, HE2.out, e1, e2]
                        exact M4.out.put 0 rfl 2 (.slice A4 ((setUpto vals value fn true j).length + 1) c4)
                      case measure => simp [intOf]; omega
                · have i0 : (keys.length : Int) ≤ (j : Int) := by omega
                  obtain rfl : j = keys.length := by omega
                  have HE1 := Lib.hid (setUpto_over keys key fn true (by omega))
                  have HE2 := Lib.hid (show setUpto vals value fn true (keys.length + 1) = setUpto vals value fn true keys.length by
                    have := setUpto_over vals value fn true (by have := HSZ.out; omega)
                    rw [HSZ.out.2.2] at this; exact this)
                  go_wp2_with fail
                  go_roundw
                  case rel => exact ⟨keys.length + 1, _, _, by omega, by go_num, by rw [HE1.out, HE2.out]; exact HM.out⟩
                  case measure => simp [intOf] <;> omega
            · obtain rfl : j = keys.length + 1 := by omega
              obtain ⟨_, _, oz⟩ := HA.out _ (HM.out.drop.drop.drop)
              obtain ⟨z0, z1, z2, z3, zf0, zf1, zf2, zf3⟩ := Ob.all4 oz
              clear oz
              have he1 : setUpto keys key fn true (keys.length + 1) = putAt keys key fn true := setUpto_end _ _ _ _ HSZ.out.2.1
              have he2 : setUpto vals value fn true (keys.length + 1) = putAt vals value fn true := by have := setUpto_end vals value fn true (by have := HSZ.out; omega); rw [HSZ.out.2.2] at this; exact this
              rw [he1, he2] at HM HCC
              clear he1 he2
              clear n0 n1 n2 n3 nf0 nf1 nf2 nf3
              obtain ⟨n0, n1, n2, n3, nf0, nf1, nf2, nf3⟩ := Ob.all4 (HM.out.ob 0 rfl)
              go_wp2_with fail
              have m9 := HM.out
              rw [hL.out] at m9
              have m9 := m9.put4 3 rfl (.int .u8 1) (.slice AK (putAt keys key fn true).length cK) (.slice AV (putAt vals value fn true).length cV) (.slice none 0 0)
              refine bodyPost_ret (v := .tuple #[nodeV 1 AK (putAt keys key fn true).length cK AV (putAt vals value fn true).length cV none 0 0, .int .i64 0]) (results_ct rfl _ _ (m9.ob 3 rfl) rfl rfl Try.underlying52 rfl Try.sizeNode) rfl ?_
              unfold RetRd
              rw [HS2.out]
              have h1 := (m9.app 1 rfl).rd.1
              have h2 := (m9.app 2 rfl).rd.1
              have b9 := m9.toBlAt 5 rfl rfl rfl rfl
              have hcc := HCC.out
              exact ⟨AK, cK, AV, cV, none, 0, rfl, h1, h2, Rd.nil _ _, b9, hcc.1, hcc.2, Nat.le_refl _⟩
        case inr =>
          clear HFI
          go_upto_region 7 with (fail)
          have hL : Hid (nL A B I keys vals kids c d ci gR g1 w = [blk gR 52 #[.int .u8 0, .slice none 0 0, .slice none 0 0, .slice none 0 0], blk g1 52 #[.int .u8 1, .slice A keys.length c, .slice B vals.length d, .slice I kids.length ci], old w]) := rfl
          have M3 := Lib.hid (((M2.out.alloc (.cells #[.int .u8 1, .slice none 0 0, .slice none 0 0, .slice none 0 0] 52)).nilRow 9 1).nilRow 9 1)
          have M3 := Lib.hid (M3.out.bring 2)
          generalize w2.alloc (.cells #[.int .u8 1, .slice none 0 0, .slice none 0 0, .slice none 0 0] 52) = w3 at M3 ⊢
          generalize w2.heap.size = gO at M3 ⊢
          have M3 : Hid (Mem w (blk gO 52 #[.int .u8 1, .slice none 0 0, .slice none 0 0, .slice none 0 0] :: row 9 1 (.slice none 0 0) 0 [] :: row 9 1 (.slice none 0 0) 0 [] :: nL A B I keys vals kids c d ci gR g1 w) w3) := M3
          generalize nL A B I keys vals kids c d ci gR g1 w = L at M3 hL
          have HA : Hid (∀ w', Mem w L w' → Bl w w' ∧ Ob w' g1 52 #[.int .u8 1, .slice A keys.length c, .slice B vals.length d, .slice I kids.length ci] ∧ Ob w' gR 52 #[.int .u8 0, .slice none 0 0, .slice none 0 0, .slice none 0 0]) := fun w' h => by
            rw [hL.out] at h
            exact ⟨h.toBlAt 2 rfl rfl rfl rfl, h.ob 1 rfl, h.ob 0 rfl⟩
          clear a0 a1 a2 a3
          clear z0 z1 z2 z3 zf0 zf1 zf2 zf3
          go_wp2_with fail
          go_loopw [11] (fun i wr => ∃ (j : Nat) (K V : Value), j ≤ keys.length + 1 ∧ i = .int .i64 j ∧ Hid (Mem w (blk gO 52 #[.int .u8 1, K, V, .slice none 0 0] :: row 9 1 K (setUpto keys key fn false j).length ((setUpto keys key fn false j).map sv) :: row 9 1 V (setUpto vals value fn false j).length ((setUpto vals value fn false j).map sv) :: L) wr)) (fun i _ => keys.length + 1 - (intOf i).toNat)
          case atStart => exact ⟨0, _, _, by omega, rfl, by rw [setUpto_zero, setUpto_zero]; exact M3.out⟩
          case round =>
            obtain ⟨j, K, V, hj, rfl, HM⟩ := hrel
            obtain ⟨AK, cK, rfl, hcK⟩ := (HM.out.app 1 rfl).slice
            obtain ⟨AV, cV, rfl, hcV⟩ := (HM.out.app 2 rfl).slice
            have HCC := Lib.hid (And.intro hcK hcV)
            clear hcK hcV
            obtain ⟨v, rfl⟩ : ∃ v : World, v = wr := ⟨_, rfl⟩
            obtain ⟨_, oa, oz⟩ := HA.out _ (HM.out.drop.drop.drop)
            obtain ⟨a0, a1, a2, a3, _⟩ := Ob.all4 oa
            clear oa oz
            obtain ⟨n0, n1, n2, n3, nf0, nf1, nf2, nf3⟩ := Ob.all4 (HM.out.ob 0 rfl)
            have HSZ := Lib.hid (show keys.length ≤ 12 ∧ fn ≤ keys.length ∧ vals.length = keys.length by have := HR.out; have := HFL.out; omega)
            have hk12 : keys.length ≤ 12 := HSZ.out.1
            have hfk : fn ≤ keys.length := HSZ.out.2.1
            have hv12 : vals.length ≤ 12 := by have := HSZ.out; omega
            have HB := Lib.hid (show (setUpto keys key fn false j).length ≤ 30 ∧ (setUpto vals value fn false j).length ≤ 30 by
              have h1 := setUpto_len keys key fn false j
              have h2 := setUpto_len vals value fn false j
              omega)
            by_cases hlt : j ≤ keys.length
            · by_cases hjf : j = fn
              · subst hjf
                have b2 : ((j : Int) == (j : Int)) = true := by simp
                have b3 : ((j : Int) != (j : Int)) = false := by simp
                go_upto_if 63 with (fail)
                go_cut [] (fun wx => Hid (∃ K V, Mem w (blk gO 52 #[.int .u8 1, K, V, .slice none 0 0] :: row 9 1 K (setUpto keys key j false j ++ [key]).length ((setUpto keys key j false j ++ [key]).map sv) :: row 9 1 V (setUpto vals value j false j ++ [value]).length ((setUpto vals value j false j ++ [value]).map sv) :: L) wx))
                case first =>
                  go_upto_region 11 with (fail)
                  go_cut [] (fun wx => Hid (∃ K', Mem w (blk gO 52 #[.int .u8 1, K', (.slice AV (setUpto vals value j false j).length cV), .slice none 0 0] :: row 9 1 K' ((setUpto keys key j false j ++ [key])).length (((setUpto keys key j false j ++ [key])).map sv) :: row 9 1 (.slice AV (setUpto vals value j false j).length cV) (setUpto vals value j false j).length ((setUpto vals value j false j).map sv) :: L) wx))
                  case first =>
                    have ma := HM.out.alloc (.cells #[.string key] 9)
                    have MA := Lib.hid ma
                    have n1' := (ma.ob 1 rfl).cell 1 rfl
                    simp only [List.getElem_toArray, List.getElem_cons_zero, List.getElem_cons_succ] at n1'
                    clear ma
                    go_wp2_with (at_builtin; go_must (refine append_row rfl _ _ 49 9 (.string .empty) 1 16 rfl Try.underlying49 Try.infoStr rfl (by decide) 0 (MA.out.app 2 rfl) (by rfl) (by rfl) (put_one_rd v 9 (.string key)) (by simp) (by intro u hu; simp at hu; subst hu; rfl) (by have := HB.out; omega) (by have := HB.out; omega) (Nat.zero_le _) ?_); intro v4 w4 hown4 hgr4 hat4; obtain ⟨A4, c4, rfl, hcc4⟩ := hown4.slice; have M4 := Lib.hid (MA.out.grow 2 rfl hown4 hgr4 hat4).drop; have n4 := (M4.out.ob 0 rfl).cell 1 rfl; simp only [List.getElem_toArray, List.getElem_cons_zero, List.getElem_cons_succ] at n4; have nf4 := (M4.out.ob 0 rfl).free 1)
                    go_meet
                    case rel =>
                      have e1 : (setUpto keys key j false j ++ [key]).length = (setUpto keys key j false j).length + 1 := by simp
                      have e2 : (setUpto keys key j false j ++ [key]).map sv = (setUpto keys key j false j).map sv ++ [.string key] := by simp [sv]
                      rw [e1, e2]
                      exact ⟨.slice A4 ((setUpto keys key j false j).length + 1) c4, M4.out.put 0 rfl 1 (.slice A4 ((setUpto keys key j false j).length + 1) c4)⟩
                  case rest =>
                    obtain ⟨K', mk'⟩ := hcut.out
                    obtain ⟨AK6, cK6, rfl, _⟩ := (mk'.app 1 rfl).slice
                    have HM6 := Lib.hid mk'
                    clear mk'
                    clear a0 a1 a2 a3 n0 n1 n2 n3 nf0 nf1 nf2 nf3
                    obtain ⟨_, oa, oz⟩ := HA.out _ (HM6.out.drop.drop.drop)
                    obtain ⟨a0, a1, a2, a3, _⟩ := Ob.all4 oa
                    clear oa oz
                    obtain ⟨n0, n1, n2, n3, nf0, nf1, nf2, nf3⟩ := Ob.all4 (HM6.out.ob 0 rfl)
                    go_upto_region 12 with (fail)
                    have ma := HM6.out.alloc (.cells #[.string value] 9)
                    have MA := Lib.hid ma
                    have n1' := (ma.ob 1 rfl).cell 2 rfl
                    simp only [List.getElem_toArray, List.getElem_cons_zero, List.getElem_cons_succ] at n1'
                    clear ma
                    go_wp2_with (at_builtin; go_must (refine append_row rfl _ _ 49 9 (.string .empty) 1 16 rfl Try.underlying49 Try.infoStr rfl (by decide) 0 (MA.out.app 3 rfl) (by rfl) (by rfl) (put_one_rd wc 9 (.string value)) (by simp) (by intro u hu; simp at hu; subst hu; rfl) (by have := HB.out; omega) (by have := HB.out; omega) (Nat.zero_le _) ?_); intro v4 w4 hown4 hgr4 hat4; obtain ⟨A4, c4, rfl, hcc4⟩ := hown4.slice; have M4 := Lib.hid (MA.out.grow 3 rfl hown4 hgr4 hat4).drop; have n4 := (M4.out.ob 0 rfl).cell 2 rfl; simp only [List.getElem_toArray, List.getElem_cons_zero, List.getElem_cons_succ] at n4; have nf4 := (M4.out.ob 0 rfl).free 2)
                    go_meet
                    case rel =>
                      have e1 : (setUpto vals value j false j ++ [value]).length = (setUpto vals value j false j).length + 1 := by simp
                      have e2 : (setUpto vals value j false j ++ [value]).map sv = (setUpto vals value j false j).map sv ++ [.string value] := by simp [sv]
                      refine ⟨(.slice AK6 (setUpto keys key j false j ++ [key]).length cK6), .slice A4 ((setUpto vals value j false j).length + 1) c4, ?_⟩
                      rw [e1, e2]
                      exact M4.out.put 0 rfl 2 (.slice A4 ((setUpto vals value j false j).length + 1) c4)
                case rest =>
                  obtain ⟨K7, V7, hm7⟩ := hcut.out
                  obtain ⟨k7, hk7⟩ : ∃ k7, k7 = setUpto keys key j false j ++ [key] := ⟨_, rfl⟩
                  obtain ⟨v7, hv7⟩ : ∃ v7, v7 = setUpto vals value j false j ++ [value] := ⟨_, rfl⟩
                  rw [← hk7, ← hv7] at hm7
                  have HKV := Lib.hid (And.intro hk7 hv7)
                  clear hk7 hv7
                  obtain ⟨AK7, cK7, rfl, _⟩ := (hm7.app 1 rfl).slice
                  obtain ⟨AV7, cV7, rfl, _⟩ := (hm7.app 2 rfl).slice
                  have HM7 := Lib.hid hm7
                  clear hm7
                  clear a0 a1 a2 a3 n0 n1 n2 n3 nf0 nf1 nf2 nf3
                  obtain ⟨_, oa, oz⟩ := HA.out _ (HM7.out.drop.drop.drop)
                  obtain ⟨a0, a1, a2, a3, _⟩ := Ob.all4 oa
                  clear oa oz
                  obtain ⟨n0, n1, n2, n3, nf0, nf1, nf2, nf3⟩ := Ob.all4 (HM7.out.ob 0 rfl)
                  by_cases hjn : j < keys.length
                  · have i0 : (j : Int) < (keys.length : Int) := by omega
                    have i1 : (j : Int) < (vals.length : Int) := by have := HSZ.out; omega
                    obtain ⟨xy, hxy⟩ := get_some keys j (by have := HR.out; omega)
                    obtain ⟨xb, xo, hxe, hxc⟩ := (RK.out.bl (HA.out _ (HM7.out.drop.drop.drop)).1).get hxy
                    subst hxe
                    simp only [sv] at hxc
                    have HxY := Lib.hid hxy
                    clear hxy
                    obtain ⟨yy, hyy⟩ := get_some vals j (by have := HR.out; omega)
                    obtain ⟨yb, yo, hye, hyc⟩ := (RV.out.bl (HA.out _ (HM7.out.drop.drop.drop)).1).get hyy
                    subst hye
                    simp only [sv] at hyc
                    have HyY := Lib.hid hyy
                    clear hyy
                    have HE1 := Lib.hid (show setUpto keys key j false (j + 1) = k7 ++ [xy] by rw [setUpto_at_no keys key xy j HxY.out, HKV.out.1])
                    have HE2 := Lib.hid (show setUpto vals value j false (j + 1) = v7 ++ [yy] by rw [setUpto_at_no vals value yy j HyY.out, HKV.out.2])
                    have HB := Lib.hid (show k7.length ≤ 40 ∧ v7.length ≤ 40 by have := HB.out; rw [HKV.out.1, HKV.out.2]; simp; omega)
                    go_upto_region 14 with (fail)
                    go_cut [] (fun wx => Hid (∃ K', Mem w (blk gO 52 #[.int .u8 1, K', (.slice AV7 (v7).length cV7), .slice none 0 0] :: row 9 1 K' ((k7 ++ [xy])).length (((k7 ++ [xy])).map sv) :: row 9 1 (.slice AV7 (v7).length cV7) (v7).length ((v7).map sv) :: L) wx))
                    case first =>
                      have ma := HM7.out.alloc (.cells #[.string xy] 9)
                      have MA := Lib.hid ma.drew
                      have n1' := (ma.ob 1 rfl).cell 1 rfl
                      simp only [List.getElem_toArray, List.getElem_cons_zero, List.getElem_cons_succ] at n1'
                      clear ma
                      go_region_law (refine step_row rfl _ _ 49 9 (.string .empty) 1 16 (by rfl) Try.underlying49 Try.infoStr rfl (by decide) 0 (MA.out.app 2 rfl) (by rfl) (by rfl) ((put_one_rd wc 9 (.string xy)).bl (Bl.refl _).drew) (by simp) (by intro u hu; simp at hu; subst hu; rfl) (by have := HB.out; omega) (by have := HB.out; omega) (Nat.zero_le _) ?_; intro v4 w4 hown4 hgr4 hat4; obtain ⟨A4, c4, rfl, hcc4⟩ := hown4.slice; have M4 := Lib.hid (MA.out.grow 2 rfl hown4 hgr4 hat4).drop; have n4 := (M4.out.ob 0 rfl).cell 1 rfl; simp only [List.getElem_toArray, List.getElem_cons_zero, List.getElem_cons_succ] at n4; have nf4 := (M4.out.ob 0 rfl).free 1)
                      all_goals
                        go_wp2_with fail
                        go_meet
                        case rel =>
                          have e1 : (k7 ++ [xy]).length = (k7).length + 1 := by simp
                          have e2 : (k7 ++ [xy]).map sv = (k7).map sv ++ [.string xy] := by simp [sv]
                          rw [e1, e2]
                          exact ⟨.slice A4 ((k7).length + 1) c4, M4.out.put 0 rfl 1 (.slice A4 ((k7).length + 1) c4)⟩
                    case rest =>
                      obtain ⟨K', mk'⟩ := hcut.out
                      obtain ⟨AK8, cK8, rfl, _⟩ := (mk'.app 1 rfl).slice
                      have HM8 := Lib.hid mk'
                      clear mk'
                      clear a0 a1 a2 a3 n0 n1 n2 n3 nf0 nf1 nf2 nf3 hxc hyc
                      obtain ⟨_, oa, oz⟩ := HA.out _ (HM8.out.drop.drop.drop)
                      obtain ⟨a0, a1, a2, a3, _⟩ := Ob.all4 oa
                      clear oa oz
                      obtain ⟨n0, n1, n2, n3, nf0, nf1, nf2, nf3⟩ := Ob.all4 (HM8.out.ob 0 rfl)
                      have hyc : wc.cell? ⟨yb, yo + j, none⟩ = some (.string yy) := by
                        obtain ⟨_, _, e, hc⟩ := (RV.out.bl (HA.out _ (HM8.out.drop.drop.drop)).1).get HyY.out
                        cases e; exact hc
                      go_upto_region 15 with (fail)
                      have ma := HM8.out.alloc (.cells #[.string yy] 9)
                      have MA := Lib.hid ma.drew
                      have n1' := (ma.ob 1 rfl).cell 2 rfl
                      simp only [List.getElem_toArray, List.getElem_cons_zero, List.getElem_cons_succ] at n1'
                      clear ma
                      go_region_law (refine step_row rfl _ _ 49 9 (.string .empty) 1 16 (by rfl) Try.underlying49 Try.infoStr rfl (by decide) 0 (MA.out.app 3 rfl) (by rfl) (by rfl) ((put_one_rd wc 9 (.string yy)).bl (Bl.refl _).drew) (by simp) (by intro u hu; simp at hu; subst hu; rfl) (by have := HB.out; omega) (by have := HB.out; omega) (Nat.zero_le _) ?_; intro v4 w4 hown4 hgr4 hat4; obtain ⟨A4, c4, rfl, hcc4⟩ := hown4.slice; have M4 := Lib.hid (MA.out.grow 3 rfl hown4 hgr4 hat4).drop; have n4 := (M4.out.ob 0 rfl).cell 2 rfl; simp only [List.getElem_toArray, List.getElem_cons_zero, List.getElem_cons_succ] at n4; have nf4 := (M4.out.ob 0 rfl).free 2)
                      all_goals
                        go_wp2_with fail
                        go_roundw
                        case rel =>
                          have e1 : (v7 ++ [yy]).length = (v7).length + 1 := by simp
                          have e2 : (v7 ++ [yy]).map sv = (v7).map sv ++ [.string yy] := by simp [sv]
                          refine ⟨j + 1, (.slice AK8 (k7 ++ [xy]).length cK8), .slice A4 ((v7).length + 1) c4, by omega, by go_num, ?_⟩
                          rw [HE1.out, HE2.out, e1, e2]
                          exact M4.out.put 0 rfl 2 (.slice A4 ((v7).length + 1) c4)
                        case measure => simp [intOf]; omega
                  · have i0 : (keys.length : Int) ≤ (j : Int) := by omega
                    have HE1 := Lib.hid ((setUpto_at_end keys key j (by omega)).trans HKV.out.1.symm)
                    have HE2 := Lib.hid ((setUpto_at_end vals value j (by have := HSZ.out; omega)).trans HKV.out.2.symm)
                    go_wp2_with fail
                    go_roundw
                    case rel => exact ⟨j + 1, _, _, by omega, by go_num, by rw [HE1.out, HE2.out]; exact HM7.out⟩
                    case measure => simp [intOf]; omega
              · have b2 : ((j : Int) == (fn : Int)) = false := by simp; omega
                have b3 : ((j : Int) != (fn : Int)) = true := by simp; omega
                by_cases hjn : j < keys.length
                · have i0 : (j : Int) < (keys.length : Int) := by omega
                  have i1 : (j : Int) < (vals.length : Int) := by have := HSZ.out; omega
                  obtain ⟨xy, hxy⟩ := get_some keys j (by have := HR.out; omega)
                  obtain ⟨xb, xo, hxe, hxc⟩ := (RK.out.bl (HA.out _ (HM.out.drop.drop.drop)).1).get hxy
                  subst hxe
                  simp only [sv] at hxc
                  have HxY := Lib.hid hxy
                  clear hxy
                  obtain ⟨yy, hyy⟩ := get_some vals j (by have := HR.out; omega)
                  obtain ⟨yb, yo, hye, hyc⟩ := (RV.out.bl (HA.out _ (HM.out.drop.drop.drop)).1).get hyy
                  subst hye
                  simp only [sv] at hyc
                  have HyY := Lib.hid hyy
                  clear hyy
                  have HE1 := Lib.hid (show setUpto keys key fn false (j + 1) = setUpto keys key fn false j ++ [xy] by
                    rcases Nat.lt_or_gt_of_ne hjf with h | h
                    · exact setUpto_lo keys key xy fn false j h HxY.out
                    · exact setUpto_hi keys key xy fn false j h HxY.out)
                  have HE2 := Lib.hid (show setUpto vals value fn false (j + 1) = setUpto vals value fn false j ++ [yy] by
                    rcases Nat.lt_or_gt_of_ne hjf with h | h
                    · exact setUpto_lo vals value yy fn false j h HyY.out
                    · exact setUpto_hi vals value yy fn false j h HyY.out)
                  go_upto_region 14 with (fail)
                  go_cut [] (fun wx => Hid (∃ K', Mem w (blk gO 52 #[.int .u8 1, K', (.slice AV (setUpto vals value fn false j).length cV), .slice none 0 0] :: row 9 1 K' ((setUpto keys key fn false j ++ [xy])).length (((setUpto keys key fn false j ++ [xy])).map sv) :: row 9 1 (.slice AV (setUpto vals value fn false j).length cV) (setUpto vals value fn false j).length ((setUpto vals value fn false j).map sv) :: L) wx))
                  case first =>
                    have ma := HM.out.alloc (.cells #[.string xy] 9)
                    have MA := Lib.hid ma.drew
                    have n1' := (ma.ob 1 rfl).cell 1 rfl
                    simp only [List.getElem_toArray, List.getElem_cons_zero, List.getElem_cons_succ] at n1'
                    clear ma
                    go_region_law (refine step_row rfl _ _ 49 9 (.string .empty) 1 16 (by rfl) Try.underlying49 Try.infoStr rfl (by decide) 0 (MA.out.app 2 rfl) (by rfl) (by rfl) ((put_one_rd v 9 (.string xy)).bl (Bl.refl _).drew) (by simp) (by intro u hu; simp at hu; subst hu; rfl) (by have := HB.out; omega) (by have := HB.out; omega) (Nat.zero_le _) ?_; intro v4 w4 hown4 hgr4 hat4; obtain ⟨A4, c4, rfl, hcc4⟩ := hown4.slice; have M4 := Lib.hid (MA.out.grow 2 rfl hown4 hgr4 hat4).drop; have n4 := (M4.out.ob 0 rfl).cell 1 rfl; simp only [List.getElem_toArray, List.getElem_cons_zero, List.getElem_cons_succ] at n4; have nf4 := (M4.out.ob 0 rfl).free 1)
                    all_goals
                      go_wp2_with fail
                      go_meet
                      case rel =>
                        have e1 : (setUpto keys key fn false j ++ [xy]).length = (setUpto keys key fn false j).length + 1 := by simp
                        have e2 : (setUpto keys key fn false j ++ [xy]).map sv = (setUpto keys key fn false j).map sv ++ [.string xy] := by simp [sv]
                        rw [e1, e2]
                        exact ⟨.slice A4 ((setUpto keys key fn false j).length + 1) c4, M4.out.put 0 rfl 1 (.slice A4 ((setUpto keys key fn false j).length + 1) c4)⟩
                  case rest =>
                    obtain ⟨K', mk'⟩ := hcut.out
                    obtain ⟨AK8, cK8, rfl, _⟩ := (mk'.app 1 rfl).slice
                    have HM8 := Lib.hid mk'
                    clear mk'
                    clear a0 a1 a2 a3 n0 n1 n2 n3 nf0 nf1 nf2 nf3 hxc hyc
                    obtain ⟨_, oa, oz⟩ := HA.out _ (HM8.out.drop.drop.drop)
                    obtain ⟨a0, a1, a2, a3, _⟩ := Ob.all4 oa
                    clear oa oz
                    obtain ⟨n0, n1, n2, n3, nf0, nf1, nf2, nf3⟩ := Ob.all4 (HM8.out.ob 0 rfl)
                    have hyc : wc.cell? ⟨yb, yo + j, none⟩ = some (.string yy) := by
                      obtain ⟨_, _, e, hc⟩ := (RV.out.bl (HA.out _ (HM8.out.drop.drop.drop)).1).get HyY.out
                      cases e; exact hc
                    go_upto_region 15 with (fail)
                    have ma := HM8.out.alloc (.cells #[.string yy] 9)
                    have MA := Lib.hid ma.drew
                    have n1' := (ma.ob 1 rfl).cell 2 rfl
                    simp only [List.getElem_toArray, List.getElem_cons_zero, List.getElem_cons_succ] at n1'
                    clear ma
                    go_region_law (refine step_row rfl _ _ 49 9 (.string .empty) 1 16 (by rfl) Try.underlying49 Try.infoStr rfl (by decide) 0 (MA.out.app 3 rfl) (by rfl) (by rfl) ((put_one_rd wc 9 (.string yy)).bl (Bl.refl _).drew) (by simp) (by intro u hu; simp at hu; subst hu; rfl) (by have := HB.out; omega) (by have := HB.out; omega) (Nat.zero_le _) ?_; intro v4 w4 hown4 hgr4 hat4; obtain ⟨A4, c4, rfl, hcc4⟩ := hown4.slice; have M4 := Lib.hid (MA.out.grow 3 rfl hown4 hgr4 hat4).drop; have n4 := (M4.out.ob 0 rfl).cell 2 rfl; simp only [List.getElem_toArray, List.getElem_cons_zero, List.getElem_cons_succ] at n4; have nf4 := (M4.out.ob 0 rfl).free 2)
                    all_goals
                      go_wp2_with fail
                      go_roundw
                      case rel =>
                        have e1 : (setUpto vals value fn false j ++ [yy]).length = (setUpto vals value fn false j).length + 1 := by simp
                        have e2 : (setUpto vals value fn false j ++ [yy]).map sv = (setUpto vals value fn false j).map sv ++ [.string yy] := by simp [sv]
                        refine ⟨j + 1, (.slice AK8 (setUpto keys key fn false j ++ [xy]).length cK8), .slice A4 ((setUpto vals value fn false j).length + 1) c4, by omega, by go_num, ?_⟩
                        rw [HE1.out, HE2.out, e1, e2]
                        exact M4.out.put 0 rfl 2 (.slice A4 ((setUpto vals value fn false j).length + 1) c4)
                      case measure => simp [intOf]; omega
                · have i0 : (keys.length : Int) ≤ (j : Int) := by omega
                  obtain rfl : j = keys.length := by omega
                  have HE1 := Lib.hid (setUpto_over keys key fn false (by omega))
                  have HE2 := Lib.hid (show setUpto vals value fn false (keys.length + 1) = setUpto vals value fn false keys.length by
                    have := setUpto_over vals value fn false (by have := HSZ.out; omega)
                    rw [HSZ.out.2.2] at this; exact this)
                  go_wp2_with fail
                  go_roundw
                  case rel => exact ⟨keys.length + 1, _, _, by omega, by go_num, by rw [HE1.out, HE2.out]; exact HM.out⟩
                  case measure => simp [intOf] <;> omega
            · obtain rfl : j = keys.length + 1 := by omega
              obtain ⟨_, _, oz⟩ := HA.out _ (HM.out.drop.drop.drop)
              obtain ⟨z0, z1, z2, z3, zf0, zf1, zf2, zf3⟩ := Ob.all4 oz
              clear oz
              have he1 : setUpto keys key fn false (keys.length + 1) = putAt keys key fn false := setUpto_end _ _ _ _ HSZ.out.2.1
              have he2 : setUpto vals value fn false (keys.length + 1) = putAt vals value fn false := by have := setUpto_end vals value fn false (by have := HSZ.out; omega); rw [HSZ.out.2.2] at this; exact this
              rw [he1, he2] at HM HCC
              clear he1 he2
              clear n0 n1 n2 n3 nf0 nf1 nf2 nf3
              obtain ⟨n0, n1, n2, n3, nf0, nf1, nf2, nf3⟩ := Ob.all4 (HM.out.ob 0 rfl)
              go_wp2_with fail
              have m9 := HM.out
              rw [hL.out] at m9
              have m9 := m9.put4 3 rfl (.int .u8 1) (.slice AK (putAt keys key fn false).length cK) (.slice AV (putAt vals value fn false).length cV) (.slice none 0 0)
              refine bodyPost_ret (v := .tuple #[nodeV 1 AK (putAt keys key fn false).length cK AV (putAt vals value fn false).length cV none 0 0, .int .i64 0]) (results_ct rfl _ _ (m9.ob 3 rfl) rfl rfl Try.underlying52 rfl Try.sizeNode) rfl ?_
              unfold RetRd
              rw [HS2.out]
              have h1 := (m9.app 1 rfl).rd.1
              have h2 := (m9.app 2 rfl).rd.1
              have b9 := m9.toBlAt 5 rfl rfl rfl rfl
              have hcc := HCC.out
              exact ⟨AK, cK, AV, cV, none, 0, rfl, h1, h2, Rd.nil _ _, b9, hcc.1, hcc.2, Nat.le_refl _⟩
end Go.Proofs.Ytedmamchfgkkfaa
/- Layer 18 (node) walked: Get. -/
set_option linter.unusedVariables false
set_option linter.unusedSimpArgs false
namespace Go.Proofs.Ytedmamchfgkkfaa
open Go.RowKit
set_option maxRecDepth 100000
set_option maxHeartbeats 20000000

/-- The variable in which the result stands. -/
theorem node_out (k : Int) (ks vs : List ByteArray) (is : List Int) (K V I : Value) {w0 : World} {gB gR gA gE gN base : Nat} {A : Option Addr} {n c : Nat} {w : World} {p e : Int} (h : GetSt w0 k gB gR gA gE gN base A n c w p e ks vs is K V I) :
    ∃ A1 c1 B1 d1 I1 ci1, K = .slice A1 ks.length c1 ∧ V = .slice B1 vs.length d1 ∧ I = .slice I1 is.length ci1 := by
  obtain ⟨A1, c1, h1, _⟩ := h.aK.slice
  obtain ⟨B1, d1, h2, _⟩ := h.aV.slice
  obtain ⟨I1, ci1, h3, _⟩ := h.aI.slice
  exact ⟨A1, c1, B1, d1, I1, ci1, h1, h2, h3⟩

theorem node_Get (k : Int) (A : Option Addr) (c : Nat) (b : List UInt8) (w : World) (hb : b.length ≤ 140737488351232) (hbc : b.length ≤ c) (hr : Rd w A (b.map bv)) :
    Calls Try.prog 38 #[.int .u8 k, .slice A b.length c] w (RetNode (nodeGet k b) w) := by
  have hmf : ∀ (fn : Fn) (first cap : Array Value) (w : World), (Instr.makeFunc fn first cap).run Try.prog w = .ok (.func fn first cap) w := fun _ _ _ _ => rfl
  have HR := Lib.hid hr
  clear hr
  by_cases hkind : k = 1 ∨ k = 2
  · have b0 : (k != 1) = true → (k != 2) = false := by rcases hkind with rfl | rfl <;> decide
    have HS0 := Lib.hid (node_setup k A b.length c w)
    have HKIND := Lib.hid hkind
    have b1 : ((k != 1) = false) ∨ ((k != 1) = true ∧ (k != 2) = false) := by rcases hkind with rfl | rfl <;> decide
    clear b0 hkind
    go_enter Try.func38, Try.ntmps38
    go_upto_region 1 with (fail)
    go_cut [18] (fun s wx => s = .bool false ∧ wx = (w.alloc (.cells #[.slice A b.length c] 24)).alloc (.cells #[.int .u8 0, .slice none 0 0, .slice none 0 0, .slice none 0 0] 52))
    case first =>
      rcases b1 with b1 | ⟨b1, b2⟩
      all_goals
        go_wp2_with fail
        go_meet
        case rel => exact ⟨rfl, rfl⟩
    case rest =>
      obtain ⟨rfl, rfl⟩ := hcut
      clear b1
      go_wp2_with (go_at_call 80; fail_if_success skip)
      generalize (((((w.alloc (.cells #[.slice A b.length c] 24)).alloc (.cells #[.int .u8 0, .slice none 0 0, .slice none 0 0, .slice none 0 0] 52)).alloc (.cells #[.int .i64 0] 3)).alloc (.cells #[.int .i64 0] 28)).alloc (.cells #[.int .u8 k, .slice none 0 0, .slice none 0 0, .slice none 0 0] 52)) = u at HS0 ⊢
      generalize w.heap.size + 1 + 1 + 1 + 1 + 1 = base at HS0 ⊢
      generalize w.heap.size + 1 + 1 + 1 + 1 = gN at HS0 ⊢
      generalize w.heap.size + 1 + 1 + 1 = gE at HS0 ⊢
      generalize w.heap.size + 1 + 1 = gA at HS0 ⊢
      generalize w.heap.size + 1 = gR at HS0 ⊢
      generalize w.heap.size = gB at HS0 ⊢
      refine (nd_number gE gB gA A c b 0 0 6 u hb (by unfold Hid; omega) (by omega) (HR.out.bl HS0.out.wb) HS0.out.cap).mono ?_
      rintro z w1 ⟨rfl, hcap1, hch1⟩
      have HS1 := Lib.hid (HS0.out.call hcap1 hch1)
      have F1 := ndNum_facts b 6 0 0 (by omega) (by omega)
      have HG1 := Lib.hid (nodeGet_leaf b)
      have HG2 := Lib.hid (nodeGet_inner b)
      generalize ndNum b 6 0 0 = r at HS1 F1 HG1 HG2 ⊢
      obtain ⟨n0, p0, e0⟩ := r
      obtain ⟨n, rfl⟩ : ∃ n : Nat, n0 = n := ⟨n0.toNat, by simp only at F1; omega⟩
      simp only [Int.toNat_natCast] at HS1 F1 HG1 HG2 ⊢
      clear hcap1 hch1 HS0
      go_upto_if 27 with (fail)
      go_cut [] (fun wx => Hid (∃ p e ks vs is K V I, GetSt w k gB gR gA gE gN base A b.length c wx p e ks vs is K V I ∧ (0 ≤ p ∧ p ≤ b.length) ∧ ks = [] ∧ vs = [] ∧ is.length ≤ 1 ∧ ndGoes k b n p e ks vs is = nodeGet k b))
      case first =>
        by_cases h2 : k = 2
        · subst h2
          have HPa : Hid (-9223372036854775808 ≤ p0 ∧ p0 ≤ 9223372036854775807) := by unfold Hid; omega
          have HSD := Lib.hid (HS1.out.bl (Bl.refl _).drew)
          obtain ⟨Ia, hIa⟩ : ∃ Ia : Value, Ia = .slice none 0 0 := ⟨_, rfl⟩
          have c3 : w1.cell? ⟨gN, 3, none⟩ = some (.slice none 0 0) := HS1.out.oN.cell 3 rfl
          go_wp2_with fail
          subst hIa
          go_region_law (first
            | (go_simp; go_at_call 80; refine (nd_number gE gB gA A c b p0 e0 65535 w1.drew hb HPa (by omega) (HR.out.bl HSD.out.wb) HSD.out.cap).mono ?_; rintro z w2a ⟨rfl, hcap2a, hch2a⟩; have S2a := HSD.out.call hcap2a hch2a; have da : w2a.cell? ⟨gN, 3, none⟩ = some (.slice none 0 0) := S2a.oN.cell 3 rfl; have ea : (w2a.alloc (.cells #[.int .i64 (ndNum b 65535 p0 e0).1] 3)).cell? ⟨gN, 3, none⟩ = some (.slice none 0 0) := (S2a.bl ((Bl.refl _).alloc (.cells #[.int .i64 (ndNum b 65535 p0 e0).1] 3))).oN.cell 3 rfl)
            | (refine step_row rfl _ _ 50 3 (.int .i64 0) 1 8 (by rfl) Try.underlying50 Try.infoInt rfl (by decide) base (S2a.bl ((Bl.refl _).alloc (.cells #[.int .i64 (ndNum b 65535 p0 e0).1] 3))).aI (by rfl) (by rfl) (put_one_rd w2a 3 (.int .i64 (ndNum b 65535 p0 e0).1)) (by simp) (by intro u hu; simp at hu; subst hu; rfl) (by simp) (by simp) (S2a.bl ((Bl.refl _).alloc (.cells #[.int .i64 (ndNum b 65535 p0 e0).1] 3))).ord.2.2.2.2.2 ?_; intro v3a w3a hown3a hgr3a hat3a; obtain ⟨A3a, c3a, rfl, hcc3a⟩ := hown3a.slice; have S3a := (S2a.bl ((Bl.refl _).alloc (.cells #[.int .i64 (ndNum b 65535 p0 e0).1] 3))).kids (x := (ndNum b 65535 p0 e0).1) hown3a hgr3a; have hN3a := ((S2a.bl ((Bl.refl _).alloc (.cells #[.int .i64 (ndNum b 65535 p0 e0).1] 3))).grow hgr3a (S2a.bl ((Bl.refl _).alloc (.cells #[.int .i64 (ndNum b 65535 p0 e0).1] 3))).aI.ge 3 (.int .i64 0)).2.2.1; have g3a : w3a.cell? ⟨gN, 3, none⟩ = some (.slice none 0 0) := hN3a.cell 3 rfl; have f3a := hN3a.free 3))
          all_goals
            go_wp2_with fail
            go_meet
            case rel =>
              have F2 := ndNum_facts b 65535 p0 e0 (by omega) (by omega)
              exact ⟨_, _, _, _, _, _, _, _, S3a, ⟨F2.2.2.1, F2.2.2.2⟩, rfl, rfl, by simp, HG2.out.symm⟩
        · have b2 : (k == 2) = false := by simpa using h2
          have HK1 := Lib.hid (show k = 1 by have := HKIND.out; omega)
          clear h2
          go_wp2_with fail
          go_meet
          case rel =>
            obtain rfl := HK1.out
            exact ⟨_, _, _, _, _, _, _, _, HS1.out, ⟨F1.2.2.1, F1.2.2.2⟩, rfl, rfl, by simp, HG1.out.symm⟩
      case rest =>
        obtain ⟨p1, e1, ks1, vs1, is1, K1, V1, I1, S1, hp1, rfl, rfl, hl1, hq1⟩ := hcut.out
        have HS1 := Lib.hid S1
        have HQ1 := Lib.hid hq1
        have hn6 : n ≤ 6 := by omega
        clear S1 hq1 HG1 HG2 F1
        go_wp2_with fail
        go_loopw [12] (fun i wr => ∃ (j : Nat) (p e : Int) (ks vs : List ByteArray) (is : List Int) (K V I : Value), i = .int .i64 j ∧ j ≤ n ∧ Hid (GetSt w k gB gR gA gE gN base A b.length c wr p e ks vs is K V I) ∧ (0 ≤ p ∧ p ≤ b.length) ∧ ks.length ≤ j ∧ vs.length ≤ j ∧ is.length ≤ j + 1 ∧ Hid (ndGoes k b (n - j) p e ks vs is = nodeGet k b)) (fun i _ => n - (intOf i).toNat)
        case atStart => exact ⟨0, p1, e1, [], [], is1, K1, V1, I1, rfl, by omega, HS1.out, hp1, by simp, by simp, by omega, HQ1.out⟩
        case round =>
          obtain ⟨j, p, e, ks, vs, is, K, V, I, rfl, hj, HS, hp, hks, hvs, his, HQ⟩ := hrel
          obtain ⟨v, rfl⟩ : ∃ v : World, v = wr := ⟨_, rfl⟩
          clear HS1 HQ1
          have cE : v.cell? ⟨gE, 0, none⟩ = some (.int .i64 e) := HS.out.cap.oE.cell 0 rfl
          by_cases hgo : j < n ∧ e = 0
          · obtain ⟨hlt, he⟩ := hgo
            subst he
            have HPb : Hid (-9223372036854775808 ≤ p ∧ p ≤ 9223372036854775807) := by unfold Hid; omega
            have HSD := Lib.hid (HS.out.bl (Bl.refl _).drew)
            have F2 := ndText_facts b 40 p 0 (by omega) hp
            have c1 : v.cell? ⟨gN, 1, none⟩ = some K := HS.out.oN.cell 1 rfl
            go_upto_region 13 with (fail)
            go_cut [] (fun wx => Hid (∃ K', GetSt w k gB gR gA gE gN base A b.length c wx (ndText b 40 p 0).2.1 (ndText b 40 p 0).2.2 (ks ++ [⟨(ndText b 40 p 0).1.toArray⟩]) vs is K' V I))
            case first =>
              go_region_law (first
                | (go_simp; go_at_call 82; refine (nd_text gE gB gA A c b p 0 40 v.drew hb hbc HPb (by omega) (HR.out.bl HSD.out.wb) HSD.out.cap).mono ?_; rintro z w2b ⟨rfl, hcap2b, hch2b⟩; have S2b := HSD.out.call hcap2b hch2b; have db : w2b.cell? ⟨gN, 1, none⟩ = some K := S2b.oN.cell 1 rfl; have eb : (w2b.alloc (.cells #[.string (⟨(ndText b 40 p 0).1.toArray⟩ : ByteArray)] 9)).cell? ⟨gN, 1, none⟩ = some K := (S2b.bl ((Bl.refl _).alloc (.cells #[.string (⟨(ndText b 40 p 0).1.toArray⟩ : ByteArray)] 9))).oN.cell 1 rfl)
                | (refine step_row rfl _ _ 49 9 (.string .empty) 1 16 (by rfl) Try.underlying49 Try.infoStr rfl (by decide) base (S2b.bl ((Bl.refl _).alloc (.cells #[.string (⟨(ndText b 40 p 0).1.toArray⟩ : ByteArray)] 9))).aK (by rfl) (by rfl) (put_one_rd w2b 9 (.string (⟨(ndText b 40 p 0).1.toArray⟩ : ByteArray))) (by simp) (by intro u hu; simp at hu; subst hu; rfl) (by omega) (by omega) (S2b.bl ((Bl.refl _).alloc (.cells #[.string (⟨(ndText b 40 p 0).1.toArray⟩ : ByteArray)] 9))).ord.2.2.2.2.2 ?_; intro v3b w3b hown3b hgr3b hat3b; obtain ⟨A3b, c3b, rfl, hcc3b⟩ := hown3b.slice; have S3b := (S2b.bl ((Bl.refl _).alloc (.cells #[.string (⟨(ndText b 40 p 0).1.toArray⟩ : ByteArray)] 9))).keys (x := (⟨(ndText b 40 p 0).1.toArray⟩ : ByteArray)) hown3b hgr3b hat3b; have hN3b := ((S2b.bl ((Bl.refl _).alloc (.cells #[.string (⟨(ndText b 40 p 0).1.toArray⟩ : ByteArray)] 9))).grow hgr3b (S2b.bl ((Bl.refl _).alloc (.cells #[.string (⟨(ndText b 40 p 0).1.toArray⟩ : ByteArray)] 9))).aK.ge 1 (.int .i64 0)).2.2.1; have g3b : w3b.cell? ⟨gN, 1, none⟩ = some K := hN3b.cell 1 rfl; have f3b := hN3b.free 1))
              all_goals
                go_wp2_with fail
                go_meet
                case rel => exact ⟨_, S3b⟩
            case rest =>
              obtain ⟨K', S4⟩ := hcut.out
              have HS4 := Lib.hid S4
              have HSE := Lib.hid (S4.bl (Bl.refl _).drew)
              have HPc : Hid (-9223372036854775808 ≤ (ndText b 40 p 0).2.1 ∧ (ndText b 40 p 0).2.1 ≤ 9223372036854775807) := by unfold Hid; omega
              have HPd := HPc
              have c2 : wc.cell? ⟨gN, 2, none⟩ = some V := S4.oN.cell 2 rfl
              have c3 : wc.cell? ⟨gN, 3, none⟩ = some I := S4.oN.cell 3 rfl
              clear S4 c1 cE HSD
              by_cases h2 : k = 2
              · subst h2
                have HN := Lib.hid (ndGoes_kids b (n - (j + 1)) p ks vs is)
                have F3 := ndNum_facts b 65535 (ndText b 40 p 0).2.1 (ndText b 40 p 0).2.2 (by omega) (by omega)
                go_wp2_with fail
                go_region_law (first
                  | (go_simp; go_at_call 80; refine (nd_number gE gB gA A c b (ndText b 40 p 0).2.1 (ndText b 40 p 0).2.2 65535 wc.drew hb HPc (by omega) (HR.out.bl HSE.out.wb) HSE.out.cap).mono ?_; rintro z w2c ⟨rfl, hcap2c, hch2c⟩; have S2c := HSE.out.call hcap2c hch2c; have dc : w2c.cell? ⟨gN, 3, none⟩ = some I := S2c.oN.cell 3 rfl; have ec : (w2c.alloc (.cells #[.int .i64 (ndNum b 65535 (ndText b 40 p 0).2.1 (ndText b 40 p 0).2.2).1] 3)).cell? ⟨gN, 3, none⟩ = some I := (S2c.bl ((Bl.refl _).alloc (.cells #[.int .i64 (ndNum b 65535 (ndText b 40 p 0).2.1 (ndText b 40 p 0).2.2).1] 3))).oN.cell 3 rfl)
                  | (refine step_row rfl _ _ 50 3 (.int .i64 0) 1 8 (by rfl) Try.underlying50 Try.infoInt rfl (by decide) base (S2c.bl ((Bl.refl _).alloc (.cells #[.int .i64 (ndNum b 65535 (ndText b 40 p 0).2.1 (ndText b 40 p 0).2.2).1] 3))).aI (by rfl) (by rfl) (put_one_rd w2c 3 (.int .i64 (ndNum b 65535 (ndText b 40 p 0).2.1 (ndText b 40 p 0).2.2).1)) (by simp) (by intro u hu; simp at hu; subst hu; rfl) (by omega) (by omega) (S2c.bl ((Bl.refl _).alloc (.cells #[.int .i64 (ndNum b 65535 (ndText b 40 p 0).2.1 (ndText b 40 p 0).2.2).1] 3))).ord.2.2.2.2.2 ?_; intro v3c w3c hown3c hgr3c hat3c; obtain ⟨A3c, c3c, rfl, hcc3c⟩ := hown3c.slice; have S3c := (S2c.bl ((Bl.refl _).alloc (.cells #[.int .i64 (ndNum b 65535 (ndText b 40 p 0).2.1 (ndText b 40 p 0).2.2).1] 3))).kids (x := (ndNum b 65535 (ndText b 40 p 0).2.1 (ndText b 40 p 0).2.2).1) hown3c hgr3c; have hN3c := ((S2c.bl ((Bl.refl _).alloc (.cells #[.int .i64 (ndNum b 65535 (ndText b 40 p 0).2.1 (ndText b 40 p 0).2.2).1] 3))).grow hgr3c (S2c.bl ((Bl.refl _).alloc (.cells #[.int .i64 (ndNum b 65535 (ndText b 40 p 0).2.1 (ndText b 40 p 0).2.2).1] 3))).aI.ge 3 (.int .i64 0)).2.2.1; have g3c : w3c.cell? ⟨gN, 3, none⟩ = some I := hN3c.cell 3 rfl; have f3c := hN3c.free 3))
                all_goals
                  go_wp2_with fail
                  go_roundw
                  case rel =>
                    refine ⟨j + 1, _, _, _, _, _, _, _, _, by go_num, by omega, S3c, ⟨F3.2.2.1, F3.2.2.2⟩, by simp; omega, by omega, by simp; omega, ?_⟩
                    show _ = _
                    rw [← HN.out, show n - (j + 1) + 1 = n - j by omega]; exact HQ.out
                  case measure => simp [intOf]; omega
              · have b2 : (k == 2) = false := by simpa using h2
                have HN := Lib.hid (ndGoes_vals k h2 b (n - (j + 1)) p ks vs is)
                have F3 := ndText_facts b 40 (ndText b 40 p 0).2.1 (ndText b 40 p 0).2.2 (by omega) (by omega)
                clear h2
                go_wp2_with fail
                go_region_law (first
                  | (go_simp; go_at_call 82; refine (nd_text gE gB gA A c b (ndText b 40 p 0).2.1 (ndText b 40 p 0).2.2 40 wc.drew hb hbc HPd (by omega) (HR.out.bl HSE.out.wb) HSE.out.cap).mono ?_; rintro z w2d ⟨rfl, hcap2d, hch2d⟩; have S2d := HSE.out.call hcap2d hch2d; have dd : w2d.cell? ⟨gN, 2, none⟩ = some V := S2d.oN.cell 2 rfl; have ed : (w2d.alloc (.cells #[.string (⟨(ndText b 40 (ndText b 40 p 0).2.1 (ndText b 40 p 0).2.2).1.toArray⟩ : ByteArray)] 9)).cell? ⟨gN, 2, none⟩ = some V := (S2d.bl ((Bl.refl _).alloc (.cells #[.string (⟨(ndText b 40 (ndText b 40 p 0).2.1 (ndText b 40 p 0).2.2).1.toArray⟩ : ByteArray)] 9))).oN.cell 2 rfl)
                  | (refine step_row rfl _ _ 49 9 (.string .empty) 1 16 (by rfl) Try.underlying49 Try.infoStr rfl (by decide) base (S2d.bl ((Bl.refl _).alloc (.cells #[.string (⟨(ndText b 40 (ndText b 40 p 0).2.1 (ndText b 40 p 0).2.2).1.toArray⟩ : ByteArray)] 9))).aV (by rfl) (by rfl) (put_one_rd w2d 9 (.string (⟨(ndText b 40 (ndText b 40 p 0).2.1 (ndText b 40 p 0).2.2).1.toArray⟩ : ByteArray))) (by simp) (by intro u hu; simp at hu; subst hu; rfl) (by omega) (by omega) (S2d.bl ((Bl.refl _).alloc (.cells #[.string (⟨(ndText b 40 (ndText b 40 p 0).2.1 (ndText b 40 p 0).2.2).1.toArray⟩ : ByteArray)] 9))).ord.2.2.2.2.2 ?_; intro v3d w3d hown3d hgr3d hat3d; obtain ⟨A3d, c3d, rfl, hcc3d⟩ := hown3d.slice; have S3d := (S2d.bl ((Bl.refl _).alloc (.cells #[.string (⟨(ndText b 40 (ndText b 40 p 0).2.1 (ndText b 40 p 0).2.2).1.toArray⟩ : ByteArray)] 9))).vals (x := (⟨(ndText b 40 (ndText b 40 p 0).2.1 (ndText b 40 p 0).2.2).1.toArray⟩ : ByteArray)) hown3d hgr3d hat3d; have hN3d := ((S2d.bl ((Bl.refl _).alloc (.cells #[.string (⟨(ndText b 40 (ndText b 40 p 0).2.1 (ndText b 40 p 0).2.2).1.toArray⟩ : ByteArray)] 9))).grow hgr3d (S2d.bl ((Bl.refl _).alloc (.cells #[.string (⟨(ndText b 40 (ndText b 40 p 0).2.1 (ndText b 40 p 0).2.2).1.toArray⟩ : ByteArray)] 9))).aV.ge 2 (.int .i64 0)).2.2.1; have g3d : w3d.cell? ⟨gN, 2, none⟩ = some V := hN3d.cell 2 rfl; have f3d := hN3d.free 2))
                all_goals
                  go_wp2_with fail
                  go_roundw
                  case rel =>
                    refine ⟨j + 1, _, _, _, _, _, _, _, _, by go_num, by omega, S3d, ⟨F3.2.1, F3.2.2⟩, by simp; omega, by simp; omega, by omega, ?_⟩
                    show _ = _
                    rw [← HN.out, show n - (j + 1) + 1 = n - j by omega]; exact HQ.out
                  case measure => simp [intOf]; omega
          · have d0 := HS.out.oR.cell 0 rfl
            have d1 := HS.out.oR.cell 1 rfl
            have d2 := HS.out.oR.cell 2 rfl
            have d3 := HS.out.oR.cell 3 rfl
            have f0 := HS.out.oR.free 0
            have f1 := HS.out.oR.free 1
            have f2 := HS.out.oR.free 2
            have f3 := HS.out.oR.free 3
            simp only [List.getElem_toArray, List.getElem_cons_zero, List.getElem_cons_succ] at d0 d1 d2 d3
            have HOR := HS.out.ord
            by_cases he : e = 0
            · subst he
              obtain rfl : j = n := by omega
              have HE := Lib.hid (show nodeEnd k b p ks vs is = nodeGet k b by rw [← HQ.out, Nat.sub_self]; unfold ndGoes; rw [if_neg (by simp)]; rfl)
              have cA : v.cell? ⟨gA, 0, none⟩ = some (.int .i64 p) := HS.out.cap.oA.cell 0 rfl
              have cB : v.cell? ⟨gB, 0, none⟩ = some (.slice A b.length c) := HS.out.cap.oB.cell 0 rfl
              clear HQ hgo
              by_cases hpl : p = b.length
              · have b2 : (p != (b.length : Int)) = false := by simpa using hpl
                obtain ⟨A1, c1, B1, e1', I1, ci1, rfl, rfl, rfl⟩ := node_out k ks vs is K V I HS.out
                obtain ⟨m0, m1, m2, m3, _⟩ := Ob.all4 HS.out.oN
                have hm := node_May k A1 B1 I1 ks vs is c1 e1' ci1 v (by omega) (by omega) (by omega) HS.out.aK.rd.1 HS.out.aV.rd.1 HS.out.aI.rd.1
                cases hr : nodeRight k ks vs is 6 6
                · have HP := Lib.hid (show nodeGet k b = nodeNo 5 by rw [← HE.out]; unfold nodeEnd; rw [if_pos (.inr hr)])
                  rw [hr] at hm
                  have HM := Lib.hid hm
                  clear hm hr hpl
                  go_wp2_with (first
                    | (go_at_call 36; go_must (refine HM.out.mono ?_); rintro z w4 ⟨rfl, hbl4⟩; have HS4 := Lib.hid (HS.out.bl hbl4); obtain ⟨q0, q1, q2, q3, g0, g1, g2, g3⟩ := Ob.all4 HS4.out.oR))
                  refine bodyPost_ret (v := .tuple #[nodeV 0 none 0 0 none 0 0 none 0 0, .int .i64 5]) (results_ct rfl _ _ (HS4.out.oR.set4 _ _ _ _).1 rfl rfl Try.underlying52 rfl Try.sizeNode) rfl ?_
                  exact RetNode.no HP.out ((HS4.out.wb.ch [gR]).same (HS4.out.oR.set4 _ _ _ _).2 |>.bl (by have := HS.out.w0b; simp; omega))
                · have HP := Lib.hid (show nodeGet k b = ⟨k, ks, vs, is, 0⟩ by rw [← HE.out]; unfold nodeEnd; rw [if_neg (by rw [hr]; simp; omega)])
                  rw [hr] at hm
                  have HM := Lib.hid hm
                  clear hm hr hpl
                  go_wp2_with (first
                    | (go_at_call 36; go_must (refine HM.out.mono ?_); rintro z w4 ⟨rfl, hbl4⟩; have HS4 := Lib.hid (HS.out.bl hbl4); obtain ⟨q0, q1, q2, q3, g0, g1, g2, g3⟩ := Ob.all4 HS4.out.oR; clear m0 m1 m2 m3; obtain ⟨m0, m1, m2, m3, _⟩ := Ob.all4 HS4.out.oN))
                  refine bodyPost_ret (v := .tuple #[nodeV k A1 ks.length c1 B1 vs.length e1' I1 is.length ci1, .int .i64 0]) (results_ct rfl _ _ (HS4.out.oR.set4 _ _ _ _).1 rfl rfl Try.underlying52 rfl Try.sizeNode) rfl ?_
                  unfold RetNode
                  rw [HP.out]
                  have hch := (HS4.out.oR.set4 (.int .u8 k) (.slice A1 ks.length c1) (.slice B1 vs.length e1') (.slice I1 is.length ci1)).2
                  have hw0 := HS.out.w0b
                  have key : ∀ {T : TypeId} {v : Value} {m : Nat} {cs : List Value}, App w4 base T 1 v m cs → App _ w.heap.size T 1 v m cs := fun a => (a.ch hch (fun g hg e => by have := a.ge g e; simp at hg; omega)).mono (by omega)
                  exact ⟨A1, c1, B1, e1', I1, ci1, rfl, key HS4.out.aK, key HS4.out.aV, key HS4.out.aI, (HS4.out.wb.ch [gR]).same hch |>.bl (by simp; omega)⟩
              · have b2 : (p != (b.length : Int)) = true := by simpa using hpl
                have HP := Lib.hid (show nodeGet k b = nodeNo 5 by rw [← HE.out]; unfold nodeEnd; rw [if_pos (.inl hpl)])
                clear hpl
                go_wp2_with fail
                refine bodyPost_ret (v := .tuple #[nodeV 0 none 0 0 none 0 0 none 0 0, .int .i64 5]) (results_ct rfl _ _ (HS.out.oR.set4 _ _ _ _).1 rfl rfl Try.underlying52 rfl Try.sizeNode) rfl ?_
                exact RetNode.no HP.out ((HS.out.wb.ch [gR]).same (HS.out.oR.set4 _ _ _ _).2 |>.bl (by have := HS.out.w0b; simp; omega))
            · have HP := Lib.hid (show nodeGet k b = nodeNo e by rw [← HQ.out]; unfold ndGoes; rw [if_pos he])
              have b2 : (e != 0) = true := by simpa using he
              have b3 : (e == 0) = false := by simpa using he
              clear he hgo HQ
              by_cases hlt : j < n
              all_goals
                go_wp2_with fail
                go_region
                go_wp2_with fail
                refine bodyPost_ret (v := .tuple #[nodeV 0 none 0 0 none 0 0 none 0 0, .int .i64 e]) (results_ct rfl _ _ (Ob.bl (HS.out.oR.set4 _ _ _ _).1 (Bl.refl _).drew) rfl rfl Try.underlying52 rfl Try.sizeNode) rfl ?_
                exact RetNode.no HP.out (Bl.drew ((HS.out.wb.ch [gR]).same (HS.out.oR.set4 _ _ _ _).2 |>.bl (by have := HS.out.w0b; simp; omega)))
  · have HP := Lib.hid (show nodeGet k b = nodeNo 2 by unfold nodeGet; rw [if_pos (by omega)])
    have b1 : (k != 1) = true := by simp; omega
    have b2 : (k != 2) = true := by simp; omega
    clear hkind
    go_enter Try.func38, Try.ntmps38
    go_wp2_with fail
    have hob : Ob ((w.alloc (.cells #[.slice A b.length c] 24)).alloc (.cells #[.int .u8 0, .slice none 0 0, .slice none 0 0, .slice none 0 0] 52)) (w.heap.size + 1) 52 #[.int .u8 0, .slice none 0 0, .slice none 0 0, .slice none 0 0] := by
      have := Ob.new (w.alloc (.cells #[.slice A b.length c] 24)) #[.int .u8 0, .slice none 0 0, .slice none 0 0, .slice none 0 0] 52
      simpa using this
    refine bodyPost_ret (v := .tuple #[nodeV 0 none 0 0 none 0 0 none 0 0, .int .i64 2]) (results_ct rfl _ _ hob rfl rfl Try.underlying52 rfl Try.sizeNode) rfl ?_
    exact RetNode.no HP.out (((Bl.refl w).alloc _).alloc _)
end Go.Proofs.Ytedmamchfgkkfaa
/- The reference of layer 18 (node): Get's state. -/
set_option linter.unusedVariables false
set_option linter.unusedSimpArgs false
namespace Go.Proofs.Ytedmamchfgkkfaa
open Go.RowKit
set_option maxRecDepth 100000
set_option maxHeartbeats 4000000

/-- The state of the reference's Get: the result's variable, the node's variable. -/
structure RefSt (w0 : World) (k : Int) (gR gN base : Nat) (w : World) (ks vs : List ByteArray) (is : List Int) (K V I : Value) : Prop where
  oR : Ob w gR 52 #[.int .u8 0, .slice none 0 0, .slice none 0 0, .slice none 0 0]
  oN : Ob w gN 52 #[.int .u8 k, K, V, I]
  aK : App w base 9 1 K ks.length (ks.map sv)
  aV : App w base 9 1 V vs.length (vs.map sv)
  aI : App w base 3 1 I is.length (is.map iv)
  ord : gR < gN ∧ gN < base ∧ base ≤ w.heap.size
  wb : Bl w0 w
  w0b : w0.heap.size ≤ gR
  ap : K.ownBlock = none ∨ K.ownBlock ≠ V.ownBlock
theorem ref_setup (k : Int) (w : World) : RefSt w k w.heap.size (w.heap.size + 1) (w.heap.size + 1 + 1)
      ((w.alloc (.cells #[.int .u8 0, .slice none 0 0, .slice none 0 0, .slice none 0 0] 52)).alloc (.cells #[.int .u8 k, .slice none 0 0, .slice none 0 0, .slice none 0 0] 52))
      [] [] [] (.slice none 0 0) (.slice none 0 0) (.slice none 0 0) := by
  have o1 := Ob.new w #[.int .u8 0, .slice none 0 0, .slice none 0 0, .slice none 0 0] 52
  have o2 := Ob.new (w.alloc (.cells #[.int .u8 0, .slice none 0 0, .slice none 0 0, .slice none 0 0] 52)) #[.int .u8 k, .slice none 0 0, .slice none 0 0, .slice none 0 0] 52
  exact ⟨o1.bl ((Bl.refl _).alloc _), by simpa using o2, App.nil _ _ _ _, App.nil _ _ _ _, App.nil _ _ _ _, ⟨by omega, by omega, by simp⟩, ((Bl.refl w).alloc _).alloc _, Nat.le_refl _, .inl rfl⟩
theorem RefSt.bl {w0 : World} {k : Int} {gR gN base : Nat} {w w' : World} {ks vs : List ByteArray} {is : List Int} {K V I : Value} (h : RefSt w0 k gR gN base w ks vs is K V I) (hb : Bl w w') : RefSt w0 k gR gN base w' ks vs is K V I :=
  ⟨h.oR.bl hb, h.oN.bl hb, h.aK.bl hb, h.aV.bl hb, h.aI.bl hb, ⟨h.ord.1, h.ord.2.1, Nat.le_trans h.ord.2.2 hb.size⟩, h.wb.trans hb, h.w0b, h.ap⟩
/-- What an append to one of the three leaves, and the store of it. -/
theorem RefSt.grow {w0 : World} {k : Int} {gR gN base : Nat} {w w' : World} {ks vs : List ByteArray} {is : List Int} {K V I X : Value} (h : RefSt w0 k gR gN base w ks vs is K V I) (hg : w.grownBy w' X.ownBlock) (hX : ∀ g, X.ownBlock = some g → base ≤ g) (i : Nat) (u : Value) :
    Ob (w'.setCell ⟨gN, i, none⟩ u) gR 52 #[.int .u8 0, .slice none 0 0, .slice none 0 0, .slice none 0 0] ∧ Ob w' gN 52 #[.int .u8 k, K, V, I] ∧ (gR < gN ∧ gN < base ∧ base ≤ (w'.setCell ⟨gN, i, none⟩ u).heap.size) ∧ Bl w0 (w'.setCell ⟨gN, i, none⟩ u) ∧
    (∀ {T : TypeId} {v : Value} {m : Nat} {cs : List Value}, App w base T 1 v m cs → (v.ownBlock = none ∨ v.ownBlock ≠ X.ownBlock) → App (w'.setCell ⟨gN, i, none⟩ u) base T 1 v m cs) := by
  obtain ⟨h4, h5, h6⟩ := h.ord
  have hch := Ch.grown hg
  have nin : ∀ g, g < base → g ∉ X.ownBlock.toList := fun g hlt hm => by
    simp at hm
    have := hX g hm
    omega
  have hp := Ch.put w' gN i u
  refine ⟨(h.oR.ch hch (nin _ (by omega))).ch hp (by simp; omega), h.oN.ch hch (nin _ (by omega)), ⟨h4, h5, Nat.le_trans h6 (Nat.le_trans hch.size hp.size)⟩, (h.wb.grown hg (fun q hq => by have := hX q hq; have := h.w0b; omega)).setCell (by have := h.w0b; show w0.heap.size ≤ gN; omega) u, ?_⟩
  intro T v m cs ha hne
  exact (ha.kept hg hne).ch hp (fun g hm e => by have := ha.ge g e; simp at hm; omega)
theorem RefSt.keys {w0 : World} {k : Int} {gR gN base : Nat} {w w' : World} {ks vs : List ByteArray} {is : List Int} {K V I K' : Value} {x : ByteArray} (h : RefSt w0 k gR gN base w ks vs is K V I)
    (ha : App w' base 9 1 K' (ks.length + 1) (ks.map sv ++ [sv x])) (hg : w.grownBy w' K.ownBlock) (hat : K'.ownBlock = K.ownBlock ∨ ∃ b, K'.ownBlock = some b ∧ w.heap.size ≤ b) : RefSt w0 k gR gN base (w'.setCell ⟨gN, 1, none⟩ K') (ks ++ [x]) vs is K' V I := by
  obtain ⟨r2, r3, r4, rb, r5⟩ := h.grow hg h.aK.ge 1 K'
  refine ⟨r2, by have := r3.set 1 K'; simpa using this, ?_, r5 h.aV (ne_swap h.ap), r5 h.aI (ne_swap (app_ne h.aK h.aI (by decide))), r4, rb, h.w0b, ?_⟩
  · have := ha.ch (Ch.put w' gN 1 K') (fun g hm e => by have := ha.ge g e; have := r4; simp at hm; omega)
    simpa using this
  · rcases hat with e1 | ⟨bb, e1, hbb⟩
    · rw [e1]; exact h.ap
    · right; rw [e1]; intro e2; have := (h.aV.lt _ e2.symm).2; omega
theorem RefSt.vals {w0 : World} {k : Int} {gR gN base : Nat} {w w' : World} {ks vs : List ByteArray} {is : List Int} {K V I V' : Value} {x : ByteArray} (h : RefSt w0 k gR gN base w ks vs is K V I)
    (ha : App w' base 9 1 V' (vs.length + 1) (vs.map sv ++ [sv x])) (hg : w.grownBy w' V.ownBlock) (hat : V'.ownBlock = V.ownBlock ∨ ∃ b, V'.ownBlock = some b ∧ w.heap.size ≤ b) : RefSt w0 k gR gN base (w'.setCell ⟨gN, 2, none⟩ V') ks (vs ++ [x]) is K V' I := by
  obtain ⟨r2, r3, r4, rb, r5⟩ := h.grow hg h.aV.ge 2 V'
  refine ⟨r2, by have := r3.set 2 V'; simpa using this, r5 h.aK h.ap, ?_, r5 h.aI (ne_swap (app_ne h.aV h.aI (by decide))), r4, rb, h.w0b, ?_⟩
  · have := ha.ch (Ch.put w' gN 2 V') (fun g hm e => by have := ha.ge g e; have := r4; simp at hm; omega)
    simpa using this
  · rcases hat with e1 | ⟨bb, e1, hbb⟩
    · rw [e1]; exact h.ap
    · rcases hk : K.ownBlock with _ | g
      · exact .inl rfl
      · right; rw [e1]; intro e2; simp at e2; have := (h.aK.lt g hk).2; omega
theorem RefSt.kids {w0 : World} {k : Int} {gR gN base : Nat} {w w' : World} {ks vs : List ByteArray} {is : List Int} {K V I I' : Value} {x : Int} (h : RefSt w0 k gR gN base w ks vs is K V I)
    (ha : App w' base 3 1 I' (is.length + 1) (is.map iv ++ [iv x])) (hg : w.grownBy w' I.ownBlock) : RefSt w0 k gR gN base (w'.setCell ⟨gN, 3, none⟩ I') ks vs (is ++ [x]) K V I' := by
  obtain ⟨r2, r3, r4, rb, r5⟩ := h.grow hg h.aI.ge 3 I'
  refine ⟨r2, by have := r3.set 3 I'; simpa using this, r5 h.aK (app_ne h.aK h.aI (by decide)), r5 h.aV (app_ne h.aV h.aI (by decide)), ?_, r4, rb, h.w0b, h.ap⟩
  have := ha.ch (Ch.put w' gN 3 I') (fun g hm e => by have := ha.ge g e; have := r4; simp at hm; omega)
  simpa using this
end Go.Proofs.Ytedmamchfgkkfaa
