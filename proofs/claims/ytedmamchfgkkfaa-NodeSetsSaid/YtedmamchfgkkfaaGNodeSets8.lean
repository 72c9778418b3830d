/- Texts of the claim NodeSets, part 8: NodeL, DeedD, DeedE, DeedF, DeedG, NodeM, NodeY, NodeTa, Lib5, DeedO, NodeO. -/
import Derived.Test.YtedmamchfgkkfaaGNodeSets7
import Derived.Test.YtedmamchfgkkfaaGNodeSets3
import Derived.Lib.SlBytesConst
import Derived.Test.YtedmamchfgkkfaaGNodeSets6
import Derived.Test.YtedmamchfgkkfaaGNodeSets1
import Derived.Deep.Slices
import Derived.Deep.Fields
import Derived.ChangeSame
import Derived.SizedLaws
import Derived.Test.YtedmamchfgkkfaaGNodeSets2
/- The reference of layer 18 (node) walked: Get. -/
set_option linter.unusedVariables false
set_option linter.unusedSimpArgs false
namespace Go.Proofs.Ytedmamchfgkkfaa
open Go.RowKit
set_option maxRecDepth 100000
set_option maxHeartbeats 20000000

theorem ref_out {w0 : World} {k : Int} {ks vs : List ByteArray} {is : List Int} {K V I : Value} {gR gN base : Nat} {w : World} (h : RefSt w0 k gR gN base w ks vs is K V I) :
    ∃ A1 c1 B1 d1 I1 ci1, K = .slice A1 ks.length c1 ∧ V = .slice B1 vs.length d1 ∧ I = .slice I1 is.length ci1 := by
  obtain ⟨A1, c1, h1, _⟩ := h.aK.slice
  obtain ⟨B1, d1, h2, _⟩ := h.aV.slice
  obtain ⟨I1, ci1, h3, _⟩ := h.aI.slice
  exact ⟨A1, c1, B1, d1, I1, ci1, h1, h2, h3⟩
theorem ref_nodeGet (k : Int) (A : Option Addr) (c : Nat) (b : List UInt8) (w : World) (hb : b.length ≤ 140737488351232) (hbc : b.length ≤ c) (hr : Rd w A (b.map bv)) :
    Calls Try.prog 39 #[.int .u8 k, .slice A b.length c] w (RetNode (nodeGet k b) w) := by
  have HR := Lib.hid hr
  clear hr
  by_cases hkind : k = 1 ∨ k = 2
  · have HS0 := Lib.hid (ref_setup k w)
    have HKIND := Lib.hid hkind
    have b1 : ((k != 1) = false) ∨ ((k != 1) = true ∧ (k != 2) = false) := by rcases hkind with rfl | rfl <;> decide
    have HGET := Lib.hid (show nodeGet k b = if (lebCount b 0 6).2.2 ≠ 0 then nodeNo (lebCount b 0 6).2.2 else if k = 2 then (if (lebCount b (lebCount b 0 6).2.1 65535).2.2 ≠ 0 then nodeNo (lebCount b (lebCount b 0 6).2.1 65535).2.2 else nodeLoop k b (lebCount b 0 6).1.toNat (lebCount b (lebCount b 0 6).2.1 65535).2.1 [] [] [(lebCount b (lebCount b 0 6).2.1 65535).1]) else nodeLoop k b (lebCount b 0 6).1.toNat (lebCount b 0 6).2.1 [] [] [] by
      unfold nodeGet; rw [if_neg (by omega)])
    clear hkind
    go_enter Try.func39, Try.ntmps39
    go_upto_region 1 with (fail)
    go_cut [25] (fun s wx => s = .bool false ∧ wx = w.alloc (.cells #[.int .u8 0, .slice none 0 0, .slice none 0 0, .slice none 0 0] 52))
    case first =>
      rcases b1 with b1 | ⟨b1, b2⟩
      all_goals
        go_wp2_with fail
        go_meet
        case rel => exact ⟨rfl, rfl⟩
    case rest =>
      obtain ⟨rfl, rfl⟩ := hcut
      clear b1
      go_wp2_with (go_at_call 84; fail_if_success skip)
      generalize ((w.alloc (.cells #[.int .u8 0, .slice none 0 0, .slice none 0 0, .slice none 0 0] 52)).alloc (.cells #[.int .u8 k, .slice none 0 0, .slice none 0 0, .slice none 0 0] 52)) = u at HS0 ⊢
      generalize w.heap.size + 1 + 1 = base at HS0 ⊢
      generalize w.heap.size + 1 = gN at HS0 ⊢
      generalize w.heap.size = gR at HS0 ⊢
      rcases lebCount_or b 0 6 with ⟨e, h, hne, _⟩ | ⟨n, m, h, _, _, hn6, hmb, _⟩
      · have HP := Lib.hid (show nodeGet k b = nodeNo e by rw [HGET.out, h, if_pos hne])
        have H := Lib.hid h
        have he1 : (e != 0) = true := by simpa using hne
        clear h hne HGET
        refine (ref_Count_at A c b 0 6 _ _ _ u hb (by omega) (HR.out.bl HS0.out.wb) H.out).mono ?_
        rintro z wq ⟨rfl, n0, rfl⟩
        have HS1 := Lib.hid (HS0.out.bl ((Bl.refl _).drewN n0))
        obtain ⟨zq0, zq1, zq2, zq3, zg0, zg1, zg2, zg3⟩ := Ob.all4 HS1.out.oR
        go_wp2_with fail
        refine bodyPost_ret (v := .tuple #[nodeV 0 none 0 0 none 0 0 none 0 0, .int .i64 e]) (results_ct rfl _ _ (HS1.out.oR.set4 _ _ _ _).1 rfl rfl Try.underlying52 rfl Try.sizeNode) rfl ?_
        exact RetNode.no HP.out ((HS1.out.wb.ch [gR]).same (HS1.out.oR.set4 _ _ _ _).2 |>.bl (by have := HS1.out.w0b; simp; omega))
      · have HG1 := Lib.hid (show nodeGet k b = if k = 2 then (if (lebCount b m 65535).2.2 ≠ 0 then nodeNo (lebCount b m 65535).2.2 else nodeLoop k b n (lebCount b m 65535).2.1 [] [] [(lebCount b m 65535).1]) else nodeLoop k b n m [] [] [] by
          rw [HGET.out, h, if_neg (by simp)]; rfl)
        have H := Lib.hid h
        have hn : n ≤ 6 := by omega
        clear h HGET hn6
        refine (ref_Count_at A c b 0 6 _ _ _ u hb (by omega) (HR.out.bl HS0.out.wb) H.out).mono ?_
        rintro z wq ⟨rfl, n0, rfl⟩
        have HS1 := Lib.hid (HS0.out.bl ((Bl.refl _).drewN n0))
        clear HS0
        generalize u.drewN n0 = u1 at HS1 ⊢
        go_upto_if 40 with (fail)
        go_cut [8] (fun s wx => Hid (∃ (p : Int) (is : List Int) (K V I : Value), s = .int .i64 p ∧ RefSt w k gR gN base wx [] [] is K V I ∧ (0 ≤ p ∧ p ≤ b.length) ∧ is.length ≤ 1 ∧ nodeLoop k b n p [] [] is = nodeGet k b))
        case first =>
          by_cases h2 : k = 2
          · subst h2
            rcases lebCount_or b m 65535 with ⟨e, h, hne, _⟩ | ⟨x, q, h, _, _, hx6, hqb, _⟩
            · have HP := Lib.hid (show nodeGet 2 b = nodeNo e by rw [HG1.out, if_pos rfl, h, if_pos hne])
              have H2 := Lib.hid h
              have he1 : (e != 0) = true := by simpa using hne
              clear h hne
              go_wp2_with (first
                | (go_at_call 84; go_must (refine (ref_Count_at A c b m 65535 _ _ _ u1 hb (by omega) (HR.out.bl HS1.out.wb) H2.out).mono ?_); rintro z wqa ⟨rfl, na, rfl⟩; have HSa := Lib.hid (HS1.out.bl ((Bl.refl _).drewN na)); obtain ⟨zq0, zq1, zq2, zq3, zg0, zg1, zg2, zg3⟩ := Ob.all4 HSa.out.oR; obtain ⟨zm0, zm1, zm2, zm3, zk0, zk1, zk2, zk3⟩ := Ob.all4 HSa.out.oN))
              refine bodyPost_ret (v := .tuple #[nodeV 0 none 0 0 none 0 0 none 0 0, .int .i64 e]) (results_ct rfl _ _ (HSa.out.oR.set4 _ _ _ _).1 rfl rfl Try.underlying52 rfl Try.sizeNode) rfl ?_
              exact RetNode.no HP.out ((HSa.out.wb.ch [gR]).same (HSa.out.oR.set4 _ _ _ _).2 |>.bl (by have := HSa.out.w0b; simp; omega))
            · have HP := Lib.hid (show nodeLoop 2 b n q [] [] [(x : Int)] = nodeGet 2 b by rw [HG1.out, if_pos rfl, h, if_neg (by simp)])
              have H2 := Lib.hid h
              clear h
              go_wp2_with (first
                | (go_at_call 84; go_must (refine (ref_Count_at A c b m 65535 _ _ _ u1 hb (by omega) (HR.out.bl HS1.out.wb) H2.out).mono ?_); rintro z wqa ⟨rfl, na, rfl⟩; have HSa := Lib.hid (HS1.out.bl ((Bl.refl _).drewN na)); obtain ⟨zq0, zq1, zq2, zq3, zg0, zg1, zg2, zg3⟩ := Ob.all4 HSa.out.oR; obtain ⟨zm0, zm1, zm2, zm3, zk0, zk1, zk2, zk3⟩ := Ob.all4 HSa.out.oN)
                | (at_builtin; go_must (refine append_one rfl _ _ 50 3 (.int .i64 0) 1 8 rfl Try.underlying50 Try.infoInt rfl (by decide) base HSa.out.aI (by rfl) (by first | rfl | simp [go_sem]) (by rfl) (by intro u hu; simp at hu; subst hu; rfl) (by simp) (by simp) HSa.out.ord.2.2 ?_); intro vc wc hownc hgrc hatc; obtain ⟨Ac, cc, rfl, hccc⟩ := hownc.slice; have S3c := HSa.out.kids (x := (x : Int)) hownc hgrc; have hNc := (HSa.out.grow hgrc HSa.out.aI.ge 3 (.int .i64 0)).2.1; have gc := hNc.cell 3 rfl; simp only [List.getElem_toArray, List.getElem_cons_zero, List.getElem_cons_succ] at gc; have fc := hNc.free 3))
              go_meet
              case rel => exact ⟨q, _, _, _, _, rfl, S3c, by omega, by simp, HP.out⟩
          · have b2 : (k == 2) = false := by simpa using h2
            have HP := Lib.hid (show nodeLoop k b n m [] [] [] = nodeGet k b by rw [HG1.out, if_neg h2])
            clear h2
            go_wp2_with fail
            go_meet
            case rel => exact ⟨m, _, _, _, _, rfl, HS1.out, by omega, by simp, HP.out⟩
        case rest =>
          obtain ⟨p1, is1, K1, V1, I1, rfl, S1, hp1, hl1, hq1⟩ := hcut.out
          clear HS1
          have HS1 := Lib.hid S1
          have HQ1 := Lib.hid hq1
          clear S1 hq1 HG1 H
          go_wp2_with fail
          go_loopw [8, 13, 14, 15, 16, 17, 18, 19] (fun s8 i _ _ _ _ _ _ wr => ∃ (j : Nat) (p : Int) (ks vs : List ByteArray) (is : List Int) (K V I : Value), s8 = .int .i64 p ∧ i = .int .i64 j ∧ j ≤ n ∧ Hid (RefSt w k gR gN base wr ks vs is K V I) ∧ (0 ≤ p ∧ p ≤ b.length) ∧ ks.length ≤ j ∧ vs.length ≤ j ∧ is.length ≤ j + 1 ∧ Hid (nodeLoop k b (n - j) p ks vs is = nodeGet k b)) (fun _ i _ _ _ _ _ _ _ => n - (intOf i).toNat)
          case atStart => exact ⟨0, p1, [], [], is1, K1, V1, I1, rfl, rfl, by omega, HS1.out, hp1, by simp, by simp, by omega, HQ1.out⟩
          case round =>
            obtain ⟨j, p, ks, vs, is, K, V, I, rfl, rfl, hj, HS, hp, hks, hvs, his, HQ⟩ := hrel
            obtain ⟨v, rfl⟩ : ∃ v : World, v = wr := ⟨_, rfl⟩
            clear HS1 HQ1
            by_cases hlt : j < n
            · have HL := Lib.hid (show nodeGet k b = nodeLoop k b ((n - (j + 1)) + 1) p ks vs is by rw [← HQ.out]; congr 1; omega)
              rcases lebRow_or b p 40 with ⟨e, h, hne, _⟩ | ⟨xs, q, h, hx40, hqb, _⟩
              · have HP := Lib.hid (show nodeGet k b = nodeNo e by rw [HL.out, nodeLoop, h, if_pos hne])
                have H2 := Lib.hid h
                have he1 : (e != 0) = true := by simpa using hne
                clear h hne
                go_wp2_with (first
                  | (go_at_call 66; go_must (refine (ref_GetRow A c b p 40 v hb hbc (by omega) (HR.out.bl HS.out.wb)).mono ?_); rw [H2.out]; rintro z wqa ⟨vqa, rfl, hqa, hbla⟩; obtain ⟨Aqa, cqa, rfl, _⟩ := hqa.slice; have HSa := Lib.hid (HS.out.bl hbla); obtain ⟨zq0, zq1, zq2, zq3, zg0, zg1, zg2, zg3⟩ := Ob.all4 HSa.out.oR; obtain ⟨zm0, zm1, zm2, zm3, zk0, zk1, zk2, zk3⟩ := Ob.all4 HSa.out.oN))
                refine bodyPost_ret (v := .tuple #[nodeV 0 none 0 0 none 0 0 none 0 0, .int .i64 e]) (results_ct rfl _ _ (HSa.out.oR.set4 _ _ _ _).1 rfl rfl Try.underlying52 rfl Try.sizeNode) rfl ?_
                exact RetNode.no HP.out ((HSa.out.wb.ch [gR]).same (HSa.out.oR.set4 _ _ _ _).2 |>.bl (by have := HSa.out.w0b; simp; omega))
              · have HL2 := Lib.hid (show nodeGet k b = if k = 2 then (if (lebCount b q 65535).2.2 ≠ 0 then nodeNo (lebCount b q 65535).2.2 else nodeLoop k b (n - (j + 1)) (lebCount b q 65535).2.1 (ks ++ [⟨xs.toArray⟩]) vs (is ++ [(lebCount b q 65535).1])) else (if (lebRow b q 40).2.2 ≠ 0 then nodeNo (lebRow b q 40).2.2 else nodeLoop k b (n - (j + 1)) (lebRow b q 40).2.1 (ks ++ [⟨xs.toArray⟩]) (vs ++ [⟨(lebRow b q 40).1.toArray⟩]) is) by
                  rw [HL.out, nodeLoop, h, if_neg (by simp)])
                have H2 := Lib.hid h
                clear h HL HQ
                by_cases h2 : k = 2
                · subst h2
                  rcases lebCount_or b q 65535 with ⟨e, h, hne, _⟩ | ⟨x, q2, h, _, _, hx6, hqb2, _⟩
                  · have HP := Lib.hid (show nodeGet 2 b = nodeNo e by rw [HL2.out, if_pos rfl, h, if_pos hne])
                    have H3 := Lib.hid h
                    have he1 : (e != 0) = true := by simpa using hne
                    clear h hne
                    go_wp2_with (first
                      | (go_at_call 66; go_must (refine (ref_GetRow A c b p 40 v hb hbc (by omega) (HR.out.bl HS.out.wb)).mono ?_); rw [H2.out]; rintro z wqa ⟨vqa, rfl, hqa, hbla⟩; obtain ⟨Aqa, cqa, rfl, _⟩ := hqa.slice; have HSa := Lib.hid (HS.out.bl hbla); obtain ⟨zq0, zq1, zq2, zq3, zg0, zg1, zg2, zg3⟩ := Ob.all4 HSa.out.oR; obtain ⟨zm0, zm1, zm2, zm3, zk0, zk1, zk2, zk3⟩ := Ob.all4 HSa.out.oN)
                      | (refine conv_step rfl 24 9 5 _ (by rfl) Try.underlying24 Try.underlying5 Try.underlying9 (by rfl) rfl hqa.rd.1 ?_)
                      | (at_builtin; go_must (refine append_one rfl _ _ 49 9 (.string .empty) 1 16 rfl Try.underlying49 Try.infoStr rfl (by decide) base HSa.out.aK (by rfl) (by first | rfl | simp [go_sem]) (by rfl) (by intro u hu; simp at hu; subst hu; rfl) (by omega) (by omega) HSa.out.ord.2.2 ?_); intro vb wb hownb hgrb hatb; obtain ⟨Ab, cb, rfl, hccb⟩ := hownb.slice; have S3b := HSa.out.keys (x := ⟨xs.toArray⟩) hownb hgrb hatb; have hNb := (HSa.out.grow hgrb HSa.out.aK.ge 1 (.int .i64 0)).2.1; have gb := hNb.cell 1 rfl; simp only [List.getElem_toArray, List.getElem_cons_zero, List.getElem_cons_succ] at gb; have fb := hNb.free 1; have HSb := Lib.hid S3b)
                      | (go_at_call 84; go_must (refine (ref_Count_at A c b q 65535 _ _ _ _ hb (by omega) (HR.out.bl HSb.out.wb) H3.out).mono ?_); rintro z wqc ⟨rfl, nc, rfl⟩; have HSc := Lib.hid (HSb.out.bl ((Bl.refl _).drewN nc)); obtain ⟨zq0, zq1, zq2, zq3, zg0, zg1, zg2, zg3⟩ := Ob.all4 HSc.out.oR; obtain ⟨zm0, zm1, zm2, zm3, zk0, zk1, zk2, zk3⟩ := Ob.all4 HSc.out.oN))
                    refine bodyPost_ret (v := .tuple #[nodeV 0 none 0 0 none 0 0 none 0 0, .int .i64 e]) (results_ct rfl _ _ (HSc.out.oR.set4 _ _ _ _).1 rfl rfl Try.underlying52 rfl Try.sizeNode) rfl ?_
                    exact RetNode.no HP.out ((HSc.out.wb.ch [gR]).same (HSc.out.oR.set4 _ _ _ _).2 |>.bl (by have := HSc.out.w0b; simp; omega))
                  · have HP := Lib.hid (show nodeLoop 2 b (n - (j + 1)) q2 (ks ++ [⟨xs.toArray⟩]) vs (is ++ [(x : Int)]) = nodeGet 2 b by rw [HL2.out, if_pos rfl, h, if_neg (by simp)])
                    have H3 := Lib.hid h
                    clear h
                    go_wp2_with (first
                      | (go_at_call 66; go_must (refine (ref_GetRow A c b p 40 v hb hbc (by omega) (HR.out.bl HS.out.wb)).mono ?_); rw [H2.out]; rintro z wqa ⟨vqa, rfl, hqa, hbla⟩; obtain ⟨Aqa, cqa, rfl, _⟩ := hqa.slice; have HSa := Lib.hid (HS.out.bl hbla); obtain ⟨zq0, zq1, zq2, zq3, zg0, zg1, zg2, zg3⟩ := Ob.all4 HSa.out.oR; obtain ⟨zm0, zm1, zm2, zm3, zk0, zk1, zk2, zk3⟩ := Ob.all4 HSa.out.oN)
                      | (refine conv_step rfl 24 9 5 _ (by rfl) Try.underlying24 Try.underlying5 Try.underlying9 (by rfl) rfl hqa.rd.1 ?_)
                      | (at_builtin; (refine append_one rfl _ _ 49 9 (.string .empty) 1 16 rfl Try.underlying49 Try.infoStr rfl (by decide) base HSa.out.aK (by rfl) (by first | rfl | simp [go_sem]) (by rfl) (by intro u hu; simp at hu; subst hu; rfl) (by omega) (by omega) HSa.out.ord.2.2 ?_); intro vb wb hownb hgrb hatb; obtain ⟨Ab, cb, rfl, hccb⟩ := hownb.slice; have S3b := HSa.out.keys (x := ⟨xs.toArray⟩) hownb hgrb hatb; have hNb := (HSa.out.grow hgrb HSa.out.aK.ge 1 (.int .i64 0)).2.1; have gb := hNb.cell 1 rfl; simp only [List.getElem_toArray, List.getElem_cons_zero, List.getElem_cons_succ] at gb; have fb := hNb.free 1; have HSb := Lib.hid S3b)
                      | (go_at_call 84; go_must (refine (ref_Count_at A c b q 65535 _ _ _ _ hb (by omega) (HR.out.bl HSb.out.wb) H3.out).mono ?_); rintro z wqc ⟨rfl, nc, rfl⟩; have HSc := Lib.hid (HSb.out.bl ((Bl.refl _).drewN nc)); obtain ⟨zq0, zq1, zq2, zq3, zg0, zg1, zg2, zg3⟩ := Ob.all4 HSc.out.oR; obtain ⟨zm0, zm1, zm2, zm3, zk0, zk1, zk2, zk3⟩ := Ob.all4 HSc.out.oN)
                      | (at_builtin; (refine append_one rfl _ _ 50 3 (.int .i64 0) 1 8 rfl Try.underlying50 Try.infoInt rfl (by decide) base HSc.out.aI (by rfl) (by first | rfl | simp [go_sem]) (by rfl) (by intro u hu; simp at hu; subst hu; rfl) (by omega) (by omega) HSc.out.ord.2.2 ?_); intro vd wd hownd hgrd hatd; obtain ⟨Ad, cd, rfl, hccd⟩ := hownd.slice; have S3d := HSc.out.kids (x := (x : Int)) hownd hgrd; have hNd := (HSc.out.grow hgrd HSc.out.aI.ge 3 (.int .i64 0)).2.1; have gd := hNd.cell 3 rfl; simp only [List.getElem_toArray, List.getElem_cons_zero, List.getElem_cons_succ] at gd; have fd := hNd.free 3))
                    go_roundw
                    case rel => exact ⟨j + 1, q2, _, _, _, _, _, _, rfl, by go_num, by omega, S3d, by omega, by simp; omega, by omega, by simp; omega, HP.out⟩
                    case measure => simp [intOf]; omega
                · have b2 : (k == 2) = false := by simpa using h2
                  rcases lebRow_or b q 40 with ⟨e, h, hne, _⟩ | ⟨ys, q2, h, hy40, hqb2, _⟩
                  · have HP := Lib.hid (show nodeGet k b = nodeNo e by rw [HL2.out, if_neg h2, h, if_pos hne])
                    have H3 := Lib.hid h
                    have he1 : (e != 0) = true := by simpa using hne
                    clear h hne h2
                    go_wp2_with (first
                      | (go_at_call 66; (with_reducible refine (ref_GetRow A c b p 40 v hb hbc (by omega) (HR.out.bl HS.out.wb)).mono ?_); rw [H2.out]; rintro z wqa ⟨vqa, rfl, hqa, hbla⟩; obtain ⟨Aqa, cqa, rfl, _⟩ := hqa.slice; have HSa := Lib.hid (HS.out.bl hbla); obtain ⟨zq0, zq1, zq2, zq3, zg0, zg1, zg2, zg3⟩ := Ob.all4 HSa.out.oR; obtain ⟨zm0, zm1, zm2, zm3, zk0, zk1, zk2, zk3⟩ := Ob.all4 HSa.out.oN)
                      | (refine conv_step rfl 24 9 5 _ (by rfl) Try.underlying24 Try.underlying5 Try.underlying9 (by rfl) rfl hqa.rd.1 ?_)
                      | (at_builtin; go_must (refine append_one rfl _ _ 49 9 (.string .empty) 1 16 rfl Try.underlying49 Try.infoStr rfl (by decide) base HSa.out.aK (by rfl) (by first | rfl | simp [go_sem]) (by rfl) (by intro u hu; simp at hu; subst hu; rfl) (by omega) (by omega) HSa.out.ord.2.2 ?_); intro vb wb hownb hgrb hatb; obtain ⟨Ab, cb, rfl, hccb⟩ := hownb.slice; have S3b := HSa.out.keys (x := ⟨xs.toArray⟩) hownb hgrb hatb; have hNb := (HSa.out.grow hgrb HSa.out.aK.ge 1 (.int .i64 0)).2.1; have gb := hNb.cell 1 rfl; simp only [List.getElem_toArray, List.getElem_cons_zero, List.getElem_cons_succ] at gb; have fb := hNb.free 1; have HSb := Lib.hid S3b)
                      | (go_at_call 66; (with_reducible refine (ref_GetRow A c b q 40 _ hb hbc (by omega) (HR.out.bl HSb.out.wb)).mono ?_); rw [H3.out]; rintro z wqc ⟨vqc, rfl, hqc, hblc⟩; obtain ⟨Aqc, cqc, rfl, _⟩ := hqc.slice; have HSc := Lib.hid (HSb.out.bl hblc); obtain ⟨zq0, zq1, zq2, zq3, zg0, zg1, zg2, zg3⟩ := Ob.all4 HSc.out.oR; obtain ⟨zm0, zm1, zm2, zm3, zk0, zk1, zk2, zk3⟩ := Ob.all4 HSc.out.oN))
                    refine bodyPost_ret (v := .tuple #[nodeV 0 none 0 0 none 0 0 none 0 0, .int .i64 e]) (results_ct rfl _ _ (HSc.out.oR.set4 _ _ _ _).1 rfl rfl Try.underlying52 rfl Try.sizeNode) rfl ?_
                    exact RetNode.no HP.out ((HSc.out.wb.ch [gR]).same (HSc.out.oR.set4 _ _ _ _).2 |>.bl (by have := HSc.out.w0b; simp; omega))
                  · have HP := Lib.hid (show nodeLoop k b (n - (j + 1)) q2 (ks ++ [⟨xs.toArray⟩]) (vs ++ [⟨ys.toArray⟩]) is = nodeGet k b by rw [HL2.out, if_neg h2, h, if_neg (by simp)])
                    have H3 := Lib.hid h
                    clear h h2
                    go_wp2_with (first
                      | (go_at_call 66; (with_reducible refine (ref_GetRow A c b p 40 v hb hbc (by omega) (HR.out.bl HS.out.wb)).mono ?_); rw [H2.out]; rintro z wqa ⟨vqa, rfl, hqa, hbla⟩; obtain ⟨Aqa, cqa, rfl, _⟩ := hqa.slice; have HSa := Lib.hid (HS.out.bl hbla); obtain ⟨zq0, zq1, zq2, zq3, zg0, zg1, zg2, zg3⟩ := Ob.all4 HSa.out.oR; obtain ⟨zm0, zm1, zm2, zm3, zk0, zk1, zk2, zk3⟩ := Ob.all4 HSa.out.oN)
                      | (refine conv_step rfl 24 9 5 _ (by rfl) Try.underlying24 Try.underlying5 Try.underlying9 (by rfl) rfl hqa.rd.1 ?_)
                      | (at_builtin; (refine append_one rfl _ _ 49 9 (.string .empty) 1 16 rfl Try.underlying49 Try.infoStr rfl (by decide) base HSa.out.aK (by rfl) (by first | rfl | simp [go_sem]) (by rfl) (by intro u hu; simp at hu; subst hu; rfl) (by omega) (by omega) HSa.out.ord.2.2 ?_); intro vb wb hownb hgrb hatb; obtain ⟨Ab, cb, rfl, hccb⟩ := hownb.slice; have S3b := HSa.out.keys (x := ⟨xs.toArray⟩) hownb hgrb hatb; have hNb := (HSa.out.grow hgrb HSa.out.aK.ge 1 (.int .i64 0)).2.1; have gb := hNb.cell 1 rfl; simp only [List.getElem_toArray, List.getElem_cons_zero, List.getElem_cons_succ] at gb; have fb := hNb.free 1; have HSb := Lib.hid S3b)
                      | (go_at_call 66; (with_reducible refine (ref_GetRow A c b q 40 _ hb hbc (by omega) (HR.out.bl HSb.out.wb)).mono ?_); rw [H3.out]; rintro z wqc ⟨vqc, rfl, hqc, hblc⟩; obtain ⟨Aqc, cqc, rfl, _⟩ := hqc.slice; have HSc := Lib.hid (HSb.out.bl hblc); obtain ⟨zq0, zq1, zq2, zq3, zg0, zg1, zg2, zg3⟩ := Ob.all4 HSc.out.oR; obtain ⟨zm0, zm1, zm2, zm3, zk0, zk1, zk2, zk3⟩ := Ob.all4 HSc.out.oN)
                      | (refine conv_step rfl 24 9 5 _ (by rfl) Try.underlying24 Try.underlying5 Try.underlying9 (by rfl) rfl hqc.rd.1 ?_)
                      | (at_builtin; (refine append_one rfl _ _ 49 9 (.string .empty) 1 16 rfl Try.underlying49 Try.infoStr rfl (by decide) base HSc.out.aV (by rfl) (by first | rfl | simp [go_sem]) (by rfl) (by intro u hu; simp at hu; subst hu; rfl) (by omega) (by omega) HSc.out.ord.2.2 ?_); intro vd wd hownd hgrd hatd; obtain ⟨Ad, cd, rfl, hccd⟩ := hownd.slice; have S3d := HSc.out.vals (x := ⟨ys.toArray⟩) hownd hgrd hatd; have hNd := (HSc.out.grow hgrd HSc.out.aV.ge 2 (.int .i64 0)).2.1; have gd := hNd.cell 2 rfl; simp only [List.getElem_toArray, List.getElem_cons_zero, List.getElem_cons_succ] at gd; have fd := hNd.free 2))
                    go_roundw
                    case rel => exact ⟨j + 1, q2, _, _, _, _, _, _, rfl, by go_num, by omega, S3d, by omega, by simp; omega, by simp; omega, by omega, HP.out⟩
                    case measure => simp [intOf]; omega
            · obtain rfl : j = n := by omega
              obtain ⟨d0, d1, d2, d3, f0, f1, f2, f3⟩ := Ob.all4 HS.out.oR
              have HE := Lib.hid (show nodeEnd k b p ks vs is = nodeGet k b by rw [← HQ.out, Nat.sub_self]; rfl)
              have HOR := HS.out.ord
              clear HQ
              by_cases hpl : p = b.length
              · have b2 : (p != (b.length : Int)) = false := by simpa using hpl
                obtain ⟨A1, c1, B1, e1', I1, ci1, rfl, rfl, rfl⟩ := ref_out HS.out
                obtain ⟨m0, m1, m2, m3, _⟩ := Ob.all4 HS.out.oN
                have hm := ref_nodeMay k A1 B1 I1 ks vs is c1 e1' ci1 v (by omega) (by omega) (by omega) HS.out.aK.rd.1 HS.out.aV.rd.1 HS.out.aI.rd.1
                cases hr : nodeRight k ks vs is 6 6
                · have HP := Lib.hid (show nodeGet k b = nodeNo 5 by rw [← HE.out]; unfold nodeEnd; rw [if_pos (.inr hr)])
                  rw [hr] at hm
                  have HM := Lib.hid hm
                  clear hm hr hpl
                  go_wp2_with (first
                    | (go_at_call 37; go_must (refine HM.out.mono ?_); rintro z w4 ⟨rfl, hbl4⟩; have HS4 := Lib.hid (HS.out.bl hbl4); obtain ⟨zq0, zq1, zq2, zq3, zg0, zg1, zg2, zg3⟩ := Ob.all4 HS4.out.oR))
                  refine bodyPost_ret (v := .tuple #[nodeV 0 none 0 0 none 0 0 none 0 0, .int .i64 5]) (results_ct rfl _ _ (HS4.out.oR.set4 _ _ _ _).1 rfl rfl Try.underlying52 rfl Try.sizeNode) rfl ?_
                  exact RetNode.no HP.out ((HS4.out.wb.ch [gR]).same (HS4.out.oR.set4 _ _ _ _).2 |>.bl (by have := HS4.out.w0b; simp; omega))
                · have HP := Lib.hid (show nodeGet k b = ⟨k, ks, vs, is, 0⟩ by rw [← HE.out]; unfold nodeEnd; rw [if_neg (by rw [hr]; simp; omega)])
                  rw [hr] at hm
                  have HM := Lib.hid hm
                  clear hm hr hpl
                  go_wp2_with (first
                    | (go_at_call 37; go_must (refine HM.out.mono ?_); rintro z w4 ⟨rfl, hbl4⟩; have HS4 := Lib.hid (HS.out.bl hbl4); obtain ⟨zq0, zq1, zq2, zq3, zg0, zg1, zg2, zg3⟩ := Ob.all4 HS4.out.oR; clear m0 m1 m2 m3; obtain ⟨m0, m1, m2, m3, _⟩ := Ob.all4 HS4.out.oN))
                  refine bodyPost_ret (v := .tuple #[nodeV k A1 ks.length c1 B1 vs.length e1' I1 is.length ci1, .int .i64 0]) (results_ct rfl _ _ (HS4.out.oR.set4 _ _ _ _).1 rfl rfl Try.underlying52 rfl Try.sizeNode) rfl ?_
                  unfold RetNode
                  rw [HP.out]
                  have hch := (HS4.out.oR.set4 (.int .u8 k) (.slice A1 ks.length c1) (.slice B1 vs.length e1') (.slice I1 is.length ci1)).2
                  have hw0 := HS.out.w0b
                  have key : ∀ {T : TypeId} {v : Value} {m : Nat} {cs : List Value}, App w4 base T 1 v m cs → App _ w.heap.size T 1 v m cs := fun a => (a.ch hch (fun g hg e => by have := a.ge g e; simp at hg; omega)).mono (by omega)
                  exact ⟨A1, c1, B1, e1', I1, ci1, rfl, key HS4.out.aK, key HS4.out.aV, key HS4.out.aI, (HS4.out.wb.ch [gR]).same hch |>.bl (by simp; omega)⟩
              · have b2 : (p != (b.length : Int)) = true := by simpa using hpl
                have HP := Lib.hid (show nodeGet k b = nodeNo 5 by rw [← HE.out]; unfold nodeEnd; rw [if_pos (.inl hpl)])
                clear hpl
                go_wp2_with fail
                refine bodyPost_ret (v := .tuple #[nodeV 0 none 0 0 none 0 0 none 0 0, .int .i64 5]) (results_ct rfl _ _ (HS.out.oR.set4 _ _ _ _).1 rfl rfl Try.underlying52 rfl Try.sizeNode) rfl ?_
                exact RetNode.no HP.out ((HS.out.wb.ch [gR]).same (HS.out.oR.set4 _ _ _ _).2 |>.bl (by have := HS.out.w0b; simp; omega))
  · have HP := Lib.hid (show nodeGet k b = nodeNo 2 by unfold nodeGet; rw [if_pos (by omega)])
    have b1 : (k != 1) = true := by simp; omega
    have b2 : (k != 2) = true := by simp; omega
    clear hkind
    go_enter Try.func39, Try.ntmps39
    go_wp2_with fail
    refine bodyPost_ret (v := .tuple #[nodeV 0 none 0 0 none 0 0 none 0 0, .int .i64 2]) (results_ct rfl _ _ (Ob.new w #[.int .u8 0, .slice none 0 0, .slice none 0 0, .slice none 0 0] 52) rfl rfl Try.underlying52 rfl Try.sizeNode) rfl ?_
    exact RetNode.no HP.out ((Bl.refl w).alloc _)
end Go.Proofs.Ytedmamchfgkkfaa
/- Layer 22 (deed) walked: Get. -/
namespace Go.Proofs.Ytedmamchfgkkfaa
open Go.RowKit
set_option maxRecDepth 100000
set_option maxHeartbeats 2000000

structure DeedR where
  k : Int
  id : Int
  n : Int
  row : List UInt8
  e : Int
def deedNo (e : Int) : DeedR := ⟨0, 0, 0, [], e⟩
def deedGet (b : List UInt8) : DeedR :=
  if b = [] then deedNo 4 else if (took b 1 0 65504).e ≠ 0 then deedNo (took b 1 0 65504).e
  else if (took b 1 0 65504).p ≠ b.length ∨ 65536 < (took b 1 0 65504).n then deedNo 5
  else if deedMay (b.getD 0 0).toNat (took b 1 0 65504).id (took b 1 0 65504).n (took b 1 0 65504).row.length = false then deedNo 5
  else ⟨(b.getD 0 0).toNat, (took b 1 0 65504).id, (took b 1 0 65504).n, (took b 1 0 65504).row, 0⟩
def RetDeed (r : DeedR) (w : World) (e : Ending) (w' : World) : Prop :=
  ∃ B, e = .returned (.tuple #[deedV r.k r.id r.n B r.row.length r.row.length, .int .i64 r.e]) ∧ App w' w.heap.size 5 1 (.slice B r.row.length r.row.length) r.row.length (r.row.map bv) ∧ Bl w w'
theorem RetDeed.no {r : DeedR} {w w' : World} {e : Int} (h : r = deedNo e) (hb : Bl w w') : RetDeed r w (.returned (.tuple #[deedV 0 0 0 none 0 0, .int .i64 e])) w' := by
  subst h; exact ⟨none, rfl, App.nil _ _ _ _, hb⟩
theorem Try.sizeDeed : (Try.prog.info? 26).map (·.size) = some 4 := by kernel_rfl
theorem took_facts (b : List UInt8) (p e most : Int) : 0 ≤ (took b p e most).id ∧ (took b p e most).id < 18446744073709551616 ∧ 0 ≤ (took b p e most).n ∧ (took b p e most).n < 18446744073709551616 := by
  have key : ∀ q f, 0 ≤ (rdNum b q f).1 ∧ (rdNum b q f).1 < 18446744073709551616 := by
    intro q f
    unfold rdNum
    split
    · simp
    · rcases lebGet_or b q with ⟨g, h, hg, _⟩ | ⟨v, m, h, hv, _⟩
      · rw [h, if_neg hg]; simp
      · rw [h, if_pos rfl]; simp only; omega
  have h1 := key p e
  have h2 := key (rdNum b p e).2.1 (rdNum b p e).2.2
  exact ⟨h1.1, h1.2, h2.1, h2.2⟩

theorem took_len (b : List UInt8) (hb : b.length ≤ 140737488351232) : (took b 1 0 65504).row.length ≤ 281474976710656 := by
  have key : ∀ p e, (rdRow b p e 65504).1.length ≤ b.length := by
    intro p e
    unfold rdRow
    split
    · simp
    · rcases lebRow_or b p 65504 with ⟨f, h, hf, _⟩ | ⟨xs, m, h, h1, h2, h3⟩
      · rw [h, if_neg hf]; simp
      · rw [h, if_pos rfl]; exact h3
  exact Nat.le_trans (key _ _) (by omega)
theorem deed_Get (A : Option Addr) (c : Nat) (b : List UInt8) (w : World) (hb : b.length ≤ 140737488351232) (hcb : b.length ≤ c) (hr : Rd w A (b.map bv)) :
    Calls Try.prog 21 #[.slice A b.length c] w (RetDeed (deedGet b) w) := by
  have hmf : ∀ (fn : Fn) (first cap : Array Value) (w : World), (Instr.makeFunc fn first cap).run Try.prog w = .ok (.func fn first cap) w := fun _ _ _ _ => rfl
  by_cases hnil : b = []
  · have HP := Lib.hid (show deedGet b = deedNo 4 by unfold deedGet; rw [if_pos hnil])
    have hl : ((b.length : Int) == 0) = true := by subst hnil; rfl
    have hl2 : b.length = 0 := by subst hnil; rfl
    clear hnil hr
    go_enter Try.func21, Try.ntmps21
    go_wp2_with fail
    refine bodyPost_ret (v := .tuple #[deedV 0 0 0 none 0 0, .int .i64 4]) (results_ct rfl _ _ (Ob.new w _ 26) rfl rfl Try.underlying26 rfl Try.sizeDeed) rfl ?_
    exact RetDeed.no HP.out ((Bl.refl w).alloc _)
  · have hl : ((b.length : Int) == 0) = false := by rw [beq_eq_false_iff_ne]; have := List.length_pos_iff.2 hnil; omega
    have hpos := List.length_pos_iff.2 hnil
    have HR := Lib.hid hr
    have HAP := Lib.hid (hr.apart (by simpa using hnil))
    have HD := Lib.hid (show deedGet b = _ from by unfold deedGet; rw [if_neg hnil])
    clear hnil hr
    generalize ht : took b 1 0 65504 = t at HD
    have HT := Lib.hid ht
    clear ht
    go_enter Try.func21, Try.ntmps21
    go_wp2_with fail
    have HW3 := Lib.hid (((Bl.refl w).alloc (.cells #[.int .u8 0, .int .u64 0, .int .i64 0, .slice none 0 0] 26)).alloc (.cells #[.slice A b.length c, .int .i64 1, .int .i64 0] 85) |>.alloc (.cells #[.pointer (some ⟨w.heap.size + 1, 0, none⟩)] 83))
    have oV : Ob (((w.alloc (.cells #[.int .u8 0, .int .u64 0, .int .i64 0, .slice none 0 0] 26)).alloc (.cells #[.slice A b.length c, .int .i64 1, .int .i64 0] 85)).alloc (.cells #[.pointer (some ⟨w.heap.size + 1, 0, none⟩)] 83)) (w.heap.size + 1 + 1) 83 #[.pointer (some ⟨w.heap.size + 1, 0, none⟩)] := by
      have := Ob.new ((w.alloc (.cells #[.int .u8 0, .int .u64 0, .int .i64 0, .slice none 0 0] 26)).alloc (.cells #[.slice A b.length c, .int .i64 1, .int .i64 0] 85)) #[.pointer (some ⟨w.heap.size + 1, 0, none⟩)] 83
      simpa using this
    have oR : Ob (((w.alloc (.cells #[.int .u8 0, .int .u64 0, .int .i64 0, .slice none 0 0] 26)).alloc (.cells #[.slice A b.length c, .int .i64 1, .int .i64 0] 85)).alloc (.cells #[.pointer (some ⟨w.heap.size + 1, 0, none⟩)] 83)) (w.heap.size + 1) 85 #[.slice A b.length c, .int .i64 1, .int .i64 0] := by
      have := (Ob.new (w.alloc (.cells #[.int .u8 0, .int .u64 0, .int .i64 0, .slice none 0 0] 26)) #[.slice A b.length c, .int .i64 1, .int .i64 0] 85).bl ((Bl.refl _).alloc (.cells #[.pointer (some ⟨w.heap.size + 1, 0, none⟩)] 83))
      simpa using this
    have oD : Ob (((w.alloc (.cells #[.int .u8 0, .int .u64 0, .int .i64 0, .slice none 0 0] 26)).alloc (.cells #[.slice A b.length c, .int .i64 1, .int .i64 0] 85)).alloc (.cells #[.pointer (some ⟨w.heap.size + 1, 0, none⟩)] 83)) w.heap.size 26 #[.int .u8 0, .int .u64 0, .int .i64 0, .slice none 0 0] :=
      (Ob.new w #[.int .u8 0, .int .u64 0, .int .i64 0, .slice none 0 0] 26).bl (((Bl.refl _).alloc _).alloc _)
    refine (deed_Get1 (w.heap.size + 1 + 1) (w.heap.size + 1) A c b 1 0 _ hb hcb (by unfold Hid; omega) (HR.out.bl HW3.out) (fun a ha => by have := HAP.out a ha; omega) (by omega) oV oR).mono ?_
    rintro e w3 ⟨B, rfl, hown, hob, hch⟩
    have hf := took_facts b 1 0 65504
    rw [HT.out] at hown hob hf
    rw [HT.out]
    have hv3 := oV.ch hch (by simp)
    have hd3 := oD.ch hch (by simp)
    have HV := Lib.hid hv3
    have HDD := Lib.hid hd3
    have v0 := hv3.cell 0 rfl
    have r0 := hob.cell 0 rfl
    have r1 := hob.cell 1 rfl
    have r2 := hob.cell 2 rfl
    have hbl : Bl w w3 := (HW3.out.ch [w.heap.size + 1]).same hch |>.bl (by simp)
    have HB := Lib.hid hbl
    have HOW := Lib.hid (hown.mono (by simp; omega : w.heap.size ≤ _))
    have HF := Lib.hid hf
    have HOR := Lib.hid hob
    have HLEN := Lib.hid (show t.row.length ≤ 281474976710656 by rw [← HT.out]; exact took_len b hb)
    clear hch hown oV oR oD hbl hv3 hob hf
    by_cases hte : t.e = 0
    · have te1 : (t.e != 0) = false := by simpa using hte
      have HD2 := Lib.hid (HD.out.trans (if_neg (by simpa using hte)))
      have hn0 : 0 ≤ t.n := HF.out.2.2.1
      clear HD hte
      by_cases hbad : t.p ≠ b.length ∨ 65536 < t.n
      · have HP := Lib.hid (HD2.out.trans (if_pos hbad))
        have d0 := hd3.cell 0 rfl
        have d1 := hd3.cell 1 rfl
        have d2 := hd3.cell 2 rfl
        have d3 := hd3.cell 3 rfl
        have f0 := hd3.free 0
        have f1 := hd3.free 1
        have f2 := hd3.free 2
        have f3 := hd3.free 3
        clear hd3
        by_cases hpb : t.p = b.length
        · have b1 : (t.p != (b.length : Int)) = false := by simpa using hpb
          have hn : 65536 < t.n := by rcases hbad with h | h; exact absurd hpb h; exact h
          clear hbad hpb
          go_wp2_with fail
          refine bodyPost_ret (v := .tuple #[deedV 0 0 0 none 0 0, .int .i64 5]) (results_ct rfl _ _ (HDD.out.set4 _ _ _ _).1 rfl rfl Try.underlying26 rfl Try.sizeDeed) rfl ?_
          exact RetDeed.no HP.out ((HB.out.ch [w.heap.size]).same (HDD.out.set4 _ _ _ _).2 |>.bl (by simp))
        · have b1 : (t.p != (b.length : Int)) = true := by simpa using hpb
          clear hbad hpb
          go_wp2_with fail
          refine bodyPost_ret (v := .tuple #[deedV 0 0 0 none 0 0, .int .i64 5]) (results_ct rfl _ _ (HDD.out.set4 _ _ _ _).1 rfl rfl Try.underlying26 rfl Try.sizeDeed) rfl ?_
          exact RetDeed.no HP.out ((HB.out.ch [w.heap.size]).same (HDD.out.set4 _ _ _ _).2 |>.bl (by simp))
      · have HD3 := Lib.hid (HD2.out.trans (if_neg hbad))
        have b1 : (t.p != (b.length : Int)) = false := by simp; omega
        have hn : t.n ≤ 65536 := by omega
        obtain ⟨x, hx⟩ := get_some b 0 hpos
        have hx0 : b.getD 0 0 = x := by simp [List.getD_eq_getElem?_getD, hx]
        rw [hx0] at HD3
        obtain ⟨Ab, Ao, rfl, hcx⟩ := (HR.out.bl HB.out).get hx
        rw [Nat.add_zero] at hcx
        have hwn : wrap64 t.n = t.n := by unfold wrap64; omega
        clear hbad hx hx0 HD2 hd3
        simp only [bv] at hcx
        cases hmay : deedMay x.toNat t.id t.n t.row.length
        · have HMAY := Lib.hid hmay
          have HP := Lib.hid (HD3.out.trans (if_pos hmay))
          clear hmay
          go_wp2_with (first
            | (go_at_call 15; go_must (refine (deed_May _ t.id t.n B t.row.length t.row.length _ HLEN.out).mono ?_); rintro e w4 ⟨rfl, hbl4⟩; rw [HMAY.out]; have hb4 := Bl.trans ((Bl.refl w3).alloc _) hbl4; have hD4 := Lib.hid (Ob.bl HDD.out hb4); obtain ⟨d0, d1, d2, d3, f0, f1, f2, f3⟩ := Ob.all4 hD4.out))
          refine bodyPost_ret (v := .tuple #[deedV 0 0 0 none 0 0, .int .i64 5]) (results_ct rfl _ _ (hD4.out.set4 _ _ _ _).1 rfl rfl Try.underlying26 rfl Try.sizeDeed) rfl ?_
          exact RetDeed.no HP.out (((HB.out.trans hb4).ch [w.heap.size]).same (hD4.out.set4 _ _ _ _).2 |>.bl (by simp))
        · have HMAY := Lib.hid hmay
          have HP := Lib.hid (HD3.out.trans (if_neg (by rw [hmay]; simp)))
          clear hmay
          go_wp2_with (first
            | (go_at_call 15; go_must (refine (deed_May _ t.id t.n B t.row.length t.row.length _ HLEN.out).mono ?_); rintro e w4 ⟨rfl, hbl4⟩; rw [HMAY.out]; have hb4 := Bl.trans ((Bl.refl w3).alloc _) hbl4; have hD4 := Lib.hid (Ob.bl HDD.out hb4); obtain ⟨d0, d1, d2, d3, f0, f1, f2, f3⟩ := Ob.all4 hD4.out; obtain ⟨g0, g1, g2, g3, _⟩ := Ob.all4 (Ob.bl (Ob.new w3 _ 26) hbl4)))
          refine bodyPost_ret (v := .tuple #[deedV x.toNat t.id t.n B t.row.length t.row.length, .int .i64 0]) (results_ct rfl _ _ (hD4.out.set4 _ _ _ _).1 rfl rfl Try.underlying26 rfl Try.sizeDeed) rfl ?_
          unfold RetDeed
          rw [HP.out]
          refine ⟨B, rfl, App.ch (HOW.out.bl hb4) (hD4.out.set4 _ _ _ _).2 (fun g hg => by simp at hg; subst hg; exact hD4.out.app (HOW.out.bl hb4) (by decide)), ((HB.out.trans hb4).ch [w.heap.size]).same (hD4.out.set4 _ _ _ _).2 |>.bl (by simp)⟩
    · have te1 : (t.e != 0) = true := by simpa using hte
      have HP := Lib.hid (show deedGet b = deedNo t.e by rw [HD.out, if_pos hte])
      have d0 := hd3.cell 0 rfl
      have d1 := hd3.cell 1 rfl
      have d2 := hd3.cell 2 rfl
      have d3 := hd3.cell 3 rfl
      have f0 := hd3.free 0
      have f1 := hd3.free 1
      have f2 := hd3.free 2
      have f3 := hd3.free 3
      clear hte hd3
      go_wp2_with fail
      go_region
      go_wp2_with fail
      refine bodyPost_ret (v := .tuple #[deedV 0 0 0 none 0 0, .int .i64 t.e]) (results_ct rfl _ _ (Ob.bl (HDD.out.set4 _ _ _ _).1 (Bl.refl _).drew) rfl rfl Try.underlying26 rfl Try.sizeDeed) rfl ?_
      exact RetDeed.no HP.out (Bl.drew ((HB.out.ch [w.heap.size]).same (HDD.out.set4 _ _ _ _).2 |>.bl (by simp)))
end Go.Proofs.Ytedmamchfgkkfaa
/- The reference of layer 22 walked: Get. -/
namespace Go.Proofs.Ytedmamchfgkkfaa
open Go.RowKit
set_option maxRecDepth 100000
set_option maxHeartbeats 2000000

def RetDeedR (r : DeedR) (w : World) (e : Ending) (w' : World) : Prop :=
  ∃ B c, e = .returned (.tuple #[deedV r.k r.id r.n B r.row.length c, .int .i64 r.e]) ∧ App w' w.heap.size 5 1 (.slice B r.row.length c) r.row.length (r.row.map bv) ∧ Bl w w'
theorem RetDeedR.no {r : DeedR} {w w' : World} {e : Int} (h : r = deedNo e) (hb : Bl w w') : RetDeedR r w (.returned (.tuple #[deedV 0 0 0 none 0 0, .int .i64 e])) w' := by
  subst h; exact ⟨none, 0, rfl, App.nil _ _ _ _, hb⟩
theorem rdNum_err (b : List UInt8) (p e : Int) (h : e ≠ 0) : rdNum b p e = (0, p, e) := by unfold rdNum; rw [if_pos h]
theorem rdNum_no {b : List UInt8} {p e : Int} (hg : lebGet b p = (0, 0, e)) (h : e ≠ 0) : rdNum b p 0 = (0, p, e) := by unfold rdNum; rw [if_neg (by simp), hg, if_neg h]
theorem rdNum_ok {b : List UInt8} {p v m : Int} (hg : lebGet b p = (v, m, 0)) : rdNum b p 0 = (v, m, 0) := by unfold rdNum; rw [if_neg (by simp), hg, if_pos rfl]
theorem rdRow_err (b : List UInt8) (p e most : Int) (h : e ≠ 0) : rdRow b p e most = ([], p, e) := by unfold rdRow; rw [if_pos h]
theorem rdRow_no {b : List UInt8} {p e most m : Int} {xs : List UInt8} (hg : lebRow b p most = (xs, m, e)) (h : e ≠ 0) : rdRow b p 0 most = ([], p, e) := by unfold rdRow; rw [if_neg (by simp), hg, if_neg h]
theorem rdRow_ok {b : List UInt8} {p m most : Int} {xs : List UInt8} (hg : lebRow b p most = (xs, m, 0)) : rdRow b p 0 most = (xs, m, 0) := by unfold rdRow; rw [if_neg (by simp), hg, if_pos rfl]
theorem took_1 {b : List UInt8} {e : Int} (h : lebGet b 1 = (0, 0, e)) (hne : e ≠ 0) : (took b 1 0 65504).e = e := by
  simp only [took, rdNum_no h hne, rdNum_err _ _ _ hne, rdRow_err _ _ _ _ hne]
theorem took_2 {b : List UInt8} {v m e : Int} (h : lebGet b 1 = (v, m, 0)) (h2 : lebGet b m = (0, 0, e)) (hne : e ≠ 0) : (took b 1 0 65504).e = e := by
  simp only [took, rdNum_ok h, rdNum_no h2 hne, rdRow_err _ _ _ _ hne]
theorem took_3 {b : List UInt8} {v m v2 m2 m3 e : Int} {xs : List UInt8} (h : lebGet b 1 = (v, m, 0)) (h2 : lebGet b m = (v2, m2, 0)) (h3 : lebRow b m2 65504 = (xs, m3, e)) (hne : e ≠ 0) : (took b 1 0 65504).e = e := by
  simp only [took, rdNum_ok h, rdNum_ok h2, rdRow_no h3 hne]
theorem took_4 {b : List UInt8} {v m v2 m2 m3 : Int} {xs : List UInt8} (h : lebGet b 1 = (v, m, 0)) (h2 : lebGet b m = (v2, m2, 0)) (h3 : lebRow b m2 65504 = (xs, m3, 0)) : took b 1 0 65504 = ⟨v, v2, xs, m3, 0⟩ := by
  simp only [took, rdNum_ok h, rdNum_ok h2, rdRow_ok h3]
theorem ref_GetRow_at (A : Option Addr) (c : Nat) (b : List UInt8) (p most : Int) (xs : List UInt8) (m e : Int) (w : World) (hb : b.length ≤ 140737488351232) (hc : b.length ≤ c) (hm : -9223372036854775808 ≤ most ∧ most ≤ 9223372036854775807) (hr : Rd w A (b.map bv)) (h : lebRow b p most = (xs, m, e)) :
    Calls Try.prog 66 #[.slice A b.length c, .int .i64 p, .int .i64 most] w fun e' w' => ∃ B d, e' = .returned (.tuple #[.slice B xs.length d, .int .i64 m, .int .i64 e]) ∧ App w' w.heap.size 5 1 (.slice B xs.length d) xs.length (xs.map bv) ∧ Bl w w' := by
  refine (ref_GetRow A c b p most w hb hc hm hr).mono ?_
  rintro e' w' ⟨v, h1, h2, h3⟩
  rw [h] at h1 h2
  obtain ⟨B, d, rfl, _⟩ := h2.slice
  exact ⟨B, d, h1, h2, h3⟩

theorem ref_deedGet (A : Option Addr) (c : Nat) (b : List UInt8) (w : World) (hb : b.length ≤ 140737488351232) (hcb : b.length ≤ c) (hr : Rd w A (b.map bv)) :
    Calls Try.prog 22 #[.slice A b.length c] w (RetDeedR (deedGet b) w) := by
  by_cases hnil : b = []
  · have HP := Lib.hid (show deedGet b = deedNo 4 by unfold deedGet; rw [if_pos hnil])
    have hl : ((b.length : Int) == 0) = true := by subst hnil; rfl
    have hl2 : b.length = 0 := by subst hnil; rfl
    clear hnil hr
    go_enter Try.func22, Try.ntmps22
    go_wp2_with fail
    refine bodyPost_ret (v := .tuple #[deedV 0 0 0 none 0 0, .int .i64 4]) (results_ct rfl _ _ (Ob.new w _ 26) rfl rfl Try.underlying26 rfl Try.sizeDeed) rfl ?_
    exact RetDeedR.no HP.out ((Bl.refl w).alloc _)
  have hl : ((b.length : Int) == 0) = false := by rw [beq_eq_false_iff_ne]; have := List.length_pos_iff.2 hnil; omega
  have hpos := List.length_pos_iff.2 hnil
  have HR := Lib.hid hr
  have HW := Lib.hid ((Bl.refl w).alloc (.cells #[.int .u8 0, .int .u64 0, .int .i64 0, .slice none 0 0] 26))
  have HD0 := Lib.hid (Ob.new w #[.int .u8 0, .int .u64 0, .int .i64 0, .slice none 0 0] 26)
  rcases lebGet_or b 1 with ⟨e, h, hne, _⟩ | ⟨v1, m1, h, hv1, hm1, _⟩
  · have hP : deedGet b = deedNo e := by
      have ht : (took b 1 0 65504).e = e := took_1 h hne
      unfold deedGet; rw [if_neg hnil, ht, if_pos hne]
    have HP := Lib.hid hP
    have H := Lib.hid h
    have he1 : (e != 0) = true := by simpa using hne
    clear h hne hP hnil hr
    go_enter Try.func22, Try.ntmps22
    go_wp2_with (first | (go_at_call 65; go_must (refine (ref_Get_at A c b 1 _ _ _ _ hb (HR.out.bl HW.out) H.out).mono ?_); rintro e w' ⟨rfl, n, rfl⟩))
    refine bodyPost_ret (v := .tuple #[deedV 0 0 0 none 0 0, .int .i64 e]) (results_ct rfl _ _ ((Ob.bl HD0.out ((Bl.refl _).drewN _)).set4 _ _ _ _).1 rfl rfl Try.underlying26 rfl Try.sizeDeed) rfl ?_
    exact RetDeedR.no HP.out (((HW.out.drewN _).ch [w.heap.size]).same ((Ob.bl HD0.out ((Bl.refl _).drewN _)).set4 _ _ _ _).2 |>.bl (by simp))
  have H1 := Lib.hid h
  rcases lebGet_or b m1 with ⟨e, h2, hne, _⟩ | ⟨v2, m2, h2, hv2, hm2, _⟩
  · have hP : deedGet b = deedNo e := by
      have ht : (took b 1 0 65504).e = e := took_2 h h2 hne
      unfold deedGet; rw [if_neg hnil, ht, if_pos hne]
    have HP := Lib.hid hP
    have H2 := Lib.hid h2
    have he1 : (e != 0) = true := by simpa using hne
    clear h h2 hne hP hnil hr hv1
    go_enter Try.func22, Try.ntmps22
    go_wp2_with fail
    refine (ref_Get_at A c b 1 _ _ _ _ hb (HR.out.bl HW.out) H1.out).mono ?_
    rintro e' w' ⟨rfl, n, rfl⟩
    go_wp2_with fail
    refine (ref_Get_at A c b m1 _ _ _ _ hb (HR.out.bl (HW.out.drewN n)) H2.out).mono ?_
    rintro e' w' ⟨rfl, n2, rfl⟩
    go_wp2_with fail
    refine bodyPost_ret (v := .tuple #[deedV 0 0 0 none 0 0, .int .i64 e]) (results_ct rfl _ _ ((Ob.bl HD0.out ((Bl.refl _).drewN _)).set4 _ _ _ _).1 rfl rfl Try.underlying26 rfl Try.sizeDeed) rfl ?_
    exact RetDeedR.no HP.out (((HW.out.drewN _).ch [w.heap.size]).same ((Ob.bl HD0.out ((Bl.refl _).drewN _)).set4 _ _ _ _).2 |>.bl (by simp))
  have H2 := Lib.hid h2
  have hX : ∃ (xs : List UInt8) (m e : Int), lebRow b m2 65504 = (xs, m, e) ∧ (e ≠ 0 → xs = []) ∧ xs.length ≤ b.length := by
    rcases lebRow_or b m2 65504 with ⟨e, h, _⟩ | ⟨xs, m, h, _, _, hx⟩
    · exact ⟨[], 0, e, h, fun _ => rfl, by simp⟩
    · exact ⟨xs, m, 0, h, fun h => absurd rfl h, hx⟩
  obtain ⟨xs, m3, e3, h3, hnil3, hxl⟩ := hX
  have H3 := Lib.hid h3
  by_cases hne : e3 = 0
  case neg =>
    have hP : deedGet b = deedNo e3 := by
      have ht : (took b 1 0 65504).e = e3 := took_3 h h2 h3 hne
      unfold deedGet; rw [if_neg hnil, ht, if_pos hne]
    have HP := Lib.hid hP
    have he1 : (e3 != 0) = true := by simpa using hne
    clear h h2 h3 hne hP hnil hr hv1 hv2 hnil3
    go_enter Try.func22, Try.ntmps22
    go_wp2_with fail
    refine (ref_Get_at A c b 1 _ _ _ _ hb (HR.out.bl HW.out) H1.out).mono ?_
    rintro e' w' ⟨rfl, n, rfl⟩
    go_wp2_with fail
    refine (ref_Get_at A c b m1 _ _ _ _ hb (HR.out.bl (HW.out.drewN n)) H2.out).mono ?_
    rintro e' w' ⟨rfl, n2, rfl⟩
    go_wp2_with fail
    refine (ref_GetRow_at A c b m2 65504 _ _ _ _ hb hcb (by omega) (HR.out.bl (HW.out.drewN _)) H3.out).mono ?_
    rintro e' w3 ⟨B, d, rfl, hown, hbl⟩
    have hb3 : Bl w w3 := (HW.out.drewN _).trans hbl
    have hD := Lib.hid (HD0.out.bl (((Bl.refl _).drewN _).trans hbl))
    obtain ⟨d0, d1, d2, d3, f0, f1, f2, f3⟩ := Ob.all4 hD.out
    go_wp2_with fail
    refine bodyPost_ret (v := .tuple #[deedV 0 0 0 none 0 0, .int .i64 e3]) (results_ct rfl _ _ (hD.out.set4 _ _ _ _).1 rfl rfl Try.underlying26 rfl Try.sizeDeed) rfl ?_
    exact RetDeedR.no HP.out ((hb3.ch [w.heap.size]).same (hD.out.set4 _ _ _ _).2 |>.bl (by simp))
  subst hne
  obtain ⟨x, hx⟩ := get_some b 0 hpos
  have hx0 : b.getD 0 0 = x := by simp [List.getD_eq_getElem?_getD, hx]
  have hDG : deedGet b = if m3 ≠ b.length ∨ (65536 : Int) < v2 then deedNo 5 else if deedMay x.toNat v1 v2 xs.length = false then deedNo 5 else ⟨x.toNat, v1, v2, xs, 0⟩ := by
    have ht : took b 1 0 65504 = ⟨v1, v2, xs, m3, 0⟩ := took_4 h h2 h3
    unfold deedGet; rw [if_neg hnil, ht, if_neg (by simp), hx0]
  have HDG := Lib.hid hDG
  have HLEN := Lib.hid (show xs.length ≤ 281474976710656 by omega)
  obtain ⟨Ab, Ao, rfl, hcx⟩ := hr.get hx
  rw [Nat.add_zero] at hcx
  have HCX := Lib.hid hcx
  have HV1 := Lib.hid hv1
  clear h h2 h3 hDG hnil hr hv1 hv2 hnil3 hx hx0 hcx
  by_cases hbad : m3 ≠ b.length ∨ (65536 : Int) < v2
  · have HP := Lib.hid (HDG.out.trans (if_pos hbad))
    have hsplit : ((m3 != (b.length : Int)) = true) ∨ ((m3 != (b.length : Int)) = false ∧ (65536 : Int) < v2) := by
      by_cases hq : m3 = b.length
      · right; refine ⟨by simpa using hq, ?_⟩; rcases hbad with hb | hb; exact absurd hq hb; exact hb
      · left; simpa using hq
    clear hbad HDG
    rcases hsplit with hs | ⟨hs, hs2⟩
    all_goals
      go_enter Try.func22, Try.ntmps22
      go_wp2_with fail
      refine (ref_Get_at _ c b 1 _ _ _ _ hb (HR.out.bl HW.out) H1.out).mono ?_
      rintro e' w' ⟨rfl, n, rfl⟩
      go_wp2_with fail
      refine (ref_Get_at _ c b m1 _ _ _ _ hb (HR.out.bl (HW.out.drewN n)) H2.out).mono ?_
      rintro e' w' ⟨rfl, n2, rfl⟩
      go_wp2_with fail
      refine (ref_GetRow_at _ c b m2 65504 _ _ _ _ hb hcb (by omega) (HR.out.bl (HW.out.drewN _)) H3.out).mono ?_
      rintro e' w3 ⟨B, d, rfl, hown, hbl⟩
      have hb3 : Bl w w3 := (HW.out.drewN _).trans hbl
      have hD := Lib.hid (HD0.out.bl (((Bl.refl _).drewN _).trans hbl))
      obtain ⟨d0, d1, d2, d3, f0, f1, f2, f3⟩ := Ob.all4 hD.out
      go_wp2_with fail
      refine bodyPost_ret (v := .tuple #[deedV 0 0 0 none 0 0, .int .i64 5]) (results_ct rfl _ _ (hD.out.set4 _ _ _ _).1 rfl rfl Try.underlying26 rfl Try.sizeDeed) rfl ?_
      exact RetDeedR.no HP.out ((hb3.ch [w.heap.size]).same (hD.out.set4 _ _ _ _).2 |>.bl (by simp))
  · have HD3 := Lib.hid (HDG.out.trans (if_neg hbad))
    have hs : (m3 != (b.length : Int)) = false := by simp; omega
    have hn : v2 ≤ 65536 := by omega
    have hwn : wrap64 (v2 : Int) = v2 := by unfold wrap64; omega
    clear hbad HDG
    cases hmay : deedMay x.toNat v1 v2 xs.length
    · have HMAY := Lib.hid hmay
      have HP := Lib.hid (HD3.out.trans (if_pos hmay))
      clear hmay
      go_enter Try.func22, Try.ntmps22
      go_wp2_with fail
      refine (ref_Get_at _ c b 1 _ _ _ _ hb (HR.out.bl HW.out) H1.out).mono ?_
      rintro e' w' ⟨rfl, n, rfl⟩
      go_wp2_with fail
      refine (ref_Get_at _ c b m1 _ _ _ _ hb (HR.out.bl (HW.out.drewN n)) H2.out).mono ?_
      rintro e' w' ⟨rfl, n2, rfl⟩
      go_wp2_with fail
      refine (ref_GetRow_at _ c b m2 65504 _ _ _ _ hb hcb (by omega) (HR.out.bl (HW.out.drewN _)) H3.out).mono ?_
      rintro e' w3 ⟨B, d, rfl, hown, hbl⟩
      have HB := Lib.hid ((HW.out.drewN _).trans hbl)
      have HDD := Lib.hid (HD0.out.bl (((Bl.refl _).drewN _).trans hbl))
      have hcx := HB.out.cellAt HCX.out
      simp only [bv] at hcx
      clear hbl
      go_wp2_with (first
        | (go_at_call 16; go_must (refine (ref_deedMay _ _ _ B xs.length d _ HLEN.out).mono ?_); rintro e w4 ⟨rfl, hbl4⟩; rw [HMAY.out]; have hb4 := Bl.trans ((Bl.refl w3).alloc _) hbl4; have hD4 := Lib.hid (Ob.bl HDD.out hb4); obtain ⟨d0, d1, d2, d3, f0, f1, f2, f3⟩ := Ob.all4 hD4.out))
      refine bodyPost_ret (v := .tuple #[deedV 0 0 0 none 0 0, .int .i64 5]) (results_ct rfl _ _ (hD4.out.set4 _ _ _ _).1 rfl rfl Try.underlying26 rfl Try.sizeDeed) rfl ?_
      exact RetDeedR.no HP.out (((HB.out.trans hb4).ch [w.heap.size]).same (hD4.out.set4 _ _ _ _).2 |>.bl (by simp))
    · have HMAY := Lib.hid hmay
      have HP := Lib.hid (HD3.out.trans (if_neg (by rw [hmay]; simp)))
      clear hmay
      go_enter Try.func22, Try.ntmps22
      go_wp2_with fail
      refine (ref_Get_at _ c b 1 _ _ _ _ hb (HR.out.bl HW.out) H1.out).mono ?_
      rintro e' w' ⟨rfl, n, rfl⟩
      go_wp2_with fail
      refine (ref_Get_at _ c b m1 _ _ _ _ hb (HR.out.bl (HW.out.drewN n)) H2.out).mono ?_
      rintro e' w' ⟨rfl, n2, rfl⟩
      go_wp2_with fail
      refine (ref_GetRow_at _ c b m2 65504 _ _ _ _ hb hcb (by omega) (HR.out.bl (HW.out.drewN _)) H3.out).mono ?_
      rintro e' w3 ⟨B, d, rfl, hown, hbl⟩
      have HB := Lib.hid ((HW.out.drewN _).trans hbl)
      have HDD := Lib.hid (HD0.out.bl (((Bl.refl _).drewN _).trans hbl))
      have HOW := Lib.hid (hown.mono (by simp : w.heap.size ≤ _))
      have hcx := HB.out.cellAt HCX.out
      simp only [bv] at hcx
      clear hbl hown
      go_wp2_with (first
        | (go_at_call 16; go_must (refine (ref_deedMay _ _ _ B xs.length d _ HLEN.out).mono ?_); rintro e w4 ⟨rfl, hbl4⟩; rw [HMAY.out]; have hb4 := Bl.trans ((Bl.refl w3).alloc _) hbl4; have hD4 := Lib.hid (Ob.bl HDD.out hb4); obtain ⟨d0, d1, d2, d3, f0, f1, f2, f3⟩ := Ob.all4 hD4.out; obtain ⟨g0, g1, g2, g3, _⟩ := Ob.all4 (Ob.bl (Ob.new w3 _ 26) hbl4)))
      refine bodyPost_ret (v := .tuple #[deedV x.toNat v1 v2 B xs.length d, .int .i64 0]) (results_ct rfl _ _ (hD4.out.set4 _ _ _ _).1 rfl rfl Try.underlying26 rfl Try.sizeDeed) rfl ?_
      unfold RetDeedR
      rw [HP.out]
      refine ⟨B, d, rfl, App.ch (HOW.out.bl hb4) (hD4.out.set4 _ _ _ _).2 (fun g hg => by simp at hg; subst hg; exact hD4.out.app (HOW.out.bl hb4) (by decide)), ((HB.out.trans hb4).ch [w.heap.size]).same (hD4.out.set4 _ _ _ _).2 |>.bl (by simp)⟩
end Go.Proofs.Ytedmamchfgkkfaa
/- The reference of layer 22 walked: SameDeed. -/
namespace Go.Proofs.Ytedmamchfgkkfaa
open Go.RowKit
set_option maxRecDepth 100000
set_option maxHeartbeats 2000000

theorem ref_sameDeed (k id n k2 id2 n2 : Int) (A B : Option Addr) (c d : Nat) (xs ys : List UInt8) (w : World) (hl : xs.length ≤ 281474976710656) (hx : Rd w A (xs.map bv)) (hy : Rd w B (ys.map bv)) :
    Calls Try.prog 23 #[deedV k id n A xs.length c, deedV k2 id2 n2 B ys.length d] w (RetBl (decide (k = k2 ∧ id = id2 ∧ n = n2 ∧ xs = ys)) w) := by
  have HX := Lib.hid hx
  have HY := Lib.hid hy
  clear hx hy
  by_cases h1 : k = k2
  case neg =>
    have b1 : (k == k2) = false := by simpa using h1
    have HC := Lib.hid (show false = decide (k = k2 ∧ id = id2 ∧ n = n2 ∧ xs = ys) by simp [h1])
    clear h1
    go_enter Try.func23, Try.ntmps23
    go_wp2_with fail
    go_ret
    exact RetBl.mk HC.out (((Bl.refl w).alloc _).alloc _)
  by_cases h2 : id = id2
  case neg =>
    have b1 : (k == k2) = true := by simpa using h1
    have b2 : (id == id2) = false := by simpa using h2
    have HC := Lib.hid (show false = decide (k = k2 ∧ id = id2 ∧ n = n2 ∧ xs = ys) by simp [h2])
    clear h1 h2
    go_enter Try.func23, Try.ntmps23
    go_wp2_with fail
    go_ret
    exact RetBl.mk HC.out (((Bl.refl w).alloc _).alloc _)
  by_cases h3 : n = n2
  case neg =>
    have b1 : (k == k2) = true := by simpa using h1
    have b2 : (id == id2) = true := by simpa using h2
    have b3 : (n == n2) = false := by simpa using h3
    have HC := Lib.hid (show false = decide (k = k2 ∧ id = id2 ∧ n = n2 ∧ xs = ys) by simp [h3])
    clear h1 h2 h3
    go_enter Try.func23, Try.ntmps23
    go_wp2_with fail
    go_ret
    exact RetBl.mk HC.out (((Bl.refl w).alloc _).alloc _)
  have b1 : (k == k2) = true := by simpa using h1
  have b2 : (id == id2) = true := by simpa using h2
  have b3 : (n == n2) = true := by simpa using h3
  have HC := Lib.hid (show decide (xs = ys) = decide (k = k2 ∧ id = id2 ∧ n = n2 ∧ xs = ys) by simp [h1, h2, h3])
  clear h1 h2 h3
  go_enter Try.func23, Try.ntmps23
  go_wp2_with (first | (go_at_call 19; go_must (refine (same_calls A B c d xs ys _ hl (HX.out.bl (((Bl.refl w).alloc _).alloc _)) (HY.out.bl (((Bl.refl w).alloc _).alloc _))).mono ?_); rintro e w1 ⟨rfl, hdr⟩))
  go_ret
  exact RetBl.mk HC.out ((((Bl.refl w).alloc _).alloc _).trans (hdr.below _))
end Go.Proofs.Ytedmamchfgkkfaa
/- The law of layer 22 walked: lives. -/
namespace Go.Proofs.Ytedmamchfgkkfaa
open Go.RowKit
set_option maxRecDepth 100000
set_option maxHeartbeats 2000000

theorem lebPut_one (n : Nat) (h : n < 128) : lebPut n = [n.toUInt8] := by rw [lebPut, dif_pos h]
theorem lebPut_300 : lebPut 300 = [172, 2] := by
  rw [lebPut, dif_neg (by omega), lebPut_one _ (by omega)]; rfl
theorem live_put1 : deedPut 1 0 0 [97, 98] = ([1, 0, 0, 2, 97, 98], 0) := by
  simp [deedPut, deedMay, deedBytes, lebRowPut, lebPut_one]
theorem live_put2 : deedPut 5 300 2 [] = ([5, 172, 2, 2, 0], 0) := by
  simp [deedPut, deedMay, deedBytes, lebRowPut, lebPut_one, lebPut_300]
theorem live_get : deedGet [5, 172, 2, 2, 0] = ⟨5, 300, 2, [], 0⟩ := by
  rfl
theorem live_call1 (A : Option Addr) (w : World) (hr : Rd w A (([97, 98] : List UInt8).map bv)) :
    Calls Try.prog 13 #[deedV 1 0 0 A 2 2] w fun e w' => ∃ B c, e = .returned (.tuple #[.slice B 6 c, .int .i64 0]) ∧ App w' w.heap.size 5 1 (.slice B 6 c) 6 (([1, 0, 0, 2, 97, 98] : List UInt8).map bv) ∧ Bl w w' := by
  have h := deed_Put 1 0 0 A [97, 98] 2 w (by simp) (by omega) (by unfold Hid; omega) hr
  rw [live_put1] at h
  refine h.mono ?_
  rintro e w1 ⟨v1, rfl, hown1, hbl1⟩
  obtain ⟨A1, c1, rfl, hcc1⟩ := hown1.slice
  exact ⟨A1, c1, rfl, hown1, hbl1⟩
theorem live_call2 (w : World) :
    Calls Try.prog 13 #[deedV 5 300 2 none 0 0] w fun e w' => ∃ B c, e = .returned (.tuple #[.slice B 5 c, .int .i64 0]) ∧ App w' w.heap.size 5 1 (.slice B 5 c) 5 (([5, 172, 2, 2, 0] : List UInt8).map bv) ∧ Bl w w' := by
  have h := deed_Put 5 300 2 none [] 0 w (by simp) (by omega) (by unfold Hid; omega) (Rd.nil _ _)
  rw [live_put2] at h
  refine h.mono ?_
  rintro e w1 ⟨v1, rfl, hown1, hbl1⟩
  obtain ⟨A1, c1, rfl, hcc1⟩ := hown1.slice
  exact ⟨A1, c1, rfl, hown1, hbl1⟩
theorem live_call3 (A : Option Addr) (c : Nat) (w w0 : World) (base : Nat) (h : App w0 base 5 1 (.slice A 5 c) 5 (([5, 172, 2, 2, 0] : List UInt8).map bv)) (hb : Bl w0 w) :
    Calls Try.prog 21 #[.slice A 5 c] w fun e w' => ∃ B, e = .returned (.tuple #[deedV 5 300 2 B 0 0, .int .i64 0]) ∧ Bl w w' := by
  obtain ⟨A1, c1, h1, hcc⟩ := h.slice
  cases h1
  have h := deed_Get A c [5, 172, 2, 2, 0] w (by simp) hcc (h.rd.1.bl hb)
  rw [live_get] at h
  refine h.mono ?_
  rintro e w1 ⟨B, rfl, _, hbl1⟩
  exact ⟨B, rfl, hbl1⟩
theorem bytes_lit (w : World) (xs : List UInt8) (cs : Array Value) (e : TypeId) (h : cs = (xs.map bv).toArray) : Rd (w.alloc (.cells cs e)) (some ⟨w.heap.size, 0, none⟩) (xs.map bv) := by
  subst h
  have := rd_of_block (heap_alloc_new w (.cells (xs.map bv).toArray e)) 0 xs.length
  rwa [List.drop_zero, List.take_of_length_le (by simp)] at this
theorem same_lit (A : Option Addr) (c n g : Nat) (xs : List UInt8) (cs : Array Value) (w w0 : World) (base : Nat) (hn : n = xs.length) (hn2 : n ≤ 1000) (hg : g = w.heap.size) (hcs : cs = (xs.map bv).toArray) (h : App w0 base 5 1 (.slice A n c) n (xs.map bv)) (hb : Bl w0 w) :
    Calls Try.prog 19 #[.slice A n c, .slice (some ⟨g, 0, none⟩) n n] (w.alloc (.cells cs 5)) (RetDr true (w.alloc (.cells cs 5))) := by
  subst hn hg
  have h2 := same_calls A (some ⟨w.heap.size, 0, none⟩) c xs.length xs xs (w.alloc (.cells cs 5)) (by omega) (h.rd.1.bl (hb.alloc _)) (bytes_lit w xs cs _ hcs)
  simpa using h2
theorem deed_lives (w : World) : Calls Try.prog 25 #[] w (RetBl true w) := by
  have kc := fun (w : World) (C : Array Value) (n c : Nat) => Lib.run_convert_bytes_const (P := Try.prog) w 24 5 C n c Try.underlying24 Try.underlying5
  have HA : Hid (Rd (w.alloc (.cells #[.int .u8 97, .int .u8 98] 5 (2, 3))) (some ⟨w.heap.size, 0, none⟩) (([97, 98] : List UInt8).map bv)) := by
    have := rd_of_block (heap_alloc_new w (.cells #[.int .u8 97, .int .u8 98] 5 (2, 3))) 0 2
    exact this
  go_enter Try.func25, Try.ntmps25
  go_wp2_with fail
  refine (live_call1 _ _ HA.out).mono ?_
  rintro e w1 ⟨A1, c1, rfl, hown1, hbl1⟩
  clear HA
  have HO1 := Lib.hid hown1
  have hw1 := Lib.hid (((Bl.refl w).alloc _).trans hbl1)
  clear hown1 hbl1
  go_wp2_with fail
  refine (live_call2 _).mono ?_
  rintro e w2 ⟨A2, c2, rfl, hown2, hbl2⟩
  have HO2 := Lib.hid hown2
  have hw2 := Lib.hid hbl2
  clear hown2 hbl2
  go_wp2_with fail
  refine (live_call3 _ _ _ _ _ HO2.out (Bl.refl _)).mono ?_
  rintro e w3 ⟨B3, rfl, hbl3⟩
  have hw3 := Lib.hid hbl3
  clear hbl3
  have hpc : ∀ w' : World, Bl (w3.alloc (.cells #[.int .u8 5, .int .u64 300, .int .i64 2, .slice B3 0 0] 26)) w' → w'.cell? ⟨w3.heap.size, 1, none⟩ = some (.int .u64 300) := fun w' hw => by
    have hh := hw.heap (heap_alloc_new w3 _)
    exact cell_of_row _ _ 1 _ _ _ hh
  have HPC := Lib.hid hpc
  clear hpc
  have HB1 := Lib.hid (((Bl.refl w3).alloc (.cells #[.int .u8 5, .int .u64 300, .int .i64 2, .slice B3 0 0] 26)))
  go_wp2_with fail
  refine (same_lit A1 c1 6 _ [1, 0, 0, 2, 97, 98] _ _ _ _ rfl (by omega) (by simp) rfl HO1.out ((hw2.out.trans hw3.out).trans HB1.out)).mono ?_
  rintro e w4 ⟨rfl, hdr⟩
  have HB2 := Lib.hid ((HB1.out.alloc (.cells #[.int .u8 1, .int .u8 0, .int .u8 0, .int .u8 2, .int .u8 97, .int .u8 98] 5)).trans (hdr.below _))
  have HP2 := Lib.hid (((Bl.refl _).alloc (.cells #[.int .u8 1, .int .u8 0, .int .u8 0, .int .u8 2, .int .u8 97, .int .u8 98] 5)).trans (hdr.below _))
  clear hdr
  go_wp2_with fail
  refine (same_lit A2 c2 5 _ [5, 172, 2, 2, 0] _ _ _ _ rfl (by omega) (by simp) rfl HO2.out (hw3.out.trans HB2.out)).mono ?_
  rintro e w5 ⟨rfl, hdr⟩
  have HB3 := Lib.hid ((HB2.out.alloc (.cells #[.int .u8 5, .int .u8 172, .int .u8 2, .int .u8 2, .int .u8 0] 5)).trans (hdr.below _))
  have hc := HPC.out w5 ((HP2.out.alloc (.cells #[.int .u8 5, .int .u8 172, .int .u8 2, .int .u8 2, .int .u8 0] 5)).trans (hdr.below _))
  clear hdr
  go_wp2_with fail
  go_ret
  exact RetBl.mk rfl (((hw1.out.trans hw2.out).trans hw3.out).trans HB3.out)
end Go.Proofs.Ytedmamchfgkkfaa
/- The law of layer 18 walked: lives. -/
set_option linter.unusedVariables false
set_option linter.unusedSimpArgs false
namespace Go.Proofs.Ytedmamchfgkkfaa
open Go.RowKit
set_option maxRecDepth 100000
set_option maxHeartbeats 4000000

def lkeys : List ByteArray := [⟨#[98]⟩, ⟨#[100]⟩]
def lvals : List ByteArray := [⟨#[49]⟩, ⟨#[50]⟩]
theorem sLt_mk (a b : Array UInt8) : sLt ⟨a⟩ ⟨b⟩ = Op.bytesLess a.toList b.toList := by simp [sLt, ByteArray.toList_eq]
theorem nlive_lt : sLt ⟨#[98]⟩ ⟨#[100]⟩ = true ∧ sLt ⟨#[98]⟩ ⟨#[99]⟩ = true ∧ sLt ⟨#[100]⟩ ⟨#[99]⟩ = false := by
  simp only [sLt_mk]; decide
theorem nlive_right : nodeRight 1 lkeys lvals [] 6 6 = true := by
  unfold nodeRight keysOK
  rw [show List.range lkeys.length = [0, 1] from rfl]
  have h0 : keyOK lkeys 0 = true := by rfl
  have h1 : keyOK lkeys 1 = true := by
    have h : keyOK lkeys 1 = sLt ⟨#[98]⟩ ⟨#[100]⟩ := by rfl
    rw [h, nlive_lt.1]
  have h2 : valsOK lvals = true := by rfl
  simp only [List.all_cons, h0, h1, h2]
  decide
theorem nlive_put : nodePut 1 lkeys lvals [] = ([2, 1, 98, 1, 49, 1, 100, 1, 50], 0) := by
  unfold nodePut
  rw [nlive_right, if_neg (by decide)]
  simp [nodeBytes, nodeUpto, nodeHead, nodePiece, lkeys, lvals, tb, lebRowPut, lebPut_one, List.range_succ]
theorem nlive_get : nodeGet 1 [2, 1, 98, 1, 49, 1, 100, 1, 50] = ⟨1, lkeys, lvals, [], 0⟩ := by
  have h : nodeGet 1 [2, 1, 98, 1, 49, 1, 100, 1, 50] = nodeEnd 1 [2, 1, 98, 1, 49, 1, 100, 1, 50] 9 lkeys lvals [] := by rfl
  rw [h, nodeEnd, nlive_right]; rfl
theorem nlive_find : findN lkeys ⟨#[99]⟩ = 1 ∧ findIs lkeys ⟨#[99]⟩ = false := by
  have h : findN lkeys ⟨#[99]⟩ = 1 := by simp [findN, lkeys, nlive_lt]
  refine ⟨h, ?_⟩
  unfold findIs
  rw [h]; decide
theorem node_lives (w : World) : Calls Try.prog 41 #[] w (RetBl true w) := by
  have HK := Lib.hid (row_lit sv w lkeys #[.string ⟨#[98]⟩, .string ⟨#[100]⟩] 9 rfl)
  have HV := Lib.hid (row_lit sv (w.alloc (.cells #[.string ⟨#[98]⟩, .string ⟨#[100]⟩] 9)) lvals #[.string ⟨#[49]⟩, .string ⟨#[50]⟩] 9 rfl)
  have HN := Lib.hid (Ob.new ((w.alloc (.cells #[.string ⟨#[98]⟩, .string ⟨#[100]⟩] 9)).alloc (.cells #[.string ⟨#[49]⟩, .string ⟨#[50]⟩] 9)) #[.int .u8 1, .slice (some ⟨w.heap.size, 0, none⟩) 2 2, .slice (some ⟨w.heap.size + 1, 0, none⟩) 2 2, .slice none 0 0] 52)
  have HW := Lib.hid ((((Bl.refl w).alloc (.cells #[.string ⟨#[98]⟩, .string ⟨#[100]⟩] 9)).alloc (.cells #[.string ⟨#[49]⟩, .string ⟨#[50]⟩] 9)).alloc (.cells #[.int .u8 1, .slice (some ⟨w.heap.size, 0, none⟩) 2 2, .slice (some ⟨w.heap.size + 1, 0, none⟩) 2 2, .slice none 0 0] 52))
  have HK1 := Lib.hid (HK.out.bl (((Bl.refl _).alloc (.cells #[.string ⟨#[49]⟩, .string ⟨#[50]⟩] 9)).alloc (.cells #[.int .u8 1, .slice (some ⟨w.heap.size, 0, none⟩) 2 2, .slice (some ⟨w.heap.size + 1, 0, none⟩) 2 2, .slice none 0 0] 52)))
  have HV1 := Lib.hid (HV.out.bl ((Bl.refl _).alloc (.cells #[.int .u8 1, .slice (some ⟨w.heap.size, 0, none⟩) 2 2, .slice (some ⟨w.heap.size + 1, 0, none⟩) 2 2, .slice none 0 0] 52)))
  have hs1 : (w.alloc (.cells #[.string ⟨#[98]⟩, .string ⟨#[100]⟩] 9)).heap.size = w.heap.size + 1 := by simp
  have hs2 : ((w.alloc (.cells #[.string ⟨#[98]⟩, .string ⟨#[100]⟩] 9)).alloc (.cells #[.string ⟨#[49]⟩, .string ⟨#[50]⟩] 9)).heap.size = w.heap.size + 1 + 1 := by simp
  rw [hs1] at HV HV1
  rw [hs2] at HN
  clear hs1 hs2 HK HV
  go_enter Try.func41, Try.ntmps41
  go_wp2_with fail
  generalize ((w.alloc (.cells #[.string ⟨#[98]⟩, .string ⟨#[100]⟩] 9)).alloc (.cells #[.string ⟨#[49]⟩, .string ⟨#[50]⟩] 9)).alloc (.cells #[.int .u8 1, .slice (some ⟨w.heap.size, 0, none⟩) 2 2, .slice (some ⟨w.heap.size + 1, 0, none⟩) 2 2, .slice none 0 0] 52) = u at HK1 HV1 HN HW ⊢
  refine (node_Put 1 (some ⟨w.heap.size, 0, none⟩) (some ⟨w.heap.size + 1, 0, none⟩) none lkeys lvals [] 2 2 0 u (by decide) (by decide) (by decide) HK1.out HV1.out (Rd.nil _ _)).mono ?_
  rw [nlive_put]
  rintro e w1 ⟨v1, rfl, hown1, hbl1⟩
  obtain ⟨A1, c1, rfl, hcc1⟩ := hown1.slice
  have HB1 := Lib.hid hown1.rd.1
  have HL1 := Lib.hid hbl1
  have HCC := Lib.hid hcc1
  clear hown1 hbl1 hcc1
  go_wp2_with fail
  have hg := node_Get 1 A1 c1 [2, 1, 98, 1, 49, 1, 100, 1, 50] w1 (by decide) HCC.out HB1.out
  rw [nlive_get] at hg
  refine hg.mono ?_
  rintro e w2 ⟨A2, c2, B2, d2, I2, ci2, rfl, ha2, hb2, hi2, hbl2⟩
  have HA2 := Lib.hid (ha2.rd.1.bl ((Bl.refl w2).alloc (.cells #[.int .u8 1, .slice A2 lkeys.length c2, .slice B2 lvals.length d2, .slice I2 0 ci2] 52)))
  have HV2 := Lib.hid (hb2.rd.1.bl ((Bl.refl w2).alloc (.cells #[.int .u8 1, .slice A2 lkeys.length c2, .slice B2 lvals.length d2, .slice I2 0 ci2] 52)))
  have HM := Lib.hid (Ob.new w2 #[.int .u8 1, .slice A2 lkeys.length c2, .slice B2 lvals.length d2, .slice I2 0 ci2] 52)
  have HL2 := Lib.hid (hbl2.alloc (.cells #[.int .u8 1, .slice A2 lkeys.length c2, .slice B2 lvals.length d2, .slice I2 0 ci2] 52))
  obtain ⟨n0, n1, n2, n3, _⟩ := Ob.all4 (HN.out.bl (HL1.out.trans HL2.out))
  clear ha2 hb2 hi2 hg hbl2
  go_wp2_with fail
  have hf := node_Find 1 (some ⟨w.heap.size, 0, none⟩) (some ⟨w.heap.size + 1, 0, none⟩) none lkeys 2 2 2 0 0 ⟨#[99]⟩ _ (by decide) (HK1.out.bl (HL1.out.trans HL2.out))
  refine hf.mono ?_
  rintro e w3 ⟨rfl, hbl3⟩
  rw [nlive_find.1, nlive_find.2]
  obtain ⟨n0, n1, n2, n3, _⟩ := Ob.all4 (HN.out.bl ((HL1.out.trans HL2.out).trans hbl3))
  obtain ⟨m0, m1, m2, m3, _⟩ := Ob.all4 (HM.out.bl hbl3)
  have HL3 := Lib.hid hbl3
  clear hbl3 hf
  go_wp2_with fail
  have hsm := ref_nodeSame 1 1 A2 B2 I2 (some ⟨w.heap.size, 0, none⟩) (some ⟨w.heap.size + 1, 0, none⟩) none lkeys lvals lkeys lvals [] [] c2 d2 ci2 2 2 0 w3 (by decide) (by decide) (by decide) (HA2.out.bl HL3.out) (HV2.out.bl HL3.out) (Rd.nil _ _) (HK1.out.bl ((HL1.out.trans HL2.out).trans HL3.out)) (HV1.out.bl ((HL1.out.trans HL2.out).trans HL3.out)) (Rd.nil _ _)
  refine hsm.mono ?_
  rintro e w4 ⟨rfl, hbl4⟩
  rw [decide_eq_true (by simp)]
  go_wp2_with fail
  go_ret
  exact RetBl.mk rfl ((((HW.out.trans HL1.out).trans HL2.out).trans HL3.out).trans hbl4)
end Go.Proofs.Ytedmamchfgkkfaa
/- The law NodeParts of layer 18 walked. -/
set_option linter.unusedVariables false
set_option linter.unusedSimpArgs false
namespace Go.Proofs.Ytedmamchfgkkfaa
open Go.RowKit
set_option maxRecDepth 100000
set_option maxHeartbeats 4000000

/-- A variable of a node whose slices can be read. -/
structure NdAt (w : World) (g : Nat) (k : Int) (A : Option Addr) (keys : List ByteArray) (c : Nat) (B : Option Addr) (vals : List ByteArray) (d : Nat) (I : Option Addr) (kids : List Int) (ci : Nat) : Prop where
  ob : Ob w g 52 #[.int .u8 k, .slice A keys.length c, .slice B vals.length d, .slice I kids.length ci]
  rk : Rd w A (keys.map sv)
  rv : Rd w B (vals.map sv)
  rn : Rd w I (kids.map iv)
theorem NdAt.bl {w w' : World} {g : Nat} {k : Int} {A B I : Option Addr} {keys vals : List ByteArray} {kids : List Int} {c d ci : Nat} (h : NdAt w g k A keys c B vals d I kids ci) (b : Bl w w') : NdAt w' g k A keys c B vals d I kids ci :=
  ⟨h.ob.bl b, h.rk.bl b, h.rv.bl b, h.rn.bl b⟩
theorem NdAt.new {w : World} {k : Int} {A B I : Option Addr} {keys vals : List ByteArray} {kids : List Int} {c d ci : Nat} (rk : Rd w A (keys.map sv)) (rv : Rd w B (vals.map sv)) (rn : Rd w I (kids.map iv)) :
    NdAt (w.alloc (.cells #[.int .u8 k, .slice A keys.length c, .slice B vals.length d, .slice I kids.length ci] 52)) w.heap.size k A keys c B vals d I kids ci :=
  ⟨Ob.new w _ _, rk.bl ((Bl.refl w).alloc _), rv.bl ((Bl.refl w).alloc _), rn.bl ((Bl.refl w).alloc _)⟩
theorem nodePart_len (k : Int) (ks vs : List ByteArray) (is : List Int) : (nodePart k ks vs is).a.keys.length ≤ ks.length ∧ (nodePart k ks vs is).a.vals.length ≤ vs.length ∧ (nodePart k ks vs is).a.kids.length ≤ is.length ∧ (nodePart k ks vs is).b.keys.length ≤ ks.length ∧ (nodePart k ks vs is).b.vals.length ≤ vs.length ∧ (nodePart k ks vs is).b.kids.length ≤ is.length := by
  unfold nodePart
  split
  · simp [ndNil]
  · split
    · simp; omega
    · simp; omega
theorem joinEnd_len (k : Int) (ks vs : List ByteArray) (is : List Int) : (joinEnd k ks vs is).keys.length ≤ 14 ∧ (joinEnd k ks vs is).vals.length ≤ 14 ∧ (joinEnd k ks vs is).kids.length ≤ 14 := by
  unfold joinEnd
  split
  · simp [nodeNo]
  · rename_i h
    have h := nodeRight_or (by simpa using h)
    simp only
    rcases h.2 with ⟨_, h1, h2, h3, _⟩ | ⟨_, h1, h2, h3, h4, _⟩
    · subst h3; simp; omega
    · subst h4; simp; omega
theorem nodeJoin_len (a : Nd) (s : ByteArray) (b : Nd) : (nodeJoin a s b).keys.length ≤ 14 ∧ (nodeJoin a s b).vals.length ≤ 14 ∧ (nodeJoin a s b).kids.length ≤ 14 := by
  unfold nodeJoin
  split
  · simp [nodeNo]
  · split
    · exact joinEnd_len _ _ _ _
    · split
      · simp [nodeNo]
      · exact joinEnd_len _ _ _ _

theorem parts_calls (k : Int) (A B I : Option Addr) (keys vals : List ByteArray) (kids : List Int) (c d ci : Nat) (k2 : Int) (A2 B2 I2 : Option Addr) (keys2 vals2 : List ByteArray) (kids2 : List Int) (c2 d2 ci2 : Nat) (sep : ByteArray) (w : World)
    (hk : keys.length * 16 ≤ 140737488355328) (hv : vals.length * 16 ≤ 140737488355328) (hn : kids.length * 8 ≤ 140737488355328) (hkc : keys.length ≤ c) (hvd : vals.length ≤ d) (hic : kids.length ≤ ci)
    (hk2 : keys2.length * 16 ≤ 140737488355328) (hv2 : vals2.length * 16 ≤ 140737488355328) (hn2 : kids2.length * 8 ≤ 140737488355328)
    (rk : Rd w A (keys.map sv)) (rv : Rd w B (vals.map sv)) (rn : Rd w I (kids.map iv)) (rk2 : Rd w A2 (keys2.map sv)) (rv2 : Rd w B2 (vals2.map sv)) (rn2 : Rd w I2 (kids2.map iv)) :
    Calls Try.prog 8 #[nodeV k A keys.length c B vals.length d I kids.length ci, nodeV k2 A2 keys2.length c2 B2 vals2.length d2 I2 kids2.length ci2, .string sep] w (RetBl true w) := by
  have N1 := Lib.hid ((NdAt.new (k := k) (c := c) (d := d) (ci := ci) rk rv rn).bl ((Bl.refl _).alloc (.cells #[.int .u8 k2, .slice A2 keys2.length c2, .slice B2 vals2.length d2, .slice I2 kids2.length ci2] 52)))
  have n2 := (NdAt.new (w := w.alloc (.cells #[.int .u8 k, .slice A keys.length c, .slice B vals.length d, .slice I kids.length ci] 52)) (k := k2) (c := c2) (d := d2) (ci := ci2) (rk2.bl ((Bl.refl w).alloc _)) (rv2.bl ((Bl.refl w).alloc _)) (rn2.bl ((Bl.refl w).alloc _)))
  rw [heap_alloc_size] at n2
  have N2 := Lib.hid n2
  have HW := Lib.hid (((Bl.refl w).alloc (.cells #[.int .u8 k, .slice A keys.length c, .slice B vals.length d, .slice I kids.length ci] 52)).alloc (.cells #[.int .u8 k2, .slice A2 keys2.length c2, .slice B2 vals2.length d2, .slice I2 kids2.length ci2] 52))
  clear rk rv rn rk2 rv2 rn2 n2
  go_enter Try.func8, Try.ntmps8
  go_wp2_with fail
  generalize (w.alloc (.cells #[.int .u8 k, .slice A keys.length c, .slice B vals.length d, .slice I kids.length ci] 52)).alloc (.cells #[.int .u8 k2, .slice A2 keys2.length c2, .slice B2 vals2.length d2, .slice I2 kids2.length ci2] 52) = u at N1 N2 HW ⊢
  generalize w.heap.size + 1 = g2 at N2 ⊢
  generalize w.heap.size = g1 at N1 ⊢
  refine (ref_nodeCopy k A B I keys vals kids c d ci _ hk hv hn N1.out.rk N1.out.rv N1.out.rn).mono ?_
  rintro e w3 ⟨A3, c3, B3, d3, I3, ci3, rfl, hA3, hB3, hI3, hbl3, hap3⟩
  have N3 := Lib.hid (NdAt.new (k := k) (c := c3) (d := d3) (ci := ci3) hA3.rd.1 hB3.rd.1 hI3.rd.1)
  have L3 := Lib.hid (hbl3.alloc (.cells #[.int .u8 k, .slice A3 keys.length c3, .slice B3 vals.length d3, .slice I3 kids.length ci3] 52))
  have HC3 := Lib.hid (show keys.length ≤ c3 ∧ vals.length ≤ d3 ∧ kids.length ≤ ci3 by
    obtain ⟨_, _, e1, h1⟩ := hA3.slice
    obtain ⟨_, _, e2, h2⟩ := hB3.slice
    obtain ⟨_, _, e3, h3⟩ := hI3.slice
    cases e1; cases e2; cases e3; exact ⟨h1, h2, h3⟩)
  clear hA3 hB3 hI3 hap3 hbl3
  replace N1 := Lib.hid (N1.out.bl L3.out)
  replace N2 := Lib.hid (N2.out.bl L3.out)
  replace HW := Lib.hid (HW.out.trans L3.out)
  clear L3
  obtain ⟨q1_0, q1_1, q1_2, q1_3, _⟩ := Ob.all4 N2.out.ob
  go_wp2_with fail
  clear q1_0 q1_1 q1_2 q1_3
  generalize w3.alloc (.cells #[.int .u8 k, .slice A3 keys.length c3, .slice B3 vals.length d3, .slice I3 kids.length ci3] 52) = v3 at N1 N2 N3 HW ⊢
  generalize w3.heap.size = g3 at N3 ⊢
  refine (ref_nodeCopy k2 A2 B2 I2 keys2 vals2 kids2 c2 d2 ci2 _ hk2 hv2 hn2 N2.out.rk N2.out.rv N2.out.rn).mono ?_
  rintro e w4 ⟨A4, c4, B4, d4, I4, ci4, rfl, hA4, hB4, hI4, hbl4, hap4⟩
  have N4 := Lib.hid (NdAt.new (k := k2) (c := c4) (d := d4) (ci := ci4) hA4.rd.1 hB4.rd.1 hI4.rd.1)
  have L4 := Lib.hid (hbl4.alloc (.cells #[.int .u8 k2, .slice A4 keys2.length c4, .slice B4 vals2.length d4, .slice I4 kids2.length ci4] 52))
  have HC4 := Lib.hid (show keys2.length ≤ c4 ∧ vals2.length ≤ d4 ∧ kids2.length ≤ ci4 by
    obtain ⟨_, _, e1, h1⟩ := hA4.slice
    obtain ⟨_, _, e2, h2⟩ := hB4.slice
    obtain ⟨_, _, e3, h3⟩ := hI4.slice
    cases e1; cases e2; cases e3; exact ⟨h1, h2, h3⟩)
  clear hA4 hB4 hI4 hap4 hbl4
  replace N1 := Lib.hid (N1.out.bl L4.out)
  replace N2 := Lib.hid (N2.out.bl L4.out)
  replace N3 := Lib.hid (N3.out.bl L4.out)
  replace HW := Lib.hid (HW.out.trans L4.out)
  clear L4
  obtain ⟨q2_0, q2_1, q2_2, q2_3, _⟩ := Ob.all4 N3.out.ob
  go_wp2_with fail
  clear q2_0 q2_1 q2_2 q2_3
  generalize w4.alloc (.cells #[.int .u8 k2, .slice A4 keys2.length c4, .slice B4 vals2.length d4, .slice I4 kids2.length ci4] 52) = v4 at N1 N2 N3 N4 HW ⊢
  generalize w4.heap.size = g4 at N4 ⊢
  refine (node_Part k A3 B3 I3 keys vals kids c3 d3 ci3 _ hk hv hn HC3.out.1 HC3.out.2.1 HC3.out.2.2 N3.out.rk N3.out.rv N3.out.rn).mono ?_
  have HPL := Lib.hid (nodePart_len k keys vals kids)
  generalize hpp : nodePart k keys vals kids = pr at HPL ⊢
  have HPP := Lib.hid hpp
  clear hpp
  rintro e w5 ⟨cs5, cs6, rfl, ⟨A5, c5, B5, d5, I5, ci5, rfl, ra5, rb5, ri5⟩, ⟨A6, c6, B6, d6, I6, ci6, rfl, ra6, rb6, ri6⟩, hbl5⟩
  have N5 := Lib.hid ((NdAt.new (k := pr.a.k) (c := c5) (d := d5) (ci := ci5) ra5 rb5 ri5).bl ((Bl.refl _).alloc (.cells #[.int .u8 pr.b.k, .slice A6 pr.b.keys.length c6, .slice B6 pr.b.vals.length d6, .slice I6 pr.b.kids.length ci6] 52)))
  have n6 := NdAt.new (w := w5.alloc (.cells #[.int .u8 pr.a.k, .slice A5 pr.a.keys.length c5, .slice B5 pr.a.vals.length d5, .slice I5 pr.a.kids.length ci5] 52)) (k := pr.b.k) (c := c6) (d := d6) (ci := ci6) (ra6.bl ((Bl.refl w5).alloc _)) (rb6.bl ((Bl.refl w5).alloc _)) (ri6.bl ((Bl.refl w5).alloc _))
  rw [heap_alloc_size] at n6
  have N6 := Lib.hid n6
  have L5 := Lib.hid ((hbl5.alloc (.cells #[.int .u8 pr.a.k, .slice A5 pr.a.keys.length c5, .slice B5 pr.a.vals.length d5, .slice I5 pr.a.kids.length ci5] 52)).alloc (.cells #[.int .u8 pr.b.k, .slice A6 pr.b.keys.length c6, .slice B6 pr.b.vals.length d6, .slice I6 pr.b.kids.length ci6] 52))
  clear ra5 rb5 ri5 ra6 rb6 ri6 n6 hbl5
  replace N1 := Lib.hid (N1.out.bl L5.out)
  replace N2 := Lib.hid (N2.out.bl L5.out)
  replace N3 := Lib.hid (N3.out.bl L5.out)
  replace N4 := Lib.hid (N4.out.bl L5.out)
  replace HW := Lib.hid (HW.out.trans L5.out)
  clear L5
  obtain ⟨q3_0, q3_1, q3_2, q3_3, _⟩ := Ob.all4 N1.out.ob
  go_wp2_with fail
  clear q3_0 q3_1 q3_2 q3_3
  generalize (w5.alloc (.cells #[.int .u8 pr.a.k, .slice A5 pr.a.keys.length c5, .slice B5 pr.a.vals.length d5, .slice I5 pr.a.kids.length ci5] 52)).alloc (.cells #[.int .u8 pr.b.k, .slice A6 pr.b.keys.length c6, .slice B6 pr.b.vals.length d6, .slice I6 pr.b.kids.length ci6] 52) = v5 at N1 N2 N3 N4 N5 N6 HW ⊢
  generalize w5.heap.size + 1 = g6 at N6 ⊢
  generalize w5.heap.size = g5 at N5 ⊢
  refine (ref_nodePart k A B I keys vals kids c d ci _ hk hv hn hkc hvd hic N1.out.rk N1.out.rv N1.out.rn).mono ?_
  rw [HPP.out]
  rintro e w7 ⟨cs7, cs8, rfl, ⟨A7, c7, B7, d7, I7, ci7, rfl, ra7, rb7, ri7⟩, ⟨A8, c8, B8, d8, I8, ci8, rfl, ra8, rb8, ri8⟩, hbl7⟩
  have N7 := Lib.hid ((NdAt.new (k := pr.a.k) (c := c7) (d := d7) (ci := ci7) ra7 rb7 ri7).bl ((Bl.refl _).alloc (.cells #[.int .u8 pr.b.k, .slice A8 pr.b.keys.length c8, .slice B8 pr.b.vals.length d8, .slice I8 pr.b.kids.length ci8] 52)))
  have n8 := NdAt.new (w := w7.alloc (.cells #[.int .u8 pr.a.k, .slice A7 pr.a.keys.length c7, .slice B7 pr.a.vals.length d7, .slice I7 pr.a.kids.length ci7] 52)) (k := pr.b.k) (c := c8) (d := d8) (ci := ci8) (ra8.bl ((Bl.refl w7).alloc _)) (rb8.bl ((Bl.refl w7).alloc _)) (ri8.bl ((Bl.refl w7).alloc _))
  rw [heap_alloc_size] at n8
  have N8 := Lib.hid n8
  have L7 := Lib.hid ((hbl7.alloc (.cells #[.int .u8 pr.a.k, .slice A7 pr.a.keys.length c7, .slice B7 pr.a.vals.length d7, .slice I7 pr.a.kids.length ci7] 52)).alloc (.cells #[.int .u8 pr.b.k, .slice A8 pr.b.keys.length c8, .slice B8 pr.b.vals.length d8, .slice I8 pr.b.kids.length ci8] 52))
  clear ra7 rb7 ri7 ra8 rb8 ri8 n8 hbl7
  replace N1 := Lib.hid (N1.out.bl L7.out)
  replace N2 := Lib.hid (N2.out.bl L7.out)
  replace N3 := Lib.hid (N3.out.bl L7.out)
  replace N4 := Lib.hid (N4.out.bl L7.out)
  replace N5 := Lib.hid (N5.out.bl L7.out)
  replace N6 := Lib.hid (N6.out.bl L7.out)
  replace HW := Lib.hid (HW.out.trans L7.out)
  clear L7
  obtain ⟨q4_0, q4_1, q4_2, q4_3, _⟩ := Ob.all4 N5.out.ob
  obtain ⟨q5_0, q5_1, q5_2, q5_3, _⟩ := Ob.all4 N7.out.ob
  go_wp2_with fail
  clear q4_0 q4_1 q4_2 q4_3 q5_0 q5_1 q5_2 q5_3
  generalize (w7.alloc (.cells #[.int .u8 pr.a.k, .slice A7 pr.a.keys.length c7, .slice B7 pr.a.vals.length d7, .slice I7 pr.a.kids.length ci7] 52)).alloc (.cells #[.int .u8 pr.b.k, .slice A8 pr.b.keys.length c8, .slice B8 pr.b.vals.length d8, .slice I8 pr.b.kids.length ci8] 52) = v7 at N1 N2 N3 N4 N5 N6 N7 N8 HW ⊢
  generalize w7.heap.size + 1 = g8 at N8 ⊢
  generalize w7.heap.size = g7 at N7 ⊢
  have e0 : (pr.sep.toList == pr.sep.toList) = true := by simp
  have e1 : (pr.e == pr.e) = true := by simp
  refine (ref_nodeSame pr.a.k pr.a.k A5 B5 I5 A7 B7 I7 pr.a.keys pr.a.vals pr.a.keys pr.a.vals pr.a.kids pr.a.kids c5 d5 ci5 c7 d7 ci7 _ (by have := HPL.out; omega) (by have := HPL.out; omega) (by have := HPL.out; omega) N5.out.rk N5.out.rv N5.out.rn N7.out.rk N7.out.rv N7.out.rn).mono ?_
  rintro e w9 ⟨rfl, hbl9⟩
  rw [decide_eq_true (by exact ⟨rfl, rfl, rfl, rfl⟩)]
  have L9 := Lib.hid hbl9
  clear hbl9
  replace N1 := Lib.hid (N1.out.bl L9.out)
  replace N2 := Lib.hid (N2.out.bl L9.out)
  replace N3 := Lib.hid (N3.out.bl L9.out)
  replace N4 := Lib.hid (N4.out.bl L9.out)
  replace N5 := Lib.hid (N5.out.bl L9.out)
  replace N6 := Lib.hid (N6.out.bl L9.out)
  replace N7 := Lib.hid (N7.out.bl L9.out)
  replace N8 := Lib.hid (N8.out.bl L9.out)
  replace HW := Lib.hid (HW.out.trans L9.out)
  clear L9
  obtain ⟨q6_0, q6_1, q6_2, q6_3, _⟩ := Ob.all4 N6.out.ob
  obtain ⟨q7_0, q7_1, q7_2, q7_3, _⟩ := Ob.all4 N8.out.ob
  go_wp2_with fail
  clear q6_0 q6_1 q6_2 q6_3 q7_0 q7_1 q7_2 q7_3
  refine (ref_nodeSame pr.b.k pr.b.k A6 B6 I6 A8 B8 I8 pr.b.keys pr.b.vals pr.b.keys pr.b.vals pr.b.kids pr.b.kids c6 d6 ci6 c8 d8 ci8 _ (by have := HPL.out; omega) (by have := HPL.out; omega) (by have := HPL.out; omega) N6.out.rk N6.out.rv N6.out.rn N8.out.rk N8.out.rv N8.out.rn).mono ?_
  rintro e w10 ⟨rfl, hbl10⟩
  rw [decide_eq_true (by exact ⟨rfl, rfl, rfl, rfl⟩)]
  have L10 := Lib.hid hbl10
  clear hbl10
  replace N1 := Lib.hid (N1.out.bl L10.out)
  replace N2 := Lib.hid (N2.out.bl L10.out)
  replace N3 := Lib.hid (N3.out.bl L10.out)
  replace N4 := Lib.hid (N4.out.bl L10.out)
  replace N5 := Lib.hid (N5.out.bl L10.out)
  replace N6 := Lib.hid (N6.out.bl L10.out)
  replace N7 := Lib.hid (N7.out.bl L10.out)
  replace N8 := Lib.hid (N8.out.bl L10.out)
  replace HW := Lib.hid (HW.out.trans L10.out)
  clear L10
  obtain ⟨q8_0, q8_1, q8_2, q8_3, _⟩ := Ob.all4 N3.out.ob
  obtain ⟨q9_0, q9_1, q9_2, q9_3, _⟩ := Ob.all4 N4.out.ob
  go_wp2_with fail
  clear q8_0 q8_1 q8_2 q8_3 q9_0 q9_1 q9_2 q9_3
  refine (node_Join k A3 B3 I3 keys vals kids c3 d3 ci3 sep k2 A4 B4 I4 keys2 vals2 kids2 c4 d4 ci4 _ hk hv hn hk2 hv2 hn2 N3.out.rk N3.out.rv N3.out.rn N4.out.rk N4.out.rv N4.out.rn).mono ?_
  have HJL := Lib.hid (nodeJoin_len ⟨k, keys, vals, kids⟩ sep ⟨k2, keys2, vals2, kids2⟩)
  generalize hjj : nodeJoin ⟨k, keys, vals, kids⟩ sep ⟨k2, keys2, vals2, kids2⟩ = jr at HJL ⊢
  have HJJ := Lib.hid hjj
  clear hjj
  intro e w11 hret
  obtain ⟨A11, c11, B11, d11, I11, ci11, rfl, ra11, rb11, ri11, hbl11, _, _, _⟩ := hret
  have N11 := Lib.hid (NdAt.new (k := jr.k) (c := c11) (d := d11) (ci := ci11) ra11 rb11 ri11)
  have L11 := Lib.hid (hbl11.alloc (.cells #[.int .u8 jr.k, .slice A11 jr.keys.length c11, .slice B11 jr.vals.length d11, .slice I11 jr.kids.length ci11] 52))
  clear ra11 rb11 ri11 hbl11
  replace N1 := Lib.hid (N1.out.bl L11.out)
  replace N2 := Lib.hid (N2.out.bl L11.out)
  replace N3 := Lib.hid (N3.out.bl L11.out)
  replace N4 := Lib.hid (N4.out.bl L11.out)
  replace N5 := Lib.hid (N5.out.bl L11.out)
  replace N6 := Lib.hid (N6.out.bl L11.out)
  replace N7 := Lib.hid (N7.out.bl L11.out)
  replace N8 := Lib.hid (N8.out.bl L11.out)
  replace HW := Lib.hid (HW.out.trans L11.out)
  clear L11
  obtain ⟨q10_0, q10_1, q10_2, q10_3, _⟩ := Ob.all4 N1.out.ob
  obtain ⟨q11_0, q11_1, q11_2, q11_3, _⟩ := Ob.all4 N2.out.ob
  go_wp2_with fail
  clear q10_0 q10_1 q10_2 q10_3 q11_0 q11_1 q11_2 q11_3
  generalize w11.alloc (.cells #[.int .u8 jr.k, .slice A11 jr.keys.length c11, .slice B11 jr.vals.length d11, .slice I11 jr.kids.length ci11] 52) = v11 at N1 N2 N3 N4 N5 N6 N7 N8 N11 HW ⊢
  generalize w11.heap.size = g11 at N11 ⊢
  refine (ref_nodeJoin k A B I keys vals kids c d ci sep k2 A2 B2 I2 keys2 vals2 kids2 c2 d2 ci2 _ hk hv hn hk2 hv2 hn2 N1.out.rk N1.out.rv N1.out.rn N2.out.rk N2.out.rv N2.out.rn).mono ?_
  rw [HJJ.out]
  intro e w12 hret0
  have hret := hret0.rd
  clear hret0
  obtain ⟨A12, c12, B12, d12, I12, ci12, rfl, ra12, rb12, ri12, hbl12, _, _, _⟩ := hret
  have N12 := Lib.hid (NdAt.new (k := jr.k) (c := c12) (d := d12) (ci := ci12) ra12 rb12 ri12)
  have L12 := Lib.hid (hbl12.alloc (.cells #[.int .u8 jr.k, .slice A12 jr.keys.length c12, .slice B12 jr.vals.length d12, .slice I12 jr.kids.length ci12] 52))
  clear ra12 rb12 ri12 hbl12
  replace N1 := Lib.hid (N1.out.bl L12.out)
  replace N2 := Lib.hid (N2.out.bl L12.out)
  replace N3 := Lib.hid (N3.out.bl L12.out)
  replace N4 := Lib.hid (N4.out.bl L12.out)
  replace N5 := Lib.hid (N5.out.bl L12.out)
  replace N6 := Lib.hid (N6.out.bl L12.out)
  replace N7 := Lib.hid (N7.out.bl L12.out)
  replace N8 := Lib.hid (N8.out.bl L12.out)
  replace N11 := Lib.hid (N11.out.bl L12.out)
  replace HW := Lib.hid (HW.out.trans L12.out)
  clear L12
  obtain ⟨q12_0, q12_1, q12_2, q12_3, _⟩ := Ob.all4 N11.out.ob
  go_wp2_with fail
  clear q12_0 q12_1 q12_2 q12_3
  generalize w12.alloc (.cells #[.int .u8 jr.k, .slice A12 jr.keys.length c12, .slice B12 jr.vals.length d12, .slice I12 jr.kids.length ci12] 52) = v12 at N1 N2 N3 N4 N5 N6 N7 N8 N11 N12 HW ⊢
  generalize w12.heap.size = g12 at N12 ⊢
  have e2 : (jr.e == jr.e) = true := by simp
  refine (ref_nodeSame jr.k jr.k A11 B11 I11 A12 B12 I12 jr.keys jr.vals jr.keys jr.vals jr.kids jr.kids c11 d11 ci11 c12 d12 ci12 _ (by have := HJL.out; omega) (by have := HJL.out; omega) (by have := HJL.out; omega) N11.out.rk N11.out.rv N11.out.rn N12.out.rk N12.out.rv N12.out.rn).mono ?_
  rintro e w13 ⟨rfl, hbl13⟩
  rw [decide_eq_true (by exact ⟨rfl, rfl, rfl, rfl⟩)]
  have L13 := Lib.hid hbl13
  clear hbl13
  replace N1 := Lib.hid (N1.out.bl L13.out)
  replace N2 := Lib.hid (N2.out.bl L13.out)
  replace N3 := Lib.hid (N3.out.bl L13.out)
  replace N4 := Lib.hid (N4.out.bl L13.out)
  replace N5 := Lib.hid (N5.out.bl L13.out)
  replace N6 := Lib.hid (N6.out.bl L13.out)
  replace N7 := Lib.hid (N7.out.bl L13.out)
  replace N8 := Lib.hid (N8.out.bl L13.out)
  replace N11 := Lib.hid (N11.out.bl L13.out)
  replace N12 := Lib.hid (N12.out.bl L13.out)
  replace HW := Lib.hid (HW.out.trans L13.out)
  clear L13
  obtain ⟨q13_0, q13_1, q13_2, q13_3, _⟩ := Ob.all4 N3.out.ob
  obtain ⟨q14_0, q14_1, q14_2, q14_3, _⟩ := Ob.all4 N1.out.ob
  go_wp2_with fail
  clear q13_0 q13_1 q13_2 q13_3 q14_0 q14_1 q14_2 q14_3
  refine (ref_nodeSame k k A3 B3 I3 A B I keys vals keys vals kids kids c3 d3 ci3 c d ci _ (by omega) (by omega) (by omega) N3.out.rk N3.out.rv N3.out.rn N1.out.rk N1.out.rv N1.out.rn).mono ?_
  rintro e w14 ⟨rfl, hbl14⟩
  rw [decide_eq_true (by exact ⟨rfl, rfl, rfl, rfl⟩)]
  have L14 := Lib.hid hbl14
  clear hbl14
  replace N1 := Lib.hid (N1.out.bl L14.out)
  replace N2 := Lib.hid (N2.out.bl L14.out)
  replace N3 := Lib.hid (N3.out.bl L14.out)
  replace N4 := Lib.hid (N4.out.bl L14.out)
  replace N5 := Lib.hid (N5.out.bl L14.out)
  replace N6 := Lib.hid (N6.out.bl L14.out)
  replace N7 := Lib.hid (N7.out.bl L14.out)
  replace N8 := Lib.hid (N8.out.bl L14.out)
  replace N11 := Lib.hid (N11.out.bl L14.out)
  replace N12 := Lib.hid (N12.out.bl L14.out)
  replace HW := Lib.hid (HW.out.trans L14.out)
  clear L14
  obtain ⟨q15_0, q15_1, q15_2, q15_3, _⟩ := Ob.all4 N4.out.ob
  obtain ⟨q16_0, q16_1, q16_2, q16_3, _⟩ := Ob.all4 N2.out.ob
  go_wp2_with fail
  clear q15_0 q15_1 q15_2 q15_3 q16_0 q16_1 q16_2 q16_3
  refine (ref_nodeSame k2 k2 A4 B4 I4 A2 B2 I2 keys2 vals2 keys2 vals2 kids2 kids2 c4 d4 ci4 c2 d2 ci2 _ (by omega) (by omega) (by omega) N4.out.rk N4.out.rv N4.out.rn N2.out.rk N2.out.rv N2.out.rn).mono ?_
  rintro e w15 ⟨rfl, hbl15⟩
  rw [decide_eq_true (by exact ⟨rfl, rfl, rfl, rfl⟩)]
  have L15 := Lib.hid hbl15
  clear hbl15
  replace N1 := Lib.hid (N1.out.bl L15.out)
  replace N2 := Lib.hid (N2.out.bl L15.out)
  replace N3 := Lib.hid (N3.out.bl L15.out)
  replace N4 := Lib.hid (N4.out.bl L15.out)
  replace N5 := Lib.hid (N5.out.bl L15.out)
  replace N6 := Lib.hid (N6.out.bl L15.out)
  replace N7 := Lib.hid (N7.out.bl L15.out)
  replace N8 := Lib.hid (N8.out.bl L15.out)
  replace N11 := Lib.hid (N11.out.bl L15.out)
  replace N12 := Lib.hid (N12.out.bl L15.out)
  replace HW := Lib.hid (HW.out.trans L15.out)
  clear L15
  go_wp2_with fail
  refine (node_lives _).mono ?_
  rintro e w16 ⟨rfl, hbl16⟩
  go_wp2_with fail
  go_ret
  exact RetBl.mk rfl (HW.out.trans hbl16)
end Go.Proofs.Ytedmamchfgkkfaa
/- The law NodeSets of layer 18 walked (printed by gen_law18c.py). -/
set_option linter.unusedVariables false
set_option linter.unusedSimpArgs false
namespace Go.Proofs.Ytedmamchfgkkfaa
open Go.RowKit
set_option maxRecDepth 100000
set_option maxHeartbeats 4000000

theorem nodeSet_len (n : Nd) (key value : ByteArray) : (nodeSet n key value).keys.length ≤ 30 ∧ (nodeSet n key value).vals.length ≤ 30 ∧ (nodeSet n key value).kids.length ≤ 30 := by
  have pl : ∀ (xs : List ByteArray) (x : ByteArray) (k : Nat) (is : Bool), (putAt xs x k is).length ≤ xs.length + 1 + xs.length := by
    intro xs x k is; unfold putAt; simp; omega
  unfold nodeSet
  split
  · simp [nodeNo]
  · rename_i hb
    split
    · simp [nodeNo]
    · have hr : nodeRight n.k n.keys n.vals n.kids 12 13 = true := by
        cases h : nodeRight n.k n.keys n.vals n.kids 12 13
        · exact absurd (.inr (.inl h)) hb
        · rfl
      have hk : n.k = 1 := by
        apply Classical.byContradiction
        exact fun h => hb (.inl h)
      have h2 := (nodeRight_or hr).2
      have h3 : n.keys.length ≤ 12 ∧ n.vals.length = n.keys.length := by
        rcases h2 with h2 | h2
        · exact ⟨h2.2.1, h2.2.2.1⟩
        · omega
      have p1 := pl n.keys key (findN n.keys key) (findIs n.keys key)
      have p2 := pl n.vals value (findN n.keys key) (findIs n.keys key)
      simp only [List.length_nil]
      omega
theorem nodeCut_len (n : Nd) (key : ByteArray) : (nodeCut n key).keys.length ≤ 30 ∧ (nodeCut n key).vals.length ≤ 30 ∧ (nodeCut n key).kids.length ≤ 30 := by
  unfold nodeCut
  split
  · simp [nodeNo]
  · rename_i hb
    split
    · simp [nodeNo]
    · have hr : nodeRight n.k n.keys n.vals n.kids 12 13 = true := by
        cases h : nodeRight n.k n.keys n.vals n.kids 12 13
        · exact absurd (.inr h) hb
        · rfl
      have hk : n.k = 1 := by
        apply Classical.byContradiction
        exact fun h => hb (.inl h)
      have h2 := (nodeRight_or hr).2
      have h3 : n.keys.length ≤ 12 ∧ n.vals.length = n.keys.length := by
        rcases h2 with h2 | h2
        · exact ⟨h2.2.1, h2.2.2.1⟩
        · omega
      have p1 := List.length_eraseIdx_le n.keys (findN n.keys key)
      have p2 := List.length_eraseIdx_le n.vals (findN n.keys key)
      simp only [List.length_nil]
      omega
theorem sets_calls (k : Int) (A B I : Option Addr) (keys vals : List ByteArray) (kids : List Int) (c d ci : Nat) (key value : ByteArray) (w : World)
    (hk : keys.length * 16 ≤ 140737488355328) (hv : vals.length * 16 ≤ 140737488355328) (hn : kids.length * 8 ≤ 140737488355328)
    (rk : Rd w A (keys.map sv)) (rv : Rd w B (vals.map sv)) (rn : Rd w I (kids.map iv)) :
    Calls Try.prog 10 #[nodeV k A keys.length c B vals.length d I kids.length ci, .string key, .string value] w (RetBl true w) := by
  have N1 := Lib.hid (NdAt.new (k := k) (c := c) (d := d) (ci := ci) rk rv rn)
  have HW := Lib.hid ((Bl.refl w).alloc (.cells #[.int .u8 k, .slice A keys.length c, .slice B vals.length d, .slice I kids.length ci] 52))
  clear rk rv rn
  go_enter Try.func10, Try.ntmps10
  go_wp2_with fail
  generalize w.alloc (.cells #[.int .u8 k, .slice A keys.length c, .slice B vals.length d, .slice I kids.length ci] 52) = u at N1 HW ⊢
  generalize w.heap.size = g1 at N1 ⊢
  refine (ref_nodeCopy k A B I keys vals kids c d ci _ hk hv hn N1.out.rk N1.out.rv N1.out.rn).mono ?_
  rintro e w3 ⟨A3, c3, B3, d3, I3, ci3, rfl, hA3, hB3, hI3, hbl3, hap3⟩
  have N3 := Lib.hid (NdAt.new (k := k) (c := c3) (d := d3) (ci := ci3) hA3.rd.1 hB3.rd.1 hI3.rd.1)
  have L3 := Lib.hid (hbl3.alloc (.cells #[.int .u8 k, .slice A3 keys.length c3, .slice B3 vals.length d3, .slice I3 kids.length ci3] 52))
  clear hA3 hB3 hI3 hap3 hbl3
  replace N1 := Lib.hid (N1.out.bl L3.out)
  replace HW := Lib.hid (HW.out.trans L3.out)
  clear L3
  obtain ⟨q1_0, q1_1, q1_2, q1_3, _⟩ := Ob.all4 N3.out.ob
  go_wp2_with fail
  clear q1_0 q1_1 q1_2 q1_3
  generalize w3.alloc (.cells #[.int .u8 k, .slice A3 keys.length c3, .slice B3 vals.length d3, .slice I3 kids.length ci3] 52) = v3 at N1 N3 HW ⊢
  generalize w3.heap.size = g3 at N3 ⊢
  have hq := node_Set k A3 B3 I3 keys vals kids c3 d3 ci3 key value _ hk hv hn N3.out.rk N3.out.rv N3.out.rn
  have HsrL := Lib.hid (nodeSet_len ⟨k, keys, vals, kids⟩ key value)
  generalize hsr : nodeSet ⟨k, keys, vals, kids⟩ key value = sr at hq HsrL
  have Hsr := Lib.hid hsr
  clear hsr
  refine hq.mono ?_
  rintro e w4 ⟨A4, c4, B4, d4, I4, ci4, rfl, ra4, rb4, ri4, hbl4, _, _, _⟩
  have N4 := Lib.hid (NdAt.new (k := sr.k) (c := c4) (d := d4) (ci := ci4) ra4 rb4 ri4)
  have L4 := Lib.hid (hbl4.alloc (.cells #[.int .u8 sr.k, .slice A4 sr.keys.length c4, .slice B4 sr.vals.length d4, .slice I4 sr.kids.length ci4] 52))
  clear ra4 rb4 ri4 hbl4 hq
  replace N1 := Lib.hid (N1.out.bl L4.out)
  replace N3 := Lib.hid (N3.out.bl L4.out)
  replace HW := Lib.hid (HW.out.trans L4.out)
  clear L4
  obtain ⟨q2_0, q2_1, q2_2, q2_3, _⟩ := Ob.all4 N1.out.ob
  go_wp2_with fail
  clear q2_0 q2_1 q2_2 q2_3
  generalize w4.alloc (.cells #[.int .u8 sr.k, .slice A4 sr.keys.length c4, .slice B4 sr.vals.length d4, .slice I4 sr.kids.length ci4] 52) = v4 at N1 N3 N4 HW ⊢
  generalize w4.heap.size = g4 at N4 ⊢
  have hq := ref_nodeSet k A B I keys vals kids c d ci key value _ hk hv hn N1.out.rk N1.out.rv N1.out.rn
  rw [Hsr.out] at hq
  refine hq.mono ?_
  rintro e w5 ⟨A5, c5, B5, d5, I5, ci5, rfl, ra5, rb5, ri5, hbl5, _, _, _⟩
  have N5 := Lib.hid (NdAt.new (k := sr.k) (c := c5) (d := d5) (ci := ci5) ra5 rb5 ri5)
  have L5 := Lib.hid (hbl5.alloc (.cells #[.int .u8 sr.k, .slice A5 sr.keys.length c5, .slice B5 sr.vals.length d5, .slice I5 sr.kids.length ci5] 52))
  clear ra5 rb5 ri5 hbl5 hq
  replace N1 := Lib.hid (N1.out.bl L5.out)
  replace N3 := Lib.hid (N3.out.bl L5.out)
  replace N4 := Lib.hid (N4.out.bl L5.out)
  replace HW := Lib.hid (HW.out.trans L5.out)
  clear L5
  obtain ⟨q3_0, q3_1, q3_2, q3_3, _⟩ := Ob.all4 N3.out.ob
  go_wp2_with fail
  clear q3_0 q3_1 q3_2 q3_3
  generalize w5.alloc (.cells #[.int .u8 sr.k, .slice A5 sr.keys.length c5, .slice B5 sr.vals.length d5, .slice I5 sr.kids.length ci5] 52) = v5 at N1 N3 N4 N5 HW ⊢
  generalize w5.heap.size = g5 at N5 ⊢
  have hq := node_Cut k A3 B3 I3 keys vals kids c3 d3 ci3 key _ hk hv hn N3.out.rk N3.out.rv N3.out.rn
  have HcrL := Lib.hid (nodeCut_len ⟨k, keys, vals, kids⟩ key)
  generalize hcr : nodeCut ⟨k, keys, vals, kids⟩ key = cr at hq HcrL
  have Hcr := Lib.hid hcr
  clear hcr
  refine hq.mono ?_
  rintro e w6 ⟨A6, c6, B6, d6, I6, ci6, rfl, ra6, rb6, ri6, hbl6, _, _, _⟩
  have N6 := Lib.hid (NdAt.new (k := cr.k) (c := c6) (d := d6) (ci := ci6) ra6 rb6 ri6)
  have L6 := Lib.hid (hbl6.alloc (.cells #[.int .u8 cr.k, .slice A6 cr.keys.length c6, .slice B6 cr.vals.length d6, .slice I6 cr.kids.length ci6] 52))
  clear ra6 rb6 ri6 hbl6 hq
  replace N1 := Lib.hid (N1.out.bl L6.out)
  replace N3 := Lib.hid (N3.out.bl L6.out)
  replace N4 := Lib.hid (N4.out.bl L6.out)
  replace N5 := Lib.hid (N5.out.bl L6.out)
  replace HW := Lib.hid (HW.out.trans L6.out)
  clear L6
  obtain ⟨q4_0, q4_1, q4_2, q4_3, _⟩ := Ob.all4 N1.out.ob
  go_wp2_with fail
  clear q4_0 q4_1 q4_2 q4_3
  generalize w6.alloc (.cells #[.int .u8 cr.k, .slice A6 cr.keys.length c6, .slice B6 cr.vals.length d6, .slice I6 cr.kids.length ci6] 52) = v6 at N1 N3 N4 N5 N6 HW ⊢
  generalize w6.heap.size = g6 at N6 ⊢
  have hq := ref_nodeCut k A B I keys vals kids c d ci key _ hk hv hn N1.out.rk N1.out.rv N1.out.rn
  rw [Hcr.out] at hq
  refine hq.mono ?_
  rintro e w7 ⟨A7, c7, B7, d7, I7, ci7, rfl, ra7, rb7, ri7, hbl7, _, _, _⟩
  have N7 := Lib.hid (NdAt.new (k := cr.k) (c := c7) (d := d7) (ci := ci7) ra7 rb7 ri7)
  have L7 := Lib.hid (hbl7.alloc (.cells #[.int .u8 cr.k, .slice A7 cr.keys.length c7, .slice B7 cr.vals.length d7, .slice I7 cr.kids.length ci7] 52))
  clear ra7 rb7 ri7 hbl7 hq
  replace N1 := Lib.hid (N1.out.bl L7.out)
  replace N3 := Lib.hid (N3.out.bl L7.out)
  replace N4 := Lib.hid (N4.out.bl L7.out)
  replace N5 := Lib.hid (N5.out.bl L7.out)
  replace N6 := Lib.hid (N6.out.bl L7.out)
  replace HW := Lib.hid (HW.out.trans L7.out)
  clear L7
  obtain ⟨q5_0, q5_1, q5_2, q5_3, _⟩ := Ob.all4 N4.out.ob
  obtain ⟨q6_0, q6_1, q6_2, q6_3, _⟩ := Ob.all4 N5.out.ob
  go_wp2_with fail
  clear q5_0 q5_1 q5_2 q5_3 q6_0 q6_1 q6_2 q6_3
  generalize w7.alloc (.cells #[.int .u8 cr.k, .slice A7 cr.keys.length c7, .slice B7 cr.vals.length d7, .slice I7 cr.kids.length ci7] 52) = v7 at N1 N3 N4 N5 N6 N7 HW ⊢
  generalize w7.heap.size = g7 at N7 ⊢
  have e1 : (sr.e == sr.e) = true := by simp
  have e2 : (cr.e == cr.e) = true := by simp
  refine (ref_nodeSame sr.k sr.k A4 B4 I4 A5 B5 I5 sr.keys sr.vals sr.keys sr.vals sr.kids sr.kids c4 d4 ci4 c5 d5 ci5 _ (by have := HsrL.out; omega) (by have := HsrL.out; omega) (by have := HsrL.out; omega) N4.out.rk N4.out.rv N4.out.rn N5.out.rk N5.out.rv N5.out.rn).mono ?_
  rintro e w8 ⟨rfl, hbl8⟩
  rw [decide_eq_true (by exact ⟨rfl, rfl, rfl, rfl⟩)]
  have L8 := Lib.hid hbl8
  clear hbl8
  replace N1 := Lib.hid (N1.out.bl L8.out)
  replace N3 := Lib.hid (N3.out.bl L8.out)
  replace N4 := Lib.hid (N4.out.bl L8.out)
  replace N5 := Lib.hid (N5.out.bl L8.out)
  replace N6 := Lib.hid (N6.out.bl L8.out)
  replace N7 := Lib.hid (N7.out.bl L8.out)
  replace HW := Lib.hid (HW.out.trans L8.out)
  clear L8
  obtain ⟨q7_0, q7_1, q7_2, q7_3, _⟩ := Ob.all4 N6.out.ob
  obtain ⟨q8_0, q8_1, q8_2, q8_3, _⟩ := Ob.all4 N7.out.ob
  go_wp2_with fail
  clear q7_0 q7_1 q7_2 q7_3 q8_0 q8_1 q8_2 q8_3
  refine (ref_nodeSame cr.k cr.k A6 B6 I6 A7 B7 I7 cr.keys cr.vals cr.keys cr.vals cr.kids cr.kids c6 d6 ci6 c7 d7 ci7 _ (by have := HcrL.out; omega) (by have := HcrL.out; omega) (by have := HcrL.out; omega) N6.out.rk N6.out.rv N6.out.rn N7.out.rk N7.out.rv N7.out.rn).mono ?_
  rintro e w9 ⟨rfl, hbl9⟩
  rw [decide_eq_true (by exact ⟨rfl, rfl, rfl, rfl⟩)]
  have L9 := Lib.hid hbl9
  clear hbl9
  replace N1 := Lib.hid (N1.out.bl L9.out)
  replace N3 := Lib.hid (N3.out.bl L9.out)
  replace N4 := Lib.hid (N4.out.bl L9.out)
  replace N5 := Lib.hid (N5.out.bl L9.out)
  replace N6 := Lib.hid (N6.out.bl L9.out)
  replace N7 := Lib.hid (N7.out.bl L9.out)
  replace HW := Lib.hid (HW.out.trans L9.out)
  clear L9
  obtain ⟨q9_0, q9_1, q9_2, q9_3, _⟩ := Ob.all4 N3.out.ob
  obtain ⟨q10_0, q10_1, q10_2, q10_3, _⟩ := Ob.all4 N1.out.ob
  go_wp2_with fail
  clear q9_0 q9_1 q9_2 q9_3 q10_0 q10_1 q10_2 q10_3
  refine (ref_nodeSame k k A3 B3 I3 A B I keys vals keys vals kids kids c3 d3 ci3 c d ci _ (by omega) (by omega) (by omega) N3.out.rk N3.out.rv N3.out.rn N1.out.rk N1.out.rv N1.out.rn).mono ?_
  rintro e w10 ⟨rfl, hbl10⟩
  rw [decide_eq_true (by exact ⟨rfl, rfl, rfl, rfl⟩)]
  have L10 := Lib.hid hbl10
  clear hbl10
  replace N1 := Lib.hid (N1.out.bl L10.out)
  replace N3 := Lib.hid (N3.out.bl L10.out)
  replace N4 := Lib.hid (N4.out.bl L10.out)
  replace N5 := Lib.hid (N5.out.bl L10.out)
  replace N6 := Lib.hid (N6.out.bl L10.out)
  replace N7 := Lib.hid (N7.out.bl L10.out)
  replace HW := Lib.hid (HW.out.trans L10.out)
  clear L10
  go_wp2_with fail
  refine (node_lives _).mono ?_
  rintro e w11 ⟨rfl, hbl11⟩
  have L11 := Lib.hid hbl11
  clear hbl11
  replace N1 := Lib.hid (N1.out.bl L11.out)
  replace N3 := Lib.hid (N3.out.bl L11.out)
  replace N4 := Lib.hid (N4.out.bl L11.out)
  replace N5 := Lib.hid (N5.out.bl L11.out)
  replace N6 := Lib.hid (N6.out.bl L11.out)
  replace N7 := Lib.hid (N7.out.bl L11.out)
  replace HW := Lib.hid (HW.out.trans L11.out)
  clear L11
  have HWW := HW.out
  go_wp2_with fail
  go_ret
  exact RetBl.mk rfl HWW
end Go.Proofs.Ytedmamchfgkkfaa
/- Words that the proofs of this seat share: arguments opened, from the datum that they read as. No program in sight. -/
namespace Go.Proofs.Ytedmamchfgkkfaa
open Go.RowKit Go.ChangeShapes Go.WideShapes Go.Deep

theorem choose_list {α : Type} {p : Nat → α → Prop} (n : Nat) (h : ∀ i, i < n → ∃ a, p i a) : ∃ l : List α, l.length = n ∧ ∀ i a, l[i]? = some a → p i a := by
  induction n with
  | zero => exact ⟨[], rfl, fun i a h => by simp at h⟩
  | succ n ih =>
    obtain ⟨l, hl, hp⟩ := ih (fun i hi => h i (by omega))
    obtain ⟨a, ha⟩ := h n (by omega)
    refine ⟨l ++ [a], by simp [hl], fun i b hb => ?_⟩
    rcases Nat.lt_or_ge i n with hi | hi
    · rw [List.getElem?_append_left (by omega)] at hb; exact hp i b hb
    · rw [List.getElem?_append_right (by omega)] at hb
      have : i - l.length = 0 := by
        rcases Nat.eq_zero_or_pos (i - l.length) with h0 | h0
        · exact h0
        · rw [List.getElem?_eq_none (by simp; omega)] at hb; cases hb
      rw [this] at hb
      simp only [List.getElem?_cons_zero, Option.some.injEq] at hb
      subst hb
      have hin : i = n := by omega
      rw [hin]; exact ha
theorem flat_get {α : Type} (f : α → List Value) (k : Nat) (l : List α) (hk : ∀ a ∈ l, (f a).length = k) : ∀ (j : Nat) (v : Value), (l.flatMap f)[j]? = some v → ∃ i a r, l[i]? = some a ∧ r < k ∧ j = i * k + r ∧ (f a)[r]? = some v := by
  induction l with
  | nil => intro j v h; simp at h
  | cons a l ih =>
    intro j v h
    rw [List.flatMap_cons] at h
    have ha := hk a (by simp)
    rcases Nat.lt_or_ge j k with hj | hj
    · rw [List.getElem?_append_left (by omega)] at h
      exact ⟨0, a, j, by simp, hj, by omega, h⟩
    · rw [List.getElem?_append_right (by omega), ha] at h
      obtain ⟨i, b, r, h1, h2, h3, h4⟩ := ih (fun x hx => hk x (by simp [hx])) _ _ h
      exact ⟨i + 1, b, r, by simpa using h1, h2, by rw [Nat.add_mul]; omega, h4⟩
theorem flat_one {α : Type} (g : α → Value) (l : List α) : l.flatMap (fun a => [g a]) = l.map g := by
  induction l with
  | nil => rfl
  | cons a l ih => simp [ih]

/-- What is met in reading a datum takes no more than the form's reach. -/
def Sz {H : Type} (P : Program) (t : TypeId) (d : DataW H) : Prop := ∀ n ∈ d.weights P t, n ≤ 140737488351232
theorem sz_of {H : Type} {P : Program} {ts : List TypeId} {ds : List (DataW H)} (h : (DataW.weightsEach P ts ds).all (· ≤ reachBytes) = true) (j : Nat) {t : TypeId} {d : DataW H} (ht : ts[j]? = some t) (hd : ds[j]? = some d) : Sz P t d := fun n hn => by
  have := List.all_eq_true.1 h _ (DataW.weights_mem_each ht hd n hn)
  exact of_decide_eq_true this
theorem all_mem {H : Type} {P : Program} {e : TypeId} : ∀ {ds : List (DataW H)} {d : DataW H}, d ∈ ds → ∀ n ∈ d.weights P e, n ∈ DataW.weightsAll P e ds
  | d0 :: ds, d, hd, n, hn => by
    simp only [DataW.weightsAll, List.mem_append]
    rcases List.mem_cons.1 hd with rfl | hd
    · exact .inl hn
    · exact .inr (all_mem hd n hn)
theorem sz_slice {H : Type} {P : Program} {t e : TypeId} {xs ys : List (DataW H)} (hu : P.underlying t = some (.slice e)) (h : Sz P t (.slice xs ys)) : (xs.length + ys.length) * P.bytesOf e ≤ 140737488351232 ∧ ∀ d ∈ xs, Sz P e d := by
  unfold Sz at h
  simp only [DataW.weights, hu, List.mem_cons, List.mem_append] at h
  exact ⟨h _ (.inl rfl), fun d hd n hn => h n (.inr (.inl (all_mem hd n hn)))⟩
theorem sz_agg {H : Type} {P : Program} {t : TypeId} {fs : Array Field} {xs : List (DataW H)} (hu : P.underlying t = some (.struct fs)) (h : Sz P t (.agg xs)) (j : Nat) {f : Field} {d : DataW H} (hf : fs[j]? = some f) (hd : xs[j]? = some d) : Sz P f.type d := fun n hn => by
  unfold Sz at h
  simp only [DataW.weights, hu] at h
  exact h n (DataW.weights_mem_each (j := j) (by simp [hf]) hd n hn)
theorem sz_str {H : Type} {P : Program} {t : TypeId} {s : ByteArray} (h : Sz (H := H) P t (.lit (.string s.data.toList))) : s.size ≤ 140737488351232 := by
  have := h s.data.toList.length (by simp [DataW.weights])
  simpa using this

section
variable {H : Type} {enc : TypeId × Value → H} {P : Program} {w : World} {base : Nat} {held : Bool}
/-- A slice, its elements of k cells each. -/
theorem o_slice {α : Type} (f : α → List Value) (Q : α → Prop) {t e : TypeId} {k B fuel : Nat} {cs : List Value} {x : DataW H × List MemPlace} (ht : P.underlying t = some (.slice e)) (hc : P.cellsOf e = k) (hB : P.bytesOf e = B)
    (el : ∀ (n : Nat) (cs : List Value) (y : DataW H × List MemPlace), cs.length = k → DataW.trod enc P w base (fun _ => true) held n e cs = some y → Sz P e y.1 → ∃ a, cs = f a ∧ Q a)
    (h : DataW.trod enc P w base (fun _ => true) held fuel t cs = some x) (hs : Sz P t x.1) :
    ∃ (A : Option Addr) (l : List α) (c : Nat), cs = [.slice A l.length c] ∧ l.length ≤ c ∧ c * B ≤ 140737488351232 ∧ Rd w A (l.flatMap f) ∧ ∀ a ∈ l, Q a := by
  rcases open_slice ht h with ⟨rfl, rfl⟩ | ⟨a, len, cap, m, n, D, Pl, rfl, hb, hl, hm, hmm, rfl, hx⟩
  · exact ⟨none, [], 0, rfl, Nat.le_refl _, by omega, Rd.nil _ _, fun a ha => by simp at ha⟩
  · simp only [if_true] at hmm
    subst hmm
    obtain ⟨hw1, hw2⟩ := sz_slice ht hs
    rw [hB] at hw1
    simp only [List.length_map, List.length_range] at hw1
    rw [show len + (m - len) = m by omega] at hw1
    obtain ⟨l, hll, hp⟩ := choose_list (p := fun i b => (∀ r v, (f b)[r]? = some v → r < k → w.cell? (a.add (i * k + r)) = some v) ∧ (f b).length = k ∧ Q b) len (fun i hi => by
      obtain ⟨cs', h1, h2⟩ := hx i (by omega)
      rw [hc] at h1
      obtain ⟨_, hlen, hat⟩ := World.cells?_some h1
      obtain ⟨b, rfl, hq⟩ := el _ _ _ hlen h2 (hw2 (D i) (List.mem_map.2 ⟨i, List.mem_range.2 hi, rfl⟩))
      refine ⟨b, fun r v hv hr => ?_, hlen, hq⟩
      have := hat r hr
      rw [add_add] at this
      rw [this, hv])
    have hmem : ∀ b ∈ l, (f b).length = k ∧ Q b := fun b hb => by
      obtain ⟨i, hi⟩ := List.mem_iff_getElem?.1 hb
      exact (hp i b hi).2
    refine ⟨some a, l, m, by rw [hll], by omega, hw1, ?_, fun b hb => (hmem b hb).2⟩
    intro hn
    have hflat := flat_get f k l (fun b hb => (hmem b hb).1)
    have hcell : ∀ j v, (l.flatMap f)[j]? = some v → w.cell? (a.add j) = some v := fun j v hv => by
      obtain ⟨i, b, r, h1, h2, h3, h4⟩ := hflat j v hv
      rw [h3]
      exact (hp i b h1).1 r v h4 h2
    obtain ⟨v0, hv0⟩ : ∃ v, (l.flatMap f)[0]? = some v := by
      cases hcs : l.flatMap f with
      | nil => exact absurd hcs hn
      | cons v r => exact ⟨v, rfl⟩
    have h0 := hcell 0 v0 hv0
    have hspot : a.spot = none := by
      rw [show a.add 0 = a from by simp [Addr.add]] at h0
      unfold World.cell? at h0
      split at h0
      · split at h0
        · cases h0
        · rename_i h; simpa using h
      · cases h0
    obtain ⟨b, o, s⟩ := a
    simp only at hspot
    subst hspot
    refine ⟨b, o, rfl, fun j v hv => ?_⟩
    have := hcell j v hv
    have ha : (⟨b, o, none⟩ : Addr).add j = ⟨b, o + j, none⟩ := by unfold Addr.add; split <;> simp_all
    rwa [ha] at this
theorem o_row {α : Type} (g : α → Value) (Q : α → Prop) {t e : TypeId} {B fuel : Nat} {cs : List Value} {x : DataW H × List MemPlace} (ht : P.underlying t = some (.slice e)) (hc : P.cellsOf e = 1) (hB : P.bytesOf e = B)
    (el : ∀ (n : Nat) (v : Value) (y : DataW H × List MemPlace), DataW.trod enc P w base (fun _ => true) held n e [v] = some y → Sz P e y.1 → ∃ a, v = g a ∧ Q a)
    (h : DataW.trod enc P w base (fun _ => true) held fuel t cs = some x) (hs : Sz P t x.1) :
    ∃ (A : Option Addr) (l : List α) (c : Nat), cs = [.slice A l.length c] ∧ l.length ≤ c ∧ c * B ≤ 140737488351232 ∧ Rd w A (l.map g) ∧ ∀ a ∈ l, Q a := by
  obtain ⟨A, l, c, h1, h2, h3, h4, h5⟩ := o_slice (fun a => [g a]) Q ht hc hB (fun n cs y hl hy hz => by
    match cs, hl with
    | [v], _ =>
      obtain ⟨a, rfl, hq⟩ := el n v y hy hz
      exact ⟨a, rfl, hq⟩) h hs
  rw [flat_one] at h4
  exact ⟨A, l, c, h1, h2, h3, h4, h5⟩
theorem o_u8 {e : TypeId} (he : P.underlying e = some (.int .u8)) (n : Nat) (v : Value) (y : DataW H × List MemPlace) (h : DataW.trod enc P w base (fun _ => true) held n e [v] = some y) : ∃ a : UInt8, v = bv a := by
  obtain ⟨z, hz, _, hwf⟩ := DataW.trod_int he h
  have hr : 0 ≤ z ∧ z < 256 := by simp [Lit.wf, IntKind.min, IntKind.max, IntKind.signed, IntKind.bits] at hwf; omega
  refine ⟨z.toNat.toUInt8, ?_⟩
  simp only [List.cons.injEq, and_true] at hz
  rw [hz, bv, u8_toNat _ (by omega)]
  congr 1; omega
theorem o_u64 {e : TypeId} (he : P.underlying e = some (.int .u64)) (n : Nat) (v : Value) (y : DataW H × List MemPlace) (h : DataW.trod enc P w base (fun _ => true) held n e [v] = some y) : ∃ a : Nat, v = wv a ∧ a < 18446744073709551616 := by
  obtain ⟨z, hz, _, hwf⟩ := DataW.trod_int he h
  have hr : 0 ≤ z ∧ z < 18446744073709551616 := by simp [Lit.wf, IntKind.min, IntKind.max, IntKind.signed, IntKind.bits] at hwf; omega
  refine ⟨z.toNat, ?_, by omega⟩
  simp only [List.cons.injEq, and_true] at hz
  rw [hz, wv]
  congr 1; omega
theorem o_i64 {e : TypeId} (he : P.underlying e = some (.int .i64)) (n : Nat) (v : Value) (y : DataW H × List MemPlace) (h : DataW.trod enc P w base (fun _ => true) held n e [v] = some y) : ∃ a : Int, v = iv a ∧ -9223372036854775808 ≤ a ∧ a ≤ 9223372036854775807 := by
  obtain ⟨z, hz, _, hwf⟩ := DataW.trod_int he h
  have hr : -9223372036854775808 ≤ z ∧ z ≤ 9223372036854775807 := by simp [Lit.wf, IntKind.min, IntKind.max, IntKind.signed, IntKind.bits] at hwf; omega
  simp only [List.cons.injEq, and_true] at hz
  exact ⟨z, hz, hr⟩
theorem o_u64i {e : TypeId} (he : P.underlying e = some (.int .u64)) {n : Nat} {v : Value} {y : DataW H × List MemPlace} (h : DataW.trod enc P w base (fun _ => true) held n e [v] = some y) : ∃ a : Int, v = .int .u64 a ∧ 0 ≤ a ∧ a < 18446744073709551616 := by
  obtain ⟨a, h1, h2⟩ := o_u64 he n v y h
  exact ⟨a, h1, by omega, by omega⟩
theorem o_u8i {e : TypeId} (he : P.underlying e = some (.int .u8)) {n : Nat} {v : Value} {y : DataW H × List MemPlace} (h : DataW.trod enc P w base (fun _ => true) held n e [v] = some y) : ∃ a : Int, v = .int .u8 a ∧ 0 ≤ a ∧ a < 256 := by
  obtain ⟨a, h1⟩ := o_u8 he n v y h
  have := a.toNat_lt
  exact ⟨a.toNat, h1, by omega, by omega⟩
theorem o_bool {e : TypeId} (he : P.underlying e = some .bool) {n : Nat} {v : Value} {y : DataW H × List MemPlace} (h : DataW.trod enc P w base (fun _ => true) held n e [v] = some y) : ∃ a : Bool, v = .bool a := by
  obtain ⟨z, hz, _⟩ := DataW.trod_bool he h
  simp only [List.cons.injEq, and_true] at hz
  exact ⟨z, hz⟩
theorem list4 {cs : Array Value} {a b c d : Value} (hl : cs.toList.length = 4) (h0 : cs.toList[0]? = some a) (h1 : cs.toList[1]? = some b) (h2 : cs.toList[2]? = some c) (h3 : cs.toList[3]? = some d) : cs = #[a, b, c, d] := by
  obtain ⟨l⟩ := cs
  match l, hl with
  | [x0, x1, x2, x3], _ => simp at h0 h1 h2 h3; subst h0 h1 h2 h3; rfl
theorem list6 {cs : Array Value} {a b c d e f : Value} (hl : cs.toList.length = 6) (h0 : cs.toList[0]? = some a) (h1 : cs.toList[1]? = some b) (h2 : cs.toList[2]? = some c) (h3 : cs.toList[3]? = some d) (h4 : cs.toList[4]? = some e) (h5 : cs.toList[5]? = some f) : cs = #[a, b, c, d, e, f] := by
  obtain ⟨l⟩ := cs
  match l, hl with
  | [x0, x1, x2, x3, x4, x5], _ => simp at h0 h1 h2 h3 h4 h5; subst h0 h1 h2 h3 h4 h5; rfl
theorem o_str {e : TypeId} (he : P.underlying e = some .string) (n : Nat) (v : Value) (y : DataW H × List MemPlace) (h : DataW.trod enc P w base (fun _ => true) held n e [v] = some y) (hs : Sz P e y.1) : ∃ a : ByteArray, v = sv a ∧ a.size ≤ 140737488351232 := by
  obtain ⟨s, hz, rfl, _⟩ := DataW.trod_string he h
  simp only [List.cons.injEq, and_true] at hz
  exact ⟨s, hz, sz_str hs⟩
theorem o_bytes {t e : TypeId} {fuel : Nat} {v : Value} {x : DataW H × List MemPlace} (ht : P.underlying t = some (.slice e)) (he : P.underlying e = some (.int .u8)) (hc : P.cellsOf e = 1) (hB : P.bytesOf e = 1)
    (h : DataW.trod enc P w base (fun _ => true) held fuel t [v] = some x) (hs : Sz P t x.1) : ∃ (A : Option Addr) (b : List UInt8) (c : Nat), v = .slice A b.length c ∧ b.length ≤ c ∧ c ≤ 140737488351232 ∧ Rd w A (b.map bv) := by
  obtain ⟨A, l, c, h1, h2, h3, h4, _⟩ := o_row bv (fun _ => True) ht hc hB (fun n v y hy _ => by obtain ⟨a, ha⟩ := o_u8 he n v y hy; exact ⟨a, ha, trivial⟩) h hs
  simp only [List.cons.injEq, and_true] at h1
  exact ⟨A, l, c, h1, h2, by omega, h4⟩
theorem o_words {t e : TypeId} {fuel : Nat} {v : Value} {x : DataW H × List MemPlace} (ht : P.underlying t = some (.slice e)) (he : P.underlying e = some (.int .u64)) (hc : P.cellsOf e = 1) (hB : P.bytesOf e = 8)
    (h : DataW.trod enc P w base (fun _ => true) held fuel t [v] = some x) (hs : Sz P t x.1) : ∃ (A : Option Addr) (b : List Nat) (c : Nat), v = .slice A b.length c ∧ b.length ≤ c ∧ c * 8 ≤ 140737488351232 ∧ Rd w A (b.map wv) ∧ ∀ a ∈ b, a < 18446744073709551616 := by
  obtain ⟨A, l, c, h1, h2, h3, h4, h5⟩ := o_row wv (fun a => a < 18446744073709551616) ht hc hB (fun n v y hy _ => o_u64 he n v y hy) h hs
  simp only [List.cons.injEq, and_true] at h1
  exact ⟨A, l, c, h1, h2, h3, h4, h5⟩
theorem o_ints {t e : TypeId} {fuel : Nat} {v : Value} {x : DataW H × List MemPlace} (ht : P.underlying t = some (.slice e)) (he : P.underlying e = some (.int .i64)) (hc : P.cellsOf e = 1) (hB : P.bytesOf e = 8)
    (h : DataW.trod enc P w base (fun _ => true) held fuel t [v] = some x) (hs : Sz P t x.1) : ∃ (A : Option Addr) (b : List Int) (c : Nat), v = .slice A b.length c ∧ b.length ≤ c ∧ c * 8 ≤ 140737488351232 ∧ Rd w A (b.map iv) ∧ ∀ a ∈ b, -9223372036854775808 ≤ a ∧ a ≤ 9223372036854775807 := by
  obtain ⟨A, l, c, h1, h2, h3, h4, h5⟩ := o_row iv (fun a => -9223372036854775808 ≤ a ∧ a ≤ 9223372036854775807) ht hc hB (fun n v y hy _ => o_i64 he n v y hy) h hs
  simp only [List.cons.injEq, and_true] at h1
  exact ⟨A, l, c, h1, h2, h3, h4, h5⟩
theorem o_texts {t e : TypeId} {fuel : Nat} {v : Value} {x : DataW H × List MemPlace} (ht : P.underlying t = some (.slice e)) (he : P.underlying e = some .string) (hc : P.cellsOf e = 1) (hB : P.bytesOf e = 16)
    (h : DataW.trod enc P w base (fun _ => true) held fuel t [v] = some x) (hs : Sz P t x.1) : ∃ (A : Option Addr) (b : List ByteArray) (c : Nat), v = .slice A b.length c ∧ b.length ≤ c ∧ c * 16 ≤ 140737488351232 ∧ Rd w A (b.map sv) ∧ ∀ a ∈ b, a.size ≤ 140737488351232 := by
  obtain ⟨A, l, c, h1, h2, h3, h4, h5⟩ := o_row sv (fun a => a.size ≤ 140737488351232) ht hc hB (fun n v y hy hz => o_str he n v y hy hz) h hs
  simp only [List.cons.injEq, and_true] at h1
  exact ⟨A, l, c, h1, h2, h3, h4, h5⟩
/-- A struct whose fields are of one cell each. -/
theorem o_struct {t : TypeId} {fs : Array Field} {fuel : Nat} {cs : List Value} {x : DataW H × List MemPlace} (hu : P.underlying t = some (.struct fs)) (hone : oneCellFields P fs = true) (hC : P.cellsOf t = fs.size)
    (h : DataW.trod enc P w base (fun _ => true) held fuel t cs = some x) (hs : Sz P t x.1) :
    cs.length = fs.size ∧ ∃ n, ∀ (j : Nat) (f : Field), fs[j]? = some f → ∃ (v : Value) (y : DataW H × List MemPlace), cs[j]? = some v ∧ DataW.trod enc P w base (fun _ => true) held n f.type [v] = some y ∧ Sz P f.type y.1 := by
  obtain ⟨xs, n, _, rfl, hlen, hxl, hf⟩ := DataW.trod_struct hu h
  refine ⟨hlen.trans hC, n, fun j f hj => ?_⟩
  obtain ⟨ho, hk⟩ := hone_of hone j f hj
  have hjl : j < fs.size := (Array.getElem?_eq_some_iff.1 hj).1
  have hcl : cs.length = fs.size := hlen.trans hC
  have h1 := hf j f hj
  rw [ho, hk] at h1
  have hd : (cs.drop j).take 1 = [cs[j]'(by omega)] := by rw [List.drop_eq_getElem_cons (by omega)]; rfl
  rw [hd] at h1
  have hys : xs[j]? = some (xs[j]'(by omega)) := List.getElem?_eq_getElem (by omega)
  refine ⟨_, _, List.getElem?_eq_getElem (by omega), h1.trans hys, ?_⟩
  exact sz_agg hu hs j hj (by rw [List.getElem?_map, hys]; rfl)
theorem o_struct_v {t : TypeId} {fs : Array Field} {v : Value} {r : Reach} {b0 : Nat} (hu : P.underlying t = some (.struct fs)) (hv : Value.okWide P w r b0 t v) : ∃ cs : Array Value, v = .agg cs ∧ v.cells.toList = cs.toList := by
  obtain ⟨cs, rfl, _⟩ := okWide_struct hu hv
  exact ⟨cs, rfl, rfl⟩
end
end Go.Proofs.Ytedmamchfgkkfaa
/- Arguments of layer 22 opened: a deed. -/
namespace Go.Proofs.Ytedmamchfgkkfaa
open Go.RowKit Go.ChangeShapes Go.WideShapes Go.Deep
set_option maxRecDepth 100000
theorem Try.bytes_deed : Try.prog.cellsOf 5 = 1 ∧ Try.prog.bytesOf 5 = 1 ∧ Try.prog.cellsOf 26 = 4 := ⟨by kernel_rfl, by kernel_rfl, by kernel_rfl⟩
theorem open_deed {H : Type} {enc : TypeId × Value → H} {w : World} {b0 base : Nat} {held : Bool} {v : Value} {d : DataW H} {p : List MemPlace} (hval : Value.okWide Try.prog w .any b0 26 v) (h : DataW.Trod enc Try.prog w base (fun _ => true) held 26 v d p) (hs : Sz Try.prog 26 d) :
    ∃ (k id n : Int) (A : Option Addr) (b : List UInt8) (c : Nat), v = deedV k id n A b.length c ∧ (0 ≤ id ∧ id < 18446744073709551616) ∧ b.length ≤ c ∧ c ≤ 140737488351232 ∧ Rd w A (b.map bv) := by
  obtain ⟨cs, rfl, hcs⟩ := o_struct_v Try.underlying26 hval
  obtain ⟨fuel, ht⟩ := h
  obtain ⟨hl, n, hf⟩ := o_struct Try.underlying26 (by kernel_rfl) Try.bytes_deed.2.2 ht hs
  obtain ⟨v0, y0, g0, t0, z0⟩ := hf 0 _ rfl
  obtain ⟨v1, y1, g1, t1, z1⟩ := hf 1 _ rfl
  obtain ⟨v2, y2, g2, t2, z2⟩ := hf 2 _ rfl
  obtain ⟨v3, y3, g3, t3, z3⟩ := hf 3 _ rfl
  obtain rfl := list4 hl g0 g1 g2 g3
  obtain ⟨k, rfl, _⟩ := o_u8i Try.underlying22 t0
  obtain ⟨id, rfl, hid⟩ := o_u64i Try.underlying23 t1
  obtain ⟨m, rfl, _⟩ := o_i64 Try.underlying3 _ _ _ t2
  obtain ⟨A, b, c, rfl, hbc, hc, hr⟩ := o_bytes Try.underlying24 Try.underlying5 Try.bytes_deed.1 Try.bytes_deed.2.1 t3 z3
  exact ⟨k, id, m, A, b, c, rfl, hid, hbc, hc, hr⟩
theorem open_row {H : Type} {enc : TypeId × Value → H} {w : World} {b0 base : Nat} {held : Bool} {v : Value} {d : DataW H} {p : List MemPlace} (hval : Value.okWide Try.prog w .any b0 24 v) (h : DataW.Trod enc Try.prog w base (fun _ => true) held 24 v d p) (hs : Sz Try.prog 24 d) :
    ∃ (A : Option Addr) (b : List UInt8) (c : Nat), v = .slice A b.length c ∧ b.length ≤ c ∧ c ≤ 140737488351232 ∧ Rd w A (b.map bv) := by
  obtain ⟨a, l, c, rfl⟩ := okWide_slice Try.underlying24 hval
  obtain ⟨fuel, ht⟩ := h
  exact o_bytes Try.underlying24 Try.underlying5 Try.bytes_deed.1 Try.bytes_deed.2.1 ht hs
end Go.Proofs.Ytedmamchfgkkfaa
/- Arguments of layer 18 opened: a node, a text. -/
set_option linter.unusedVariables false
set_option linter.unusedSimpArgs false
namespace Go.Proofs.Ytedmamchfgkkfaa
open Go.RowKit Go.ChangeShapes Go.WideShapes Go.Deep
set_option maxRecDepth 100000
theorem Try.bytes_node : Try.prog.cellsOf 9 = 1 ∧ Try.prog.bytesOf 9 = 16 ∧ Try.prog.cellsOf 3 = 1 ∧ Try.prog.bytesOf 3 = 8 ∧ Try.prog.cellsOf 52 = 4 := ⟨by kernel_rfl, by kernel_rfl, by kernel_rfl, by kernel_rfl, by kernel_rfl⟩
theorem open_node {H : Type} {enc : TypeId × Value → H} {w : World} {b0 base : Nat} {held : Bool} {v : Value} {d : DataW H} {p : List MemPlace} (hval : Value.okWide Try.prog w .any b0 52 v) (h : DataW.Trod enc Try.prog w base (fun _ => true) held 52 v d p) (hs : Sz Try.prog 52 d) :
    ∃ (k : Int) (A B I : Option Addr) (keys vals : List ByteArray) (kids : List Int) (c d ci : Nat), v = nodeV k A keys.length c B vals.length d I kids.length ci ∧ keys.length ≤ c ∧ vals.length ≤ d ∧ kids.length ≤ ci ∧ c * 16 ≤ 140737488351232 ∧ d * 16 ≤ 140737488351232 ∧ ci * 8 ≤ 140737488351232 ∧
      Rd w A (keys.map sv) ∧ Rd w B (vals.map sv) ∧ Rd w I (kids.map iv) ∧ (∀ s ∈ keys, s.size ≤ 140737488351232) ∧ (∀ s ∈ vals, s.size ≤ 140737488351232) ∧ (∀ z ∈ kids, -9223372036854775808 ≤ z ∧ z ≤ 9223372036854775807) := by
  obtain ⟨cs, rfl, hcs⟩ := o_struct_v Try.underlying52 hval
  obtain ⟨fuel, ht⟩ := h
  obtain ⟨hl, n, hf⟩ := o_struct Try.underlying52 (by kernel_rfl) Try.bytes_node.2.2.2.2 ht hs
  obtain ⟨v0, y0, g0, t0, z0⟩ := hf 0 _ rfl
  obtain ⟨v1, y1, g1, t1, z1⟩ := hf 1 _ rfl
  obtain ⟨v2, y2, g2, t2, z2⟩ := hf 2 _ rfl
  obtain ⟨v3, y3, g3, t3, z3⟩ := hf 3 _ rfl
  obtain rfl := list4 hl g0 g1 g2 g3
  obtain ⟨k, rfl, _⟩ := o_u8i Try.underlying48 t0
  obtain ⟨A, ks, c, rfl, h1, h2, h3, h4⟩ := o_texts Try.underlying49 Try.underlying9 Try.bytes_node.1 Try.bytes_node.2.1 t1 z1
  obtain ⟨B, vs, d, rfl, i1, i2, i3, i4⟩ := o_texts Try.underlying49 Try.underlying9 Try.bytes_node.1 Try.bytes_node.2.1 t2 z2
  obtain ⟨I, is, ci, rfl, j1, j2, j3, j4⟩ := o_ints Try.underlying50 Try.underlying3 Try.bytes_node.2.2.1 Try.bytes_node.2.2.2.1 t3 z3
  exact ⟨k, A, B, I, ks, vs, is, c, d, ci, rfl, h1, i1, j1, h2, i2, j2, h3, i3, j3, h4, i4, j4⟩
theorem open_text {H : Type} {enc : TypeId × Value → H} {w : World} {b0 base : Nat} {held : Bool} {v : Value} {d : DataW H} {p : List MemPlace} (hval : Value.okWide Try.prog w .any b0 9 v) (h : DataW.Trod enc Try.prog w base (fun _ => true) held 9 v d p) (hs : Sz Try.prog 9 d) :
    ∃ s : ByteArray, v = .string s ∧ s.size ≤ 140737488351232 := by
  obtain ⟨s, rfl⟩ := okWide_string Try.underlying9 hval
  obtain ⟨fuel, ht⟩ := h
  obtain ⟨a, ha, hsz⟩ := o_str Try.underlying9 _ _ _ ht hs
  exact ⟨a, ha, hsz⟩
end Go.Proofs.Ytedmamchfgkkfaa
