/- The reference of layer 18 (node) walked: Get. -/
import Derived.Test.YtedmamchfgkkfaaNodeK
set_option linter.unusedVariables false
set_option linter.unusedSimpArgs false
namespace Go.Proofs.Ytedmamchfgkkfaa
open Go.RowKit
set_option maxRecDepth 100000
set_option maxHeartbeats 20000000

theorem ref_out {w0 : World} {k : Int} {ks vs : List ByteArray} {is : List Int} {K V I : Value} {gR gN base : Nat} {w : World} (h : RefSt w0 k gR gN base w ks vs is K V I) :
    ∃ A1 c1 B1 d1 I1 ci1, K = .slice A1 ks.length c1 ∧ V = .slice B1 vs.length d1 ∧ I = .slice I1 is.length ci1 := by
  obtain ⟨A1, c1, h1, _⟩ := h.aK.slice
  obtain ⟨B1, d1, h2, _⟩ := h.aV.slice
  obtain ⟨I1, ci1, h3, _⟩ := h.aI.slice
  exact ⟨A1, c1, B1, d1, I1, ci1, h1, h2, h3⟩
theorem ref_nodeGet (k : Int) (A : Option Addr) (c : Nat) (b : List UInt8) (w : World) (hb : b.length ≤ 140737488351232) (hbc : b.length ≤ c) (hr : Rd w A (b.map bv)) :
    Calls Try.prog 39 #[.int .u8 k, .slice A b.length c] w (RetNode (nodeGet k b) w) := by
  have HR := Lib.hid hr
  clear hr
  by_cases hkind : k = 1 ∨ k = 2
  · have HS0 := Lib.hid (ref_setup k w)
    have HKIND := Lib.hid hkind
    have b1 : ((k != 1) = false) ∨ ((k != 1) = true ∧ (k != 2) = false) := by rcases hkind with rfl | rfl <;> decide
    have HGET := Lib.hid (show nodeGet k b = if (lebCount b 0 6).2.2 ≠ 0 then nodeNo (lebCount b 0 6).2.2 else if k = 2 then (if (lebCount b (lebCount b 0 6).2.1 65535).2.2 ≠ 0 then nodeNo (lebCount b (lebCount b 0 6).2.1 65535).2.2 else nodeLoop k b (lebCount b 0 6).1.toNat (lebCount b (lebCount b 0 6).2.1 65535).2.1 [] [] [(lebCount b (lebCount b 0 6).2.1 65535).1]) else nodeLoop k b (lebCount b 0 6).1.toNat (lebCount b 0 6).2.1 [] [] [] by
      unfold nodeGet; rw [if_neg (by omega)])
    clear hkind
    go_enter Try.func39, Try.ntmps39
    go_upto_region 1 with (fail)
    go_cut [25] (fun s wx => s = .bool false ∧ wx = w.alloc (.cells #[.int .u8 0, .slice none 0 0, .slice none 0 0, .slice none 0 0] 52))
    case first =>
      rcases b1 with b1 | ⟨b1, b2⟩
      all_goals
        go_wp2_with fail
        go_meet
        case rel => exact ⟨rfl, rfl⟩
    case rest =>
      obtain ⟨rfl, rfl⟩ := hcut
      clear b1
      go_wp2_with (go_at_call 84; fail_if_success skip)
      generalize ((w.alloc (.cells #[.int .u8 0, .slice none 0 0, .slice none 0 0, .slice none 0 0] 52)).alloc (.cells #[.int .u8 k, .slice none 0 0, .slice none 0 0, .slice none 0 0] 52)) = u at HS0 ⊢
      generalize w.heap.size + 1 + 1 = base at HS0 ⊢
      generalize w.heap.size + 1 = gN at HS0 ⊢
      generalize w.heap.size = gR at HS0 ⊢
      rcases lebCount_or b 0 6 with ⟨e, h, hne, _⟩ | ⟨n, m, h, _, _, hn6, hmb, _⟩
      · have HP := Lib.hid (show nodeGet k b = nodeNo e by rw [HGET.out, h, if_pos hne])
        have H := Lib.hid h
        have he1 : (e != 0) = true := by simpa using hne
        clear h hne HGET
        refine (ref_Count_at A c b 0 6 _ _ _ u hb (by omega) (HR.out.bl HS0.out.wb) H.out).mono ?_
        rintro z wq ⟨rfl, n0, rfl⟩
        have HS1 := Lib.hid (HS0.out.bl ((Bl.refl _).drewN n0))
        obtain ⟨zq0, zq1, zq2, zq3, zg0, zg1, zg2, zg3⟩ := Ob.all4 HS1.out.oR
        go_wp2_with fail
        refine bodyPost_ret (v := .tuple #[nodeV 0 none 0 0 none 0 0 none 0 0, .int .i64 e]) (results_ct rfl _ _ (HS1.out.oR.set4 _ _ _ _).1 rfl rfl Try.underlying52 rfl Try.sizeNode) rfl ?_
        exact RetNode.no HP.out ((HS1.out.wb.ch [gR]).same (HS1.out.oR.set4 _ _ _ _).2 |>.bl (by have := HS1.out.w0b; simp; omega))
      · have HG1 := Lib.hid (show nodeGet k b = if k = 2 then (if (lebCount b m 65535).2.2 ≠ 0 then nodeNo (lebCount b m 65535).2.2 else nodeLoop k b n (lebCount b m 65535).2.1 [] [] [(lebCount b m 65535).1]) else nodeLoop k b n m [] [] [] by
          rw [HGET.out, h, if_neg (by simp)]; rfl)
        have H := Lib.hid h
        have hn : n ≤ 6 := by omega
        clear h HGET hn6
        refine (ref_Count_at A c b 0 6 _ _ _ u hb (by omega) (HR.out.bl HS0.out.wb) H.out).mono ?_
        rintro z wq ⟨rfl, n0, rfl⟩
        have HS1 := Lib.hid (HS0.out.bl ((Bl.refl _).drewN n0))
        clear HS0
        generalize u.drewN n0 = u1 at HS1 ⊢
        go_upto_if 40 with (fail)
        go_cut [8] (fun s wx => Hid (∃ (p : Int) (is : List Int) (K V I : Value), s = .int .i64 p ∧ RefSt w k gR gN base wx [] [] is K V I ∧ (0 ≤ p ∧ p ≤ b.length) ∧ is.length ≤ 1 ∧ nodeLoop k b n p [] [] is = nodeGet k b))
        case first =>
          by_cases h2 : k = 2
          · subst h2
            rcases lebCount_or b m 65535 with ⟨e, h, hne, _⟩ | ⟨x, q, h, _, _, hx6, hqb, _⟩
            · have HP := Lib.hid (show nodeGet 2 b = nodeNo e by rw [HG1.out, if_pos rfl, h, if_pos hne])
              have H2 := Lib.hid h
              have he1 : (e != 0) = true := by simpa using hne
              clear h hne
              go_wp2_with (first
                | (go_at_call 84; go_must (refine (ref_Count_at A c b m 65535 _ _ _ u1 hb (by omega) (HR.out.bl HS1.out.wb) H2.out).mono ?_); rintro z wqa ⟨rfl, na, rfl⟩; have HSa := Lib.hid (HS1.out.bl ((Bl.refl _).drewN na)); obtain ⟨zq0, zq1, zq2, zq3, zg0, zg1, zg2, zg3⟩ := Ob.all4 HSa.out.oR; obtain ⟨zm0, zm1, zm2, zm3, zk0, zk1, zk2, zk3⟩ := Ob.all4 HSa.out.oN))
              refine bodyPost_ret (v := .tuple #[nodeV 0 none 0 0 none 0 0 none 0 0, .int .i64 e]) (results_ct rfl _ _ (HSa.out.oR.set4 _ _ _ _).1 rfl rfl Try.underlying52 rfl Try.sizeNode) rfl ?_
              exact RetNode.no HP.out ((HSa.out.wb.ch [gR]).same (HSa.out.oR.set4 _ _ _ _).2 |>.bl (by have := HSa.out.w0b; simp; omega))
            · have HP := Lib.hid (show nodeLoop 2 b n q [] [] [(x : Int)] = nodeGet 2 b by rw [HG1.out, if_pos rfl, h, if_neg (by simp)])
              have H2 := Lib.hid h
              clear h
              go_wp2_with (first
                | (go_at_call 84; go_must (refine (ref_Count_at A c b m 65535 _ _ _ u1 hb (by omega) (HR.out.bl HS1.out.wb) H2.out).mono ?_); rintro z wqa ⟨rfl, na, rfl⟩; have HSa := Lib.hid (HS1.out.bl ((Bl.refl _).drewN na)); obtain ⟨zq0, zq1, zq2, zq3, zg0, zg1, zg2, zg3⟩ := Ob.all4 HSa.out.oR; obtain ⟨zm0, zm1, zm2, zm3, zk0, zk1, zk2, zk3⟩ := Ob.all4 HSa.out.oN)
                | (at_builtin; go_must (refine append_one rfl _ _ 50 3 (.int .i64 0) 1 8 rfl Try.underlying50 Try.infoInt rfl (by decide) base HSa.out.aI (by rfl) (by first | rfl | simp [go_sem]) (by rfl) (by intro u hu; simp at hu; subst hu; rfl) (by simp) (by simp) HSa.out.ord.2.2 ?_); intro vc wc hownc hgrc hatc; obtain ⟨Ac, cc, rfl, hccc⟩ := hownc.slice; have S3c := HSa.out.kids (x := (x : Int)) hownc hgrc; have hNc := (HSa.out.grow hgrc HSa.out.aI.ge 3 (.int .i64 0)).2.1; have gc := hNc.cell 3 rfl; simp only [List.getElem_toArray, List.getElem_cons_zero, List.getElem_cons_succ] at gc; have fc := hNc.free 3))
              go_meet
              case rel => exact ⟨q, _, _, _, _, rfl, S3c, by omega, by simp, HP.out⟩
          · have b2 : (k == 2) = false := by simpa using h2
            have HP := Lib.hid (show nodeLoop k b n m [] [] [] = nodeGet k b by rw [HG1.out, if_neg h2])
            clear h2
            go_wp2_with fail
            go_meet
            case rel => exact ⟨m, _, _, _, _, rfl, HS1.out, by omega, by simp, HP.out⟩
        case rest =>
          obtain ⟨p1, is1, K1, V1, I1, rfl, S1, hp1, hl1, hq1⟩ := hcut.out
          clear HS1
          have HS1 := Lib.hid S1
          have HQ1 := Lib.hid hq1
          clear S1 hq1 HG1 H
          go_wp2_with fail
          go_loopw [8, 13, 14, 15, 16, 17, 18, 19] (fun s8 i _ _ _ _ _ _ wr => ∃ (j : Nat) (p : Int) (ks vs : List ByteArray) (is : List Int) (K V I : Value), s8 = .int .i64 p ∧ i = .int .i64 j ∧ j ≤ n ∧ Hid (RefSt w k gR gN base wr ks vs is K V I) ∧ (0 ≤ p ∧ p ≤ b.length) ∧ ks.length ≤ j ∧ vs.length ≤ j ∧ is.length ≤ j + 1 ∧ Hid (nodeLoop k b (n - j) p ks vs is = nodeGet k b)) (fun _ i _ _ _ _ _ _ _ => n - (intOf i).toNat)
          case atStart => exact ⟨0, p1, [], [], is1, K1, V1, I1, rfl, rfl, by omega, HS1.out, hp1, by simp, by simp, by omega, HQ1.out⟩
          case round =>
            obtain ⟨j, p, ks, vs, is, K, V, I, rfl, rfl, hj, HS, hp, hks, hvs, his, HQ⟩ := hrel
            obtain ⟨v, rfl⟩ : ∃ v : World, v = wr := ⟨_, rfl⟩
            clear HS1 HQ1
            by_cases hlt : j < n
            · have HL := Lib.hid (show nodeGet k b = nodeLoop k b ((n - (j + 1)) + 1) p ks vs is by rw [← HQ.out]; congr 1; omega)
              rcases lebRow_or b p 40 with ⟨e, h, hne, _⟩ | ⟨xs, q, h, hx40, hqb, _⟩
              · have HP := Lib.hid (show nodeGet k b = nodeNo e by rw [HL.out, nodeLoop, h, if_pos hne])
                have H2 := Lib.hid h
                have he1 : (e != 0) = true := by simpa using hne
                clear h hne
                go_wp2_with (first
                  | (go_at_call 66; go_must (refine (ref_GetRow A c b p 40 v hb hbc (by omega) (HR.out.bl HS.out.wb)).mono ?_); rw [H2.out]; rintro z wqa ⟨vqa, rfl, hqa, hbla⟩; obtain ⟨Aqa, cqa, rfl, _⟩ := hqa.slice; have HSa := Lib.hid (HS.out.bl hbla); obtain ⟨zq0, zq1, zq2, zq3, zg0, zg1, zg2, zg3⟩ := Ob.all4 HSa.out.oR; obtain ⟨zm0, zm1, zm2, zm3, zk0, zk1, zk2, zk3⟩ := Ob.all4 HSa.out.oN))
                refine bodyPost_ret (v := .tuple #[nodeV 0 none 0 0 none 0 0 none 0 0, .int .i64 e]) (results_ct rfl _ _ (HSa.out.oR.set4 _ _ _ _).1 rfl rfl Try.underlying52 rfl Try.sizeNode) rfl ?_
                exact RetNode.no HP.out ((HSa.out.wb.ch [gR]).same (HSa.out.oR.set4 _ _ _ _).2 |>.bl (by have := HSa.out.w0b; simp; omega))
              · have HL2 := Lib.hid (show nodeGet k b = if k = 2 then (if (lebCount b q 65535).2.2 ≠ 0 then nodeNo (lebCount b q 65535).2.2 else nodeLoop k b (n - (j + 1)) (lebCount b q 65535).2.1 (ks ++ [⟨xs.toArray⟩]) vs (is ++ [(lebCount b q 65535).1])) else (if (lebRow b q 40).2.2 ≠ 0 then nodeNo (lebRow b q 40).2.2 else nodeLoop k b (n - (j + 1)) (lebRow b q 40).2.1 (ks ++ [⟨xs.toArray⟩]) (vs ++ [⟨(lebRow b q 40).1.toArray⟩]) is) by
                  rw [HL.out, nodeLoop, h, if_neg (by simp)])
                have H2 := Lib.hid h
                clear h HL HQ
                by_cases h2 : k = 2
                · subst h2
                  rcases lebCount_or b q 65535 with ⟨e, h, hne, _⟩ | ⟨x, q2, h, _, _, hx6, hqb2, _⟩
                  · have HP := Lib.hid (show nodeGet 2 b = nodeNo e by rw [HL2.out, if_pos rfl, h, if_pos hne])
                    have H3 := Lib.hid h
                    have he1 : (e != 0) = true := by simpa using hne
                    clear h hne
                    go_wp2_with (first
                      | (go_at_call 66; go_must (refine (ref_GetRow A c b p 40 v hb hbc (by omega) (HR.out.bl HS.out.wb)).mono ?_); rw [H2.out]; rintro z wqa ⟨vqa, rfl, hqa, hbla⟩; obtain ⟨Aqa, cqa, rfl, _⟩ := hqa.slice; have HSa := Lib.hid (HS.out.bl hbla); obtain ⟨zq0, zq1, zq2, zq3, zg0, zg1, zg2, zg3⟩ := Ob.all4 HSa.out.oR; obtain ⟨zm0, zm1, zm2, zm3, zk0, zk1, zk2, zk3⟩ := Ob.all4 HSa.out.oN)
                      | (refine conv_step rfl 24 9 5 _ (by rfl) Try.underlying24 Try.underlying5 Try.underlying9 (by rfl) rfl hqa.rd.1 ?_)
                      | (at_builtin; go_must (refine append_one rfl _ _ 49 9 (.string .empty) 1 16 rfl Try.underlying49 Try.infoStr rfl (by decide) base HSa.out.aK (by rfl) (by first | rfl | simp [go_sem]) (by rfl) (by intro u hu; simp at hu; subst hu; rfl) (by omega) (by omega) HSa.out.ord.2.2 ?_); intro vb wb hownb hgrb hatb; obtain ⟨Ab, cb, rfl, hccb⟩ := hownb.slice; have S3b := HSa.out.keys (x := ⟨xs.toArray⟩) hownb hgrb hatb; have hNb := (HSa.out.grow hgrb HSa.out.aK.ge 1 (.int .i64 0)).2.1; have gb := hNb.cell 1 rfl; simp only [List.getElem_toArray, List.getElem_cons_zero, List.getElem_cons_succ] at gb; have fb := hNb.free 1; have HSb := Lib.hid S3b)
                      | (go_at_call 84; go_must (refine (ref_Count_at A c b q 65535 _ _ _ _ hb (by omega) (HR.out.bl HSb.out.wb) H3.out).mono ?_); rintro z wqc ⟨rfl, nc, rfl⟩; have HSc := Lib.hid (HSb.out.bl ((Bl.refl _).drewN nc)); obtain ⟨zq0, zq1, zq2, zq3, zg0, zg1, zg2, zg3⟩ := Ob.all4 HSc.out.oR; obtain ⟨zm0, zm1, zm2, zm3, zk0, zk1, zk2, zk3⟩ := Ob.all4 HSc.out.oN))
                    refine bodyPost_ret (v := .tuple #[nodeV 0 none 0 0 none 0 0 none 0 0, .int .i64 e]) (results_ct rfl _ _ (HSc.out.oR.set4 _ _ _ _).1 rfl rfl Try.underlying52 rfl Try.sizeNode) rfl ?_
                    exact RetNode.no HP.out ((HSc.out.wb.ch [gR]).same (HSc.out.oR.set4 _ _ _ _).2 |>.bl (by have := HSc.out.w0b; simp; omega))
                  · have HP := Lib.hid (show nodeLoop 2 b (n - (j + 1)) q2 (ks ++ [⟨xs.toArray⟩]) vs (is ++ [(x : Int)]) = nodeGet 2 b by rw [HL2.out, if_pos rfl, h, if_neg (by simp)])
                    have H3 := Lib.hid h
                    clear h
                    go_wp2_with (first
                      | (go_at_call 66; go_must (refine (ref_GetRow A c b p 40 v hb hbc (by omega) (HR.out.bl HS.out.wb)).mono ?_); rw [H2.out]; rintro z wqa ⟨vqa, rfl, hqa, hbla⟩; obtain ⟨Aqa, cqa, rfl, _⟩ := hqa.slice; have HSa := Lib.hid (HS.out.bl hbla); obtain ⟨zq0, zq1, zq2, zq3, zg0, zg1, zg2, zg3⟩ := Ob.all4 HSa.out.oR; obtain ⟨zm0, zm1, zm2, zm3, zk0, zk1, zk2, zk3⟩ := Ob.all4 HSa.out.oN)
                      | (refine conv_step rfl 24 9 5 _ (by rfl) Try.underlying24 Try.underlying5 Try.underlying9 (by rfl) rfl hqa.rd.1 ?_)
                      | (at_builtin; (refine append_one rfl _ _ 49 9 (.string .empty) 1 16 rfl Try.underlying49 Try.infoStr rfl (by decide) base HSa.out.aK (by rfl) (by first | rfl | simp [go_sem]) (by rfl) (by intro u hu; simp at hu; subst hu; rfl) (by omega) (by omega) HSa.out.ord.2.2 ?_); intro vb wb hownb hgrb hatb; obtain ⟨Ab, cb, rfl, hccb⟩ := hownb.slice; have S3b := HSa.out.keys (x := ⟨xs.toArray⟩) hownb hgrb hatb; have hNb := (HSa.out.grow hgrb HSa.out.aK.ge 1 (.int .i64 0)).2.1; have gb := hNb.cell 1 rfl; simp only [List.getElem_toArray, List.getElem_cons_zero, List.getElem_cons_succ] at gb; have fb := hNb.free 1; have HSb := Lib.hid S3b)
                      | (go_at_call 84; go_must (refine (ref_Count_at A c b q 65535 _ _ _ _ hb (by omega) (HR.out.bl HSb.out.wb) H3.out).mono ?_); rintro z wqc ⟨rfl, nc, rfl⟩; have HSc := Lib.hid (HSb.out.bl ((Bl.refl _).drewN nc)); obtain ⟨zq0, zq1, zq2, zq3, zg0, zg1, zg2, zg3⟩ := Ob.all4 HSc.out.oR; obtain ⟨zm0, zm1, zm2, zm3, zk0, zk1, zk2, zk3⟩ := Ob.all4 HSc.out.oN)
                      | (at_builtin; (refine append_one rfl _ _ 50 3 (.int .i64 0) 1 8 rfl Try.underlying50 Try.infoInt rfl (by decide) base HSc.out.aI (by rfl) (by first | rfl | simp [go_sem]) (by rfl) (by intro u hu; simp at hu; subst hu; rfl) (by omega) (by omega) HSc.out.ord.2.2 ?_); intro vd wd hownd hgrd hatd; obtain ⟨Ad, cd, rfl, hccd⟩ := hownd.slice; have S3d := HSc.out.kids (x := (x : Int)) hownd hgrd; have hNd := (HSc.out.grow hgrd HSc.out.aI.ge 3 (.int .i64 0)).2.1; have gd := hNd.cell 3 rfl; simp only [List.getElem_toArray, List.getElem_cons_zero, List.getElem_cons_succ] at gd; have fd := hNd.free 3))
                    go_roundw
                    case rel => exact ⟨j + 1, q2, _, _, _, _, _, _, rfl, by go_num, by omega, S3d, by omega, by simp; omega, by omega, by simp; omega, HP.out⟩
                    case measure => simp [intOf]; omega
                · have b2 : (k == 2) = false := by simpa using h2
                  rcases lebRow_or b q 40 with ⟨e, h, hne, _⟩ | ⟨ys, q2, h, hy40, hqb2, _⟩
                  · have HP := Lib.hid (show nodeGet k b = nodeNo e by rw [HL2.out, if_neg h2, h, if_pos hne])
                    have H3 := Lib.hid h
                    have he1 : (e != 0) = true := by simpa using hne
                    clear h hne h2
                    go_wp2_with (first
                      | (go_at_call 66; (with_reducible refine (ref_GetRow A c b p 40 v hb hbc (by omega) (HR.out.bl HS.out.wb)).mono ?_); rw [H2.out]; rintro z wqa ⟨vqa, rfl, hqa, hbla⟩; obtain ⟨Aqa, cqa, rfl, _⟩ := hqa.slice; have HSa := Lib.hid (HS.out.bl hbla); obtain ⟨zq0, zq1, zq2, zq3, zg0, zg1, zg2, zg3⟩ := Ob.all4 HSa.out.oR; obtain ⟨zm0, zm1, zm2, zm3, zk0, zk1, zk2, zk3⟩ := Ob.all4 HSa.out.oN)
                      | (refine conv_step rfl 24 9 5 _ (by rfl) Try.underlying24 Try.underlying5 Try.underlying9 (by rfl) rfl hqa.rd.1 ?_)
                      | (at_builtin; go_must (refine append_one rfl _ _ 49 9 (.string .empty) 1 16 rfl Try.underlying49 Try.infoStr rfl (by decide) base HSa.out.aK (by rfl) (by first | rfl | simp [go_sem]) (by rfl) (by intro u hu; simp at hu; subst hu; rfl) (by omega) (by omega) HSa.out.ord.2.2 ?_); intro vb wb hownb hgrb hatb; obtain ⟨Ab, cb, rfl, hccb⟩ := hownb.slice; have S3b := HSa.out.keys (x := ⟨xs.toArray⟩) hownb hgrb hatb; have hNb := (HSa.out.grow hgrb HSa.out.aK.ge 1 (.int .i64 0)).2.1; have gb := hNb.cell 1 rfl; simp only [List.getElem_toArray, List.getElem_cons_zero, List.getElem_cons_succ] at gb; have fb := hNb.free 1; have HSb := Lib.hid S3b)
                      | (go_at_call 66; (with_reducible refine (ref_GetRow A c b q 40 _ hb hbc (by omega) (HR.out.bl HSb.out.wb)).mono ?_); rw [H3.out]; rintro z wqc ⟨vqc, rfl, hqc, hblc⟩; obtain ⟨Aqc, cqc, rfl, _⟩ := hqc.slice; have HSc := Lib.hid (HSb.out.bl hblc); obtain ⟨zq0, zq1, zq2, zq3, zg0, zg1, zg2, zg3⟩ := Ob.all4 HSc.out.oR; obtain ⟨zm0, zm1, zm2, zm3, zk0, zk1, zk2, zk3⟩ := Ob.all4 HSc.out.oN))
                    refine bodyPost_ret (v := .tuple #[nodeV 0 none 0 0 none 0 0 none 0 0, .int .i64 e]) (results_ct rfl _ _ (HSc.out.oR.set4 _ _ _ _).1 rfl rfl Try.underlying52 rfl Try.sizeNode) rfl ?_
                    exact RetNode.no HP.out ((HSc.out.wb.ch [gR]).same (HSc.out.oR.set4 _ _ _ _).2 |>.bl (by have := HSc.out.w0b; simp; omega))
                  · have HP := Lib.hid (show nodeLoop k b (n - (j + 1)) q2 (ks ++ [⟨xs.toArray⟩]) (vs ++ [⟨ys.toArray⟩]) is = nodeGet k b by rw [HL2.out, if_neg h2, h, if_neg (by simp)])
                    have H3 := Lib.hid h
                    clear h h2
                    go_wp2_with (first
                      | (go_at_call 66; (with_reducible refine (ref_GetRow A c b p 40 v hb hbc (by omega) (HR.out.bl HS.out.wb)).mono ?_); rw [H2.out]; rintro z wqa ⟨vqa, rfl, hqa, hbla⟩; obtain ⟨Aqa, cqa, rfl, _⟩ := hqa.slice; have HSa := Lib.hid (HS.out.bl hbla); obtain ⟨zq0, zq1, zq2, zq3, zg0, zg1, zg2, zg3⟩ := Ob.all4 HSa.out.oR; obtain ⟨zm0, zm1, zm2, zm3, zk0, zk1, zk2, zk3⟩ := Ob.all4 HSa.out.oN)
                      | (refine conv_step rfl 24 9 5 _ (by rfl) Try.underlying24 Try.underlying5 Try.underlying9 (by rfl) rfl hqa.rd.1 ?_)
                      | (at_builtin; (refine append_one rfl _ _ 49 9 (.string .empty) 1 16 rfl Try.underlying49 Try.infoStr rfl (by decide) base HSa.out.aK (by rfl) (by first | rfl | simp [go_sem]) (by rfl) (by intro u hu; simp at hu; subst hu; rfl) (by omega) (by omega) HSa.out.ord.2.2 ?_); intro vb wb hownb hgrb hatb; obtain ⟨Ab, cb, rfl, hccb⟩ := hownb.slice; have S3b := HSa.out.keys (x := ⟨xs.toArray⟩) hownb hgrb hatb; have hNb := (HSa.out.grow hgrb HSa.out.aK.ge 1 (.int .i64 0)).2.1; have gb := hNb.cell 1 rfl; simp only [List.getElem_toArray, List.getElem_cons_zero, List.getElem_cons_succ] at gb; have fb := hNb.free 1; have HSb := Lib.hid S3b)
                      | (go_at_call 66; (with_reducible refine (ref_GetRow A c b q 40 _ hb hbc (by omega) (HR.out.bl HSb.out.wb)).mono ?_); rw [H3.out]; rintro z wqc ⟨vqc, rfl, hqc, hblc⟩; obtain ⟨Aqc, cqc, rfl, _⟩ := hqc.slice; have HSc := Lib.hid (HSb.out.bl hblc); obtain ⟨zq0, zq1, zq2, zq3, zg0, zg1, zg2, zg3⟩ := Ob.all4 HSc.out.oR; obtain ⟨zm0, zm1, zm2, zm3, zk0, zk1, zk2, zk3⟩ := Ob.all4 HSc.out.oN)
                      | (refine conv_step rfl 24 9 5 _ (by rfl) Try.underlying24 Try.underlying5 Try.underlying9 (by rfl) rfl hqc.rd.1 ?_)
                      | (at_builtin; (refine append_one rfl _ _ 49 9 (.string .empty) 1 16 rfl Try.underlying49 Try.infoStr rfl (by decide) base HSc.out.aV (by rfl) (by first | rfl | simp [go_sem]) (by rfl) (by intro u hu; simp at hu; subst hu; rfl) (by omega) (by omega) HSc.out.ord.2.2 ?_); intro vd wd hownd hgrd hatd; obtain ⟨Ad, cd, rfl, hccd⟩ := hownd.slice; have S3d := HSc.out.vals (x := ⟨ys.toArray⟩) hownd hgrd hatd; have hNd := (HSc.out.grow hgrd HSc.out.aV.ge 2 (.int .i64 0)).2.1; have gd := hNd.cell 2 rfl; simp only [List.getElem_toArray, List.getElem_cons_zero, List.getElem_cons_succ] at gd; have fd := hNd.free 2))
                    go_roundw
                    case rel => exact ⟨j + 1, q2, _, _, _, _, _, _, rfl, by go_num, by omega, S3d, by omega, by simp; omega, by simp; omega, by omega, HP.out⟩
                    case measure => simp [intOf]; omega
            · obtain rfl : j = n := by omega
              obtain ⟨d0, d1, d2, d3, f0, f1, f2, f3⟩ := Ob.all4 HS.out.oR
              have HE := Lib.hid (show nodeEnd k b p ks vs is = nodeGet k b by rw [← HQ.out, Nat.sub_self]; rfl)
              have HOR := HS.out.ord
              clear HQ
              by_cases hpl : p = b.length
              · have b2 : (p != (b.length : Int)) = false := by simpa using hpl
                obtain ⟨A1, c1, B1, e1', I1, ci1, rfl, rfl, rfl⟩ := ref_out HS.out
                obtain ⟨m0, m1, m2, m3, _⟩ := Ob.all4 HS.out.oN
                have hm := ref_nodeMay k A1 B1 I1 ks vs is c1 e1' ci1 v (by omega) (by omega) (by omega) HS.out.aK.rd.1 HS.out.aV.rd.1 HS.out.aI.rd.1
                cases hr : nodeRight k ks vs is 6 6
                · have HP := Lib.hid (show nodeGet k b = nodeNo 5 by rw [← HE.out]; unfold nodeEnd; rw [if_pos (.inr hr)])
                  rw [hr] at hm
                  have HM := Lib.hid hm
                  clear hm hr hpl
                  go_wp2_with (first
                    | (go_at_call 37; go_must (refine HM.out.mono ?_); rintro z w4 ⟨rfl, hbl4⟩; have HS4 := Lib.hid (HS.out.bl hbl4); obtain ⟨zq0, zq1, zq2, zq3, zg0, zg1, zg2, zg3⟩ := Ob.all4 HS4.out.oR))
                  refine bodyPost_ret (v := .tuple #[nodeV 0 none 0 0 none 0 0 none 0 0, .int .i64 5]) (results_ct rfl _ _ (HS4.out.oR.set4 _ _ _ _).1 rfl rfl Try.underlying52 rfl Try.sizeNode) rfl ?_
                  exact RetNode.no HP.out ((HS4.out.wb.ch [gR]).same (HS4.out.oR.set4 _ _ _ _).2 |>.bl (by have := HS4.out.w0b; simp; omega))
                · have HP := Lib.hid (show nodeGet k b = ⟨k, ks, vs, is, 0⟩ by rw [← HE.out]; unfold nodeEnd; rw [if_neg (by rw [hr]; simp; omega)])
                  rw [hr] at hm
                  have HM := Lib.hid hm
                  clear hm hr hpl
                  go_wp2_with (first
                    | (go_at_call 37; go_must (refine HM.out.mono ?_); rintro z w4 ⟨rfl, hbl4⟩; have HS4 := Lib.hid (HS.out.bl hbl4); obtain ⟨zq0, zq1, zq2, zq3, zg0, zg1, zg2, zg3⟩ := Ob.all4 HS4.out.oR; clear m0 m1 m2 m3; obtain ⟨m0, m1, m2, m3, _⟩ := Ob.all4 HS4.out.oN))
                  refine bodyPost_ret (v := .tuple #[nodeV k A1 ks.length c1 B1 vs.length e1' I1 is.length ci1, .int .i64 0]) (results_ct rfl _ _ (HS4.out.oR.set4 _ _ _ _).1 rfl rfl Try.underlying52 rfl Try.sizeNode) rfl ?_
                  unfold RetNode
                  rw [HP.out]
                  have hch := (HS4.out.oR.set4 (.int .u8 k) (.slice A1 ks.length c1) (.slice B1 vs.length e1') (.slice I1 is.length ci1)).2
                  have hw0 := HS.out.w0b
                  have key : ∀ {T : TypeId} {v : Value} {m : Nat} {cs : List Value}, App w4 base T 1 v m cs → App _ w.heap.size T 1 v m cs := fun a => (a.ch hch (fun g hg e => by have := a.ge g e; simp at hg; omega)).mono (by omega)
                  exact ⟨A1, c1, B1, e1', I1, ci1, rfl, key HS4.out.aK, key HS4.out.aV, key HS4.out.aI, (HS4.out.wb.ch [gR]).same hch |>.bl (by simp; omega)⟩
              · have b2 : (p != (b.length : Int)) = true := by simpa using hpl
                have HP := Lib.hid (show nodeGet k b = nodeNo 5 by rw [← HE.out]; unfold nodeEnd; rw [if_pos (.inl hpl)])
                clear hpl
                go_wp2_with fail
                refine bodyPost_ret (v := .tuple #[nodeV 0 none 0 0 none 0 0 none 0 0, .int .i64 5]) (results_ct rfl _ _ (HS.out.oR.set4 _ _ _ _).1 rfl rfl Try.underlying52 rfl Try.sizeNode) rfl ?_
                exact RetNode.no HP.out ((HS.out.wb.ch [gR]).same (HS.out.oR.set4 _ _ _ _).2 |>.bl (by have := HS.out.w0b; simp; omega))
  · have HP := Lib.hid (show nodeGet k b = nodeNo 2 by unfold nodeGet; rw [if_pos (by omega)])
    have b1 : (k != 1) = true := by simp; omega
    have b2 : (k != 2) = true := by simp; omega
    clear hkind
    go_enter Try.func39, Try.ntmps39
    go_wp2_with fail
    refine bodyPost_ret (v := .tuple #[nodeV 0 none 0 0 none 0 0 none 0 0, .int .i64 2]) (results_ct rfl _ _ (Ob.new w #[.int .u8 0, .slice none 0 0, .slice none 0 0, .slice none 0 0] 52) rfl rfl Try.underlying52 rfl Try.sizeNode) rfl ?_
    exact RetNode.no HP.out ((Bl.refl w).alloc _)
end Go.Proofs.Ytedmamchfgkkfaa
