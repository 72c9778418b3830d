/- Layer 18 (node) walked: Get. -/
import Derived.Test.YtedmamchfgkkfaaNodeI
set_option linter.unusedVariables false
set_option linter.unusedSimpArgs false
namespace Go.Proofs.Ytedmamchfgkkfaa
open Go.RowKit
set_option maxRecDepth 100000
set_option maxHeartbeats 20000000

/-- The variable in which the result stands. -/
theorem node_out (k : Int) (ks vs : List ByteArray) (is : List Int) (K V I : Value) {w0 : World} {gB gR gA gE gN base : Nat} {A : Option Addr} {n c : Nat} {w : World} {p e : Int} (h : GetSt w0 k gB gR gA gE gN base A n c w p e ks vs is K V I) :
    ∃ A1 c1 B1 d1 I1 ci1, K = .slice A1 ks.length c1 ∧ V = .slice B1 vs.length d1 ∧ I = .slice I1 is.length ci1 := by
  obtain ⟨A1, c1, h1, _⟩ := h.aK.slice
  obtain ⟨B1, d1, h2, _⟩ := h.aV.slice
  obtain ⟨I1, ci1, h3, _⟩ := h.aI.slice
  exact ⟨A1, c1, B1, d1, I1, ci1, h1, h2, h3⟩

theorem node_Get (k : Int) (A : Option Addr) (c : Nat) (b : List UInt8) (w : World) (hb : b.length ≤ 140737488351232) (hbc : b.length ≤ c) (hr : Rd w A (b.map bv)) :
    Calls Try.prog 38 #[.int .u8 k, .slice A b.length c] w (RetNode (nodeGet k b) w) := by
  have hmf : ∀ (fn : Fn) (first cap : Array Value) (w : World), (Instr.makeFunc fn first cap).run Try.prog w = .ok (.func fn first cap) w := fun _ _ _ _ => rfl
  have HR := Lib.hid hr
  clear hr
  by_cases hkind : k = 1 ∨ k = 2
  · have b0 : (k != 1) = true → (k != 2) = false := by rcases hkind with rfl | rfl <;> decide
    have HS0 := Lib.hid (node_setup k A b.length c w)
    have HKIND := Lib.hid hkind
    have b1 : ((k != 1) = false) ∨ ((k != 1) = true ∧ (k != 2) = false) := by rcases hkind with rfl | rfl <;> decide
    clear b0 hkind
    go_enter Try.func38, Try.ntmps38
    go_upto_region 1 with (fail)
    go_cut [18] (fun s wx => s = .bool false ∧ wx = (w.alloc (.cells #[.slice A b.length c] 24)).alloc (.cells #[.int .u8 0, .slice none 0 0, .slice none 0 0, .slice none 0 0] 52))
    case first =>
      rcases b1 with b1 | ⟨b1, b2⟩
      all_goals
        go_wp2_with fail
        go_meet
        case rel => exact ⟨rfl, rfl⟩
    case rest =>
      obtain ⟨rfl, rfl⟩ := hcut
      clear b1
      go_wp2_with (go_at_call 80; fail_if_success skip)
      generalize (((((w.alloc (.cells #[.slice A b.length c] 24)).alloc (.cells #[.int .u8 0, .slice none 0 0, .slice none 0 0, .slice none 0 0] 52)).alloc (.cells #[.int .i64 0] 3)).alloc (.cells #[.int .i64 0] 28)).alloc (.cells #[.int .u8 k, .slice none 0 0, .slice none 0 0, .slice none 0 0] 52)) = u at HS0 ⊢
      generalize w.heap.size + 1 + 1 + 1 + 1 + 1 = base at HS0 ⊢
      generalize w.heap.size + 1 + 1 + 1 + 1 = gN at HS0 ⊢
      generalize w.heap.size + 1 + 1 + 1 = gE at HS0 ⊢
      generalize w.heap.size + 1 + 1 = gA at HS0 ⊢
      generalize w.heap.size + 1 = gR at HS0 ⊢
      generalize w.heap.size = gB at HS0 ⊢
      refine (nd_number gE gB gA A c b 0 0 6 u hb (by unfold Hid; omega) (by omega) (HR.out.bl HS0.out.wb) HS0.out.cap).mono ?_
      rintro z w1 ⟨rfl, hcap1, hch1⟩
      have HS1 := Lib.hid (HS0.out.call hcap1 hch1)
      have F1 := ndNum_facts b 6 0 0 (by omega) (by omega)
      have HG1 := Lib.hid (nodeGet_leaf b)
      have HG2 := Lib.hid (nodeGet_inner b)
      generalize ndNum b 6 0 0 = r at HS1 F1 HG1 HG2 ⊢
      obtain ⟨n0, p0, e0⟩ := r
      obtain ⟨n, rfl⟩ : ∃ n : Nat, n0 = n := ⟨n0.toNat, by simp only at F1; omega⟩
      simp only [Int.toNat_natCast] at HS1 F1 HG1 HG2 ⊢
      clear hcap1 hch1 HS0
      go_upto_if 27 with (fail)
      go_cut [] (fun wx => Hid (∃ p e ks vs is K V I, GetSt w k gB gR gA gE gN base A b.length c wx p e ks vs is K V I ∧ (0 ≤ p ∧ p ≤ b.length) ∧ ks = [] ∧ vs = [] ∧ is.length ≤ 1 ∧ ndGoes k b n p e ks vs is = nodeGet k b))
      case first =>
        by_cases h2 : k = 2
        · subst h2
          have HPa : Hid (-9223372036854775808 ≤ p0 ∧ p0 ≤ 9223372036854775807) := by unfold Hid; omega
          have HSD := Lib.hid (HS1.out.bl (Bl.refl _).drew)
          obtain ⟨Ia, hIa⟩ : ∃ Ia : Value, Ia = .slice none 0 0 := ⟨_, rfl⟩
          have c3 : w1.cell? ⟨gN, 3, none⟩ = some (.slice none 0 0) := HS1.out.oN.cell 3 rfl
          go_wp2_with fail
          subst hIa
          go_region_law (first
            | (go_simp; go_at_call 80; refine (nd_number gE gB gA A c b p0 e0 65535 w1.drew hb HPa (by omega) (HR.out.bl HSD.out.wb) HSD.out.cap).mono ?_; rintro z w2a ⟨rfl, hcap2a, hch2a⟩; have S2a := HSD.out.call hcap2a hch2a; have da : w2a.cell? ⟨gN, 3, none⟩ = some (.slice none 0 0) := S2a.oN.cell 3 rfl; have ea : (w2a.alloc (.cells #[.int .i64 (ndNum b 65535 p0 e0).1] 3)).cell? ⟨gN, 3, none⟩ = some (.slice none 0 0) := (S2a.bl ((Bl.refl _).alloc (.cells #[.int .i64 (ndNum b 65535 p0 e0).1] 3))).oN.cell 3 rfl)
            | (refine step_row rfl _ _ 50 3 (.int .i64 0) 1 8 (by rfl) Try.underlying50 Try.infoInt rfl (by decide) base (S2a.bl ((Bl.refl _).alloc (.cells #[.int .i64 (ndNum b 65535 p0 e0).1] 3))).aI (by rfl) (by rfl) (put_one_rd w2a 3 (.int .i64 (ndNum b 65535 p0 e0).1)) (by simp) (by intro u hu; simp at hu; subst hu; rfl) (by simp) (by simp) (S2a.bl ((Bl.refl _).alloc (.cells #[.int .i64 (ndNum b 65535 p0 e0).1] 3))).ord.2.2.2.2.2 ?_; intro v3a w3a hown3a hgr3a hat3a; obtain ⟨A3a, c3a, rfl, hcc3a⟩ := hown3a.slice; have S3a := (S2a.bl ((Bl.refl _).alloc (.cells #[.int .i64 (ndNum b 65535 p0 e0).1] 3))).kids (x := (ndNum b 65535 p0 e0).1) hown3a hgr3a; have hN3a := ((S2a.bl ((Bl.refl _).alloc (.cells #[.int .i64 (ndNum b 65535 p0 e0).1] 3))).grow hgr3a (S2a.bl ((Bl.refl _).alloc (.cells #[.int .i64 (ndNum b 65535 p0 e0).1] 3))).aI.ge 3 (.int .i64 0)).2.2.1; have g3a : w3a.cell? ⟨gN, 3, none⟩ = some (.slice none 0 0) := hN3a.cell 3 rfl; have f3a := hN3a.free 3))
          all_goals
            go_wp2_with fail
            go_meet
            case rel =>
              have F2 := ndNum_facts b 65535 p0 e0 (by omega) (by omega)
              exact ⟨_, _, _, _, _, _, _, _, S3a, ⟨F2.2.2.1, F2.2.2.2⟩, rfl, rfl, by simp, HG2.out.symm⟩
        · have b2 : (k == 2) = false := by simpa using h2
          have HK1 := Lib.hid (show k = 1 by have := HKIND.out; omega)
          clear h2
          go_wp2_with fail
          go_meet
          case rel =>
            obtain rfl := HK1.out
            exact ⟨_, _, _, _, _, _, _, _, HS1.out, ⟨F1.2.2.1, F1.2.2.2⟩, rfl, rfl, by simp, HG1.out.symm⟩
      case rest =>
        obtain ⟨p1, e1, ks1, vs1, is1, K1, V1, I1, S1, hp1, rfl, rfl, hl1, hq1⟩ := hcut.out
        have HS1 := Lib.hid S1
        have HQ1 := Lib.hid hq1
        have hn6 : n ≤ 6 := by omega
        clear S1 hq1 HG1 HG2 F1
        go_wp2_with fail
        go_loopw [12] (fun i wr => ∃ (j : Nat) (p e : Int) (ks vs : List ByteArray) (is : List Int) (K V I : Value), i = .int .i64 j ∧ j ≤ n ∧ Hid (GetSt w k gB gR gA gE gN base A b.length c wr p e ks vs is K V I) ∧ (0 ≤ p ∧ p ≤ b.length) ∧ ks.length ≤ j ∧ vs.length ≤ j ∧ is.length ≤ j + 1 ∧ Hid (ndGoes k b (n - j) p e ks vs is = nodeGet k b)) (fun i _ => n - (intOf i).toNat)
        case atStart => exact ⟨0, p1, e1, [], [], is1, K1, V1, I1, rfl, by omega, HS1.out, hp1, by simp, by simp, by omega, HQ1.out⟩
        case round =>
          obtain ⟨j, p, e, ks, vs, is, K, V, I, rfl, hj, HS, hp, hks, hvs, his, HQ⟩ := hrel
          obtain ⟨v, rfl⟩ : ∃ v : World, v = wr := ⟨_, rfl⟩
          clear HS1 HQ1
          have cE : v.cell? ⟨gE, 0, none⟩ = some (.int .i64 e) := HS.out.cap.oE.cell 0 rfl
          by_cases hgo : j < n ∧ e = 0
          · obtain ⟨hlt, he⟩ := hgo
            subst he
            have HPb : Hid (-9223372036854775808 ≤ p ∧ p ≤ 9223372036854775807) := by unfold Hid; omega
            have HSD := Lib.hid (HS.out.bl (Bl.refl _).drew)
            have F2 := ndText_facts b 40 p 0 (by omega) hp
            have c1 : v.cell? ⟨gN, 1, none⟩ = some K := HS.out.oN.cell 1 rfl
            go_upto_region 13 with (fail)
            go_cut [] (fun wx => Hid (∃ K', GetSt w k gB gR gA gE gN base A b.length c wx (ndText b 40 p 0).2.1 (ndText b 40 p 0).2.2 (ks ++ [⟨(ndText b 40 p 0).1.toArray⟩]) vs is K' V I))
            case first =>
              go_region_law (first
                | (go_simp; go_at_call 82; refine (nd_text gE gB gA A c b p 0 40 v.drew hb hbc HPb (by omega) (HR.out.bl HSD.out.wb) HSD.out.cap).mono ?_; rintro z w2b ⟨rfl, hcap2b, hch2b⟩; have S2b := HSD.out.call hcap2b hch2b; have db : w2b.cell? ⟨gN, 1, none⟩ = some K := S2b.oN.cell 1 rfl; have eb : (w2b.alloc (.cells #[.string (⟨(ndText b 40 p 0).1.toArray⟩ : ByteArray)] 9)).cell? ⟨gN, 1, none⟩ = some K := (S2b.bl ((Bl.refl _).alloc (.cells #[.string (⟨(ndText b 40 p 0).1.toArray⟩ : ByteArray)] 9))).oN.cell 1 rfl)
                | (refine step_row rfl _ _ 49 9 (.string .empty) 1 16 (by rfl) Try.underlying49 Try.infoStr rfl (by decide) base (S2b.bl ((Bl.refl _).alloc (.cells #[.string (⟨(ndText b 40 p 0).1.toArray⟩ : ByteArray)] 9))).aK (by rfl) (by rfl) (put_one_rd w2b 9 (.string (⟨(ndText b 40 p 0).1.toArray⟩ : ByteArray))) (by simp) (by intro u hu; simp at hu; subst hu; rfl) (by omega) (by omega) (S2b.bl ((Bl.refl _).alloc (.cells #[.string (⟨(ndText b 40 p 0).1.toArray⟩ : ByteArray)] 9))).ord.2.2.2.2.2 ?_; intro v3b w3b hown3b hgr3b hat3b; obtain ⟨A3b, c3b, rfl, hcc3b⟩ := hown3b.slice; have S3b := (S2b.bl ((Bl.refl _).alloc (.cells #[.string (⟨(ndText b 40 p 0).1.toArray⟩ : ByteArray)] 9))).keys (x := (⟨(ndText b 40 p 0).1.toArray⟩ : ByteArray)) hown3b hgr3b hat3b; have hN3b := ((S2b.bl ((Bl.refl _).alloc (.cells #[.string (⟨(ndText b 40 p 0).1.toArray⟩ : ByteArray)] 9))).grow hgr3b (S2b.bl ((Bl.refl _).alloc (.cells #[.string (⟨(ndText b 40 p 0).1.toArray⟩ : ByteArray)] 9))).aK.ge 1 (.int .i64 0)).2.2.1; have g3b : w3b.cell? ⟨gN, 1, none⟩ = some K := hN3b.cell 1 rfl; have f3b := hN3b.free 1))
              all_goals
                go_wp2_with fail
                go_meet
                case rel => exact ⟨_, S3b⟩
            case rest =>
              obtain ⟨K', S4⟩ := hcut.out
              have HS4 := Lib.hid S4
              have HSE := Lib.hid (S4.bl (Bl.refl _).drew)
              have HPc : Hid (-9223372036854775808 ≤ (ndText b 40 p 0).2.1 ∧ (ndText b 40 p 0).2.1 ≤ 9223372036854775807) := by unfold Hid; omega
              have HPd := HPc
              have c2 : wc.cell? ⟨gN, 2, none⟩ = some V := S4.oN.cell 2 rfl
              have c3 : wc.cell? ⟨gN, 3, none⟩ = some I := S4.oN.cell 3 rfl
              clear S4 c1 cE HSD
              by_cases h2 : k = 2
              · subst h2
                have HN := Lib.hid (ndGoes_kids b (n - (j + 1)) p ks vs is)
                have F3 := ndNum_facts b 65535 (ndText b 40 p 0).2.1 (ndText b 40 p 0).2.2 (by omega) (by omega)
                go_wp2_with fail
                go_region_law (first
                  | (go_simp; go_at_call 80; refine (nd_number gE gB gA A c b (ndText b 40 p 0).2.1 (ndText b 40 p 0).2.2 65535 wc.drew hb HPc (by omega) (HR.out.bl HSE.out.wb) HSE.out.cap).mono ?_; rintro z w2c ⟨rfl, hcap2c, hch2c⟩; have S2c := HSE.out.call hcap2c hch2c; have dc : w2c.cell? ⟨gN, 3, none⟩ = some I := S2c.oN.cell 3 rfl; have ec : (w2c.alloc (.cells #[.int .i64 (ndNum b 65535 (ndText b 40 p 0).2.1 (ndText b 40 p 0).2.2).1] 3)).cell? ⟨gN, 3, none⟩ = some I := (S2c.bl ((Bl.refl _).alloc (.cells #[.int .i64 (ndNum b 65535 (ndText b 40 p 0).2.1 (ndText b 40 p 0).2.2).1] 3))).oN.cell 3 rfl)
                  | (refine step_row rfl _ _ 50 3 (.int .i64 0) 1 8 (by rfl) Try.underlying50 Try.infoInt rfl (by decide) base (S2c.bl ((Bl.refl _).alloc (.cells #[.int .i64 (ndNum b 65535 (ndText b 40 p 0).2.1 (ndText b 40 p 0).2.2).1] 3))).aI (by rfl) (by rfl) (put_one_rd w2c 3 (.int .i64 (ndNum b 65535 (ndText b 40 p 0).2.1 (ndText b 40 p 0).2.2).1)) (by simp) (by intro u hu; simp at hu; subst hu; rfl) (by omega) (by omega) (S2c.bl ((Bl.refl _).alloc (.cells #[.int .i64 (ndNum b 65535 (ndText b 40 p 0).2.1 (ndText b 40 p 0).2.2).1] 3))).ord.2.2.2.2.2 ?_; intro v3c w3c hown3c hgr3c hat3c; obtain ⟨A3c, c3c, rfl, hcc3c⟩ := hown3c.slice; have S3c := (S2c.bl ((Bl.refl _).alloc (.cells #[.int .i64 (ndNum b 65535 (ndText b 40 p 0).2.1 (ndText b 40 p 0).2.2).1] 3))).kids (x := (ndNum b 65535 (ndText b 40 p 0).2.1 (ndText b 40 p 0).2.2).1) hown3c hgr3c; have hN3c := ((S2c.bl ((Bl.refl _).alloc (.cells #[.int .i64 (ndNum b 65535 (ndText b 40 p 0).2.1 (ndText b 40 p 0).2.2).1] 3))).grow hgr3c (S2c.bl ((Bl.refl _).alloc (.cells #[.int .i64 (ndNum b 65535 (ndText b 40 p 0).2.1 (ndText b 40 p 0).2.2).1] 3))).aI.ge 3 (.int .i64 0)).2.2.1; have g3c : w3c.cell? ⟨gN, 3, none⟩ = some I := hN3c.cell 3 rfl; have f3c := hN3c.free 3))
                all_goals
                  go_wp2_with fail
                  go_roundw
                  case rel =>
                    refine ⟨j + 1, _, _, _, _, _, _, _, _, by go_num, by omega, S3c, ⟨F3.2.2.1, F3.2.2.2⟩, by simp; omega, by omega, by simp; omega, ?_⟩
                    show _ = _
                    rw [← HN.out, show n - (j + 1) + 1 = n - j by omega]; exact HQ.out
                  case measure => simp [intOf]; omega
              · have b2 : (k == 2) = false := by simpa using h2
                have HN := Lib.hid (ndGoes_vals k h2 b (n - (j + 1)) p ks vs is)
                have F3 := ndText_facts b 40 (ndText b 40 p 0).2.1 (ndText b 40 p 0).2.2 (by omega) (by omega)
                clear h2
                go_wp2_with fail
                go_region_law (first
                  | (go_simp; go_at_call 82; refine (nd_text gE gB gA A c b (ndText b 40 p 0).2.1 (ndText b 40 p 0).2.2 40 wc.drew hb hbc HPd (by omega) (HR.out.bl HSE.out.wb) HSE.out.cap).mono ?_; rintro z w2d ⟨rfl, hcap2d, hch2d⟩; have S2d := HSE.out.call hcap2d hch2d; have dd : w2d.cell? ⟨gN, 2, none⟩ = some V := S2d.oN.cell 2 rfl; have ed : (w2d.alloc (.cells #[.string (⟨(ndText b 40 (ndText b 40 p 0).2.1 (ndText b 40 p 0).2.2).1.toArray⟩ : ByteArray)] 9)).cell? ⟨gN, 2, none⟩ = some V := (S2d.bl ((Bl.refl _).alloc (.cells #[.string (⟨(ndText b 40 (ndText b 40 p 0).2.1 (ndText b 40 p 0).2.2).1.toArray⟩ : ByteArray)] 9))).oN.cell 2 rfl)
                  | (refine step_row rfl _ _ 49 9 (.string .empty) 1 16 (by rfl) Try.underlying49 Try.infoStr rfl (by decide) base (S2d.bl ((Bl.refl _).alloc (.cells #[.string (⟨(ndText b 40 (ndText b 40 p 0).2.1 (ndText b 40 p 0).2.2).1.toArray⟩ : ByteArray)] 9))).aV (by rfl) (by rfl) (put_one_rd w2d 9 (.string (⟨(ndText b 40 (ndText b 40 p 0).2.1 (ndText b 40 p 0).2.2).1.toArray⟩ : ByteArray))) (by simp) (by intro u hu; simp at hu; subst hu; rfl) (by omega) (by omega) (S2d.bl ((Bl.refl _).alloc (.cells #[.string (⟨(ndText b 40 (ndText b 40 p 0).2.1 (ndText b 40 p 0).2.2).1.toArray⟩ : ByteArray)] 9))).ord.2.2.2.2.2 ?_; intro v3d w3d hown3d hgr3d hat3d; obtain ⟨A3d, c3d, rfl, hcc3d⟩ := hown3d.slice; have S3d := (S2d.bl ((Bl.refl _).alloc (.cells #[.string (⟨(ndText b 40 (ndText b 40 p 0).2.1 (ndText b 40 p 0).2.2).1.toArray⟩ : ByteArray)] 9))).vals (x := (⟨(ndText b 40 (ndText b 40 p 0).2.1 (ndText b 40 p 0).2.2).1.toArray⟩ : ByteArray)) hown3d hgr3d hat3d; have hN3d := ((S2d.bl ((Bl.refl _).alloc (.cells #[.string (⟨(ndText b 40 (ndText b 40 p 0).2.1 (ndText b 40 p 0).2.2).1.toArray⟩ : ByteArray)] 9))).grow hgr3d (S2d.bl ((Bl.refl _).alloc (.cells #[.string (⟨(ndText b 40 (ndText b 40 p 0).2.1 (ndText b 40 p 0).2.2).1.toArray⟩ : ByteArray)] 9))).aV.ge 2 (.int .i64 0)).2.2.1; have g3d : w3d.cell? ⟨gN, 2, none⟩ = some V := hN3d.cell 2 rfl; have f3d := hN3d.free 2))
                all_goals
                  go_wp2_with fail
                  go_roundw
                  case rel =>
                    refine ⟨j + 1, _, _, _, _, _, _, _, _, by go_num, by omega, S3d, ⟨F3.2.1, F3.2.2⟩, by simp; omega, by simp; omega, by omega, ?_⟩
                    show _ = _
                    rw [← HN.out, show n - (j + 1) + 1 = n - j by omega]; exact HQ.out
                  case measure => simp [intOf]; omega
          · have d0 := HS.out.oR.cell 0 rfl
            have d1 := HS.out.oR.cell 1 rfl
            have d2 := HS.out.oR.cell 2 rfl
            have d3 := HS.out.oR.cell 3 rfl
            have f0 := HS.out.oR.free 0
            have f1 := HS.out.oR.free 1
            have f2 := HS.out.oR.free 2
            have f3 := HS.out.oR.free 3
            simp only [List.getElem_toArray, List.getElem_cons_zero, List.getElem_cons_succ] at d0 d1 d2 d3
            have HOR := HS.out.ord
            by_cases he : e = 0
            · subst he
              obtain rfl : j = n := by omega
              have HE := Lib.hid (show nodeEnd k b p ks vs is = nodeGet k b by rw [← HQ.out, Nat.sub_self]; unfold ndGoes; rw [if_neg (by simp)]; rfl)
              have cA : v.cell? ⟨gA, 0, none⟩ = some (.int .i64 p) := HS.out.cap.oA.cell 0 rfl
              have cB : v.cell? ⟨gB, 0, none⟩ = some (.slice A b.length c) := HS.out.cap.oB.cell 0 rfl
              clear HQ hgo
              by_cases hpl : p = b.length
              · have b2 : (p != (b.length : Int)) = false := by simpa using hpl
                obtain ⟨A1, c1, B1, e1', I1, ci1, rfl, rfl, rfl⟩ := node_out k ks vs is K V I HS.out
                obtain ⟨m0, m1, m2, m3, _⟩ := Ob.all4 HS.out.oN
                have hm := node_May k A1 B1 I1 ks vs is c1 e1' ci1 v (by omega) (by omega) (by omega) HS.out.aK.rd.1 HS.out.aV.rd.1 HS.out.aI.rd.1
                cases hr : nodeRight k ks vs is 6 6
                · have HP := Lib.hid (show nodeGet k b = nodeNo 5 by rw [← HE.out]; unfold nodeEnd; rw [if_pos (.inr hr)])
                  rw [hr] at hm
                  have HM := Lib.hid hm
                  clear hm hr hpl
                  go_wp2_with (first
                    | (go_at_call 36; go_must (refine HM.out.mono ?_); rintro z w4 ⟨rfl, hbl4⟩; have HS4 := Lib.hid (HS.out.bl hbl4); obtain ⟨q0, q1, q2, q3, g0, g1, g2, g3⟩ := Ob.all4 HS4.out.oR))
                  refine bodyPost_ret (v := .tuple #[nodeV 0 none 0 0 none 0 0 none 0 0, .int .i64 5]) (results_ct rfl _ _ (HS4.out.oR.set4 _ _ _ _).1 rfl rfl Try.underlying52 rfl Try.sizeNode) rfl ?_
                  exact RetNode.no HP.out ((HS4.out.wb.ch [gR]).same (HS4.out.oR.set4 _ _ _ _).2 |>.bl (by have := HS.out.w0b; simp; omega))
                · have HP := Lib.hid (show nodeGet k b = ⟨k, ks, vs, is, 0⟩ by rw [← HE.out]; unfold nodeEnd; rw [if_neg (by rw [hr]; simp; omega)])
                  rw [hr] at hm
                  have HM := Lib.hid hm
                  clear hm hr hpl
                  go_wp2_with (first
                    | (go_at_call 36; go_must (refine HM.out.mono ?_); rintro z w4 ⟨rfl, hbl4⟩; have HS4 := Lib.hid (HS.out.bl hbl4); obtain ⟨q0, q1, q2, q3, g0, g1, g2, g3⟩ := Ob.all4 HS4.out.oR; clear m0 m1 m2 m3; obtain ⟨m0, m1, m2, m3, _⟩ := Ob.all4 HS4.out.oN))
                  refine bodyPost_ret (v := .tuple #[nodeV k A1 ks.length c1 B1 vs.length e1' I1 is.length ci1, .int .i64 0]) (results_ct rfl _ _ (HS4.out.oR.set4 _ _ _ _).1 rfl rfl Try.underlying52 rfl Try.sizeNode) rfl ?_
                  unfold RetNode
                  rw [HP.out]
                  have hch := (HS4.out.oR.set4 (.int .u8 k) (.slice A1 ks.length c1) (.slice B1 vs.length e1') (.slice I1 is.length ci1)).2
                  have hw0 := HS.out.w0b
                  have key : ∀ {T : TypeId} {v : Value} {m : Nat} {cs : List Value}, App w4 base T 1 v m cs → App _ w.heap.size T 1 v m cs := fun a => (a.ch hch (fun g hg e => by have := a.ge g e; simp at hg; omega)).mono (by omega)
                  exact ⟨A1, c1, B1, e1', I1, ci1, rfl, key HS4.out.aK, key HS4.out.aV, key HS4.out.aI, (HS4.out.wb.ch [gR]).same hch |>.bl (by simp; omega)⟩
              · have b2 : (p != (b.length : Int)) = true := by simpa using hpl
                have HP := Lib.hid (show nodeGet k b = nodeNo 5 by rw [← HE.out]; unfold nodeEnd; rw [if_pos (.inl hpl)])
                clear hpl
                go_wp2_with fail
                refine bodyPost_ret (v := .tuple #[nodeV 0 none 0 0 none 0 0 none 0 0, .int .i64 5]) (results_ct rfl _ _ (HS.out.oR.set4 _ _ _ _).1 rfl rfl Try.underlying52 rfl Try.sizeNode) rfl ?_
                exact RetNode.no HP.out ((HS.out.wb.ch [gR]).same (HS.out.oR.set4 _ _ _ _).2 |>.bl (by have := HS.out.w0b; simp; omega))
            · have HP := Lib.hid (show nodeGet k b = nodeNo e by rw [← HQ.out]; unfold ndGoes; rw [if_pos he])
              have b2 : (e != 0) = true := by simpa using he
              have b3 : (e == 0) = false := by simpa using he
              clear he hgo HQ
              by_cases hlt : j < n
              all_goals
                go_wp2_with fail
                go_region
                go_wp2_with fail
                refine bodyPost_ret (v := .tuple #[nodeV 0 none 0 0 none 0 0 none 0 0, .int .i64 e]) (results_ct rfl _ _ (Ob.bl (HS.out.oR.set4 _ _ _ _).1 (Bl.refl _).drew) rfl rfl Try.underlying52 rfl Try.sizeNode) rfl ?_
                exact RetNode.no HP.out (Bl.drew ((HS.out.wb.ch [gR]).same (HS.out.oR.set4 _ _ _ _).2 |>.bl (by have := HS.out.w0b; simp; omega)))
  · have HP := Lib.hid (show nodeGet k b = nodeNo 2 by unfold nodeGet; rw [if_pos (by omega)])
    have b1 : (k != 1) = true := by simp; omega
    have b2 : (k != 2) = true := by simp; omega
    clear hkind
    go_enter Try.func38, Try.ntmps38
    go_wp2_with fail
    have hob : Ob ((w.alloc (.cells #[.slice A b.length c] 24)).alloc (.cells #[.int .u8 0, .slice none 0 0, .slice none 0 0, .slice none 0 0] 52)) (w.heap.size + 1) 52 #[.int .u8 0, .slice none 0 0, .slice none 0 0, .slice none 0 0] := by
      have := Ob.new (w.alloc (.cells #[.slice A b.length c] 24)) #[.int .u8 0, .slice none 0 0, .slice none 0 0, .slice none 0 0] 52
      simpa using this
    refine bodyPost_ret (v := .tuple #[nodeV 0 none 0 0 none 0 0 none 0 0, .int .i64 2]) (results_ct rfl _ _ hob rfl rfl Try.underlying52 rfl Try.sizeNode) rfl ?_
    exact RetNode.no HP.out (((Bl.refl w).alloc _).alloc _)
end Go.Proofs.Ytedmamchfgkkfaa
