/- Texts of the claim SimfsTwice, part 7: SimDead, SimLb, SimLc, SimLd, SimLf, SimLe, SimLg, SimLh, SimLi. -/
import Derived.Test.YthphonkiolmkiaaGSimfsTwice6
import Derived.Test.YthphonkiolmkiaaGSimfsTwice4
/- Layer 14, the law SimfsDead walked. -/
set_option linter.unusedVariables false
set_option linter.unusedSimpArgs false
namespace Go.Proofs.Ythphonkiolmkiaa
open Go.RowKit
set_option maxRecDepth 100000
set_option maxHeartbeats 8000000

theorem fsRead_len (S : Fs) (s : ByteArray) : (fsRead S s 0 1048576).1.length ≤ 1048576 := by
  unfold fsRead
  refine ite_ind (P := fun r : List UInt8 × Nat => r.1.length ≤ 1048576) (fun _ => Nat.zero_le _) (fun _ => ite_ind (P := fun r : List UInt8 × Nat => r.1.length ≤ 1048576) (fun _ => Nat.zero_le _) (fun _ => ?_))
  show (List.take (1048576 : Int).toNat _).length ≤ 1048576
  rw [List.length_take]
  exact Nat.min_le_left _ _
theorem dead_calls (room : Int) (A1 A3 A4 : Option Addr) (c1 c3 c4 : Nat) (l more : List OpA) (x : OpA) (cu : List Int) (W : World) (hl : l.length ≤ 140737488351232) (hm : more.length ≤ 140737488351232) (r1 : Rd W A1 (l.flatMap opv)) (r3 : Rd W A3 (more.flatMap opv)) (r4 : Rd W A4 (cu.map iE)) (hcu : cu.length ≤ c4) (hi : ∀ a ∈ cu, -9223372036854775808 ≤ a ∧ a ≤ 9223372036854775807) (ho : ∀ o ∈ l, OpOk W o) (hom : ∀ o ∈ more, OpOk W o) (hx : OpOk W x) (hroom : -9223372036854775808 ≤ room ∧ room ≤ 9223372036854775807) :
    Calls Try.prog 9 #[.int .i64 room, .slice A1 l.length c1, opV x, .slice A3 more.length c3, .slice A4 cu.length c4] W (RetTrue W) := by
  simp only [opV]
  have HR1 := Lib.hid r1
  have HR3 := Lib.hid r3
  have HR4 := Lib.hid r4
  have HI := Lib.hid (And.intro hcu hi)
  have HO := Lib.hid (And.intro ho (And.intro hom hx))
  have HM0 := Lib.hid ((Mem.start W).alloc (.cells #[.int .u8 (x.call : Int), sE x.name, sE x.to_, .int .i64 x.off, .slice x.A x.b.length x.c] 53))
  clear r1 r3 r4 hcu hi ho hom hx
  go_enter Try.func9, Try.ntmps9
  go_upto_region 1 with (fail)
  generalize W.alloc (.cells #[.int .u8 (x.call : Int), sE x.name, sE x.to_, .int .i64 x.off, .slice x.A x.b.length x.c] 53) = w0 at HM0 ⊢
  generalize W.heap.size = g at HM0 ⊢
  have HB := Lib.hid (show blk g 53 #[.int .u8 (x.call : Int), sE x.name, sE x.to_, .int .i64 x.off, .slice x.A x.b.length x.c] = blk g 53 #[.int .u8 (x.call : Int), sE x.name, sE x.to_, .int .i64 x.off, .slice x.A x.b.length x.c] from rfl)
  go_wp2_with fail
  refine (fs_New room HM0.out).mono ?_
  rintro en w1 (⟨h1, rfl, m⟩ | ⟨h1, q, rfl, m⟩)
  · have HM1 := Lib.hid m
    clear m HM0
    go_wp2_with fail
    refine (works_calls HM1.out).mono ?_
    rintro en w2 ⟨rfl, m⟩
    have HM2 := Lib.hid m
    clear m HM1
    go_wp2_with fail
    go_ret
    exact RetTrue.mk rfl (HM2.out.toBlAt 1 rfl rfl rfl rfl)
  · have HM1 := Lib.hid m
    clear m HM0 h1
    generalize room.toNat = rm at HM1
    go_wp2_with fail
    refine (great_calls A1 l c1 w1 hl (HR1.out.bl (HM1.out.toBlAt 2 rfl rfl rfl rfl)) (fun o h => (HO.out.1 o h).bl (HM1.out.toBlAt 2 rfl rfl rfl rfl))).mono ?_
    rintro en v2 ⟨g1, rfl, hw, hg⟩
    rw [hw]
    clear hw v2
    cases g1 with
    | true =>
      clear hg
      go_wp2_with fail
      refine (works_calls HM1.out).mono ?_
      rintro en w2 ⟨rfl, m⟩
      have HM2 := Lib.hid m
      clear m HM1
      go_wp2_with fail
      go_ret
      exact RetTrue.mk rfl (HM2.out.toBlAt 2 rfl rfl rfl rfl)
    | false =>
      have hg2 := hg rfl
      clear hg
      go_wp2_with fail
      refine (great_calls A3 more c3 w1 hm (HR3.out.bl (HM1.out.toBlAt 2 rfl rfl rfl rfl)) (fun o h => (HO.out.2.1 o h).bl (HM1.out.toBlAt 2 rfl rfl rfl rfl))).mono ?_
      rintro en v2 ⟨g1, rfl, hw, hg⟩
      rw [hw]
      clear hw v2
      cases g1 with
      | true =>
        clear hg
        go_wp2_with fail
        refine (works_calls HM1.out).mono ?_
        rintro en w2 ⟨rfl, m⟩
        have HM2 := Lib.hid m
        clear m HM1
        go_wp2_with fail
        go_ret
        exact RetTrue.mk rfl (HM2.out.toBlAt 2 rfl rfl rfl rfl)
      | false =>
        have hg3 := hg rfl
        clear hg
        go_wp2_with fail
        go_loopw [13] (fun v13 wr => ∃ (i : Nat) (S : Fs), v13 = .int .i64 i ∧ i ≤ l.length ∧ S.acts ≤ i ∧ Hid (Mem W (fsC q S :: blk g 53 #[.int .u8 (x.call : Int), sE x.name, sE x.to_, .int .i64 x.off, .slice x.A x.b.length x.c] :: [old W]) wr)) (fun v13 _ => l.length - (intOf v13).toNat)
        case atStart => exact ⟨0, newFs rm, rfl, Nat.zero_le _, Nat.le_refl _, HM1⟩
        case round =>
          obtain ⟨i, S, rfl, hi, ha, HS⟩ := hrel
          clear HM1
          by_cases hlt : i < l.length
          case pos =>
            obtain ⟨o, hx⟩ : ∃ o, l[i]? = some o := ⟨_, List.getElem?_eq_getElem hlt⟩
            have HOK := Lib.hid (HO.out.1 o (List.mem_of_getElem? hx))
            have hOV := HS.out.toBlAt 2 rfl rfl rfl rfl
            obtain ⟨bb, off, rfl, hcell⟩ := Rd.rec (f := opv) (k := 5) (fun _ => rfl) HR1.out hx (by omega)
            have HCELL := Lib.hid (fun (v : World) (h : Bl W v) (r : Nat) (x : Value) (hx : (opv o)[r]? = some x) => h.cellAt (hcell r x hx))
            have hlt2 : (i : Int) < (l.length : Int) := by omega
            have k0 : wr.cell? ⟨bb, off + i * 5, none⟩ = some (.int .u8 (o.call : Int)) := HCELL.out wr hOV 0 _ rfl
            have k1 : wr.cell? ⟨bb, off + i * 5 + 1, none⟩ = some (sE o.name) := HCELL.out wr hOV 1 _ rfl
            have k2 : wr.cell? ⟨bb, off + i * 5 + 2, none⟩ = some (sE o.to_) := HCELL.out wr hOV 2 _ rfl
            have k3 : wr.cell? ⟨bb, off + i * 5 + 3, none⟩ = some (.int .i64 o.off) := HCELL.out wr hOV 3 _ rfl
            have k4 : wr.cell? ⟨bb, off + i * 5 + 4, none⟩ = some (.slice o.A o.b.length o.c) := HCELL.out wr hOV 4 _ rfl
            have HDO := Lib.hid (do_calls o HS.out HOK.out.name HOK.out.to_ HOK.out.off.2 (by have := HOK.out.len; omega) (fun u m => HOK.out.rd.bl (m.toBlAt 2 rfl rfl rfl rfl)) (by omega))
            have hda := do_acts S o
            generalize fsDo S o = r' at HDO hda
            obtain ⟨S', e'⟩ := r'
            have hda : S'.acts ≤ S.acts + 1 := hda
            simp only [opV] at HDO
            clear hcell hx hOV
            go_wp2_with fail
            refine HDO.out.mono ?_
            rintro en w6 ⟨rfl, m⟩
            have HM6 := Lib.hid m
            clear m HS HDO k0 k1 k2 k3 k4
            go_wp2_with fail
            go_roundw
            case rel => exact ⟨i + 1, S', rfl, hlt, by omega, HM6⟩
            case measure => simp [intOf]; omega
          case neg =>
            have hlt2 : ¬ ((i : Int) < (l.length : Int)) := by omega
            have HARM := Lib.hid (fs_Arm 1 HS.out (by omega))
            have ha1 : (fsArm S 1).1.acts ≤ S.acts := by
              unfold fsArm
              exact ite_ind (P := fun r : Fs × Nat => r.1.acts ≤ S.acts) (fun _ => Nat.le_refl _) (fun _ => ite_ind (P := fun r : Fs × Nat => r.1.acts ≤ S.acts) (fun _ => Nat.le_refl _) (fun _ => Nat.le_refl _))
            generalize fsArm S 1 = r1 at HARM ha1
            obtain ⟨S1, e1⟩ := r1
            have ha1 : S1.acts ≤ S.acts := ha1
            go_wp2_with fail
            refine HARM.out.mono ?_
            rintro en w6 ⟨rfl, m⟩
            have HM6 := Lib.hid (show Mem W (fsC q S1 :: blk g 53 #[.int .u8 (x.call : Int), sE x.name, sE x.to_, .int .i64 x.off, .slice x.A x.b.length x.c] :: [old W]) w6 from m)
            clear m HS HARM
            have hxo := HO.out.2.2
            have k0 : w6.cell? ⟨g, 0, none⟩ = some (.int .u8 (x.call : Int)) := (HM6.out.ob 1 rfl).cell 0 rfl
            have k1 : w6.cell? ⟨g, 1, none⟩ = some (sE x.name) := (HM6.out.ob 1 rfl).cell 1 rfl
            have k2 : w6.cell? ⟨g, 2, none⟩ = some (sE x.to_) := (HM6.out.ob 1 rfl).cell 2 rfl
            have k3 : w6.cell? ⟨g, 3, none⟩ = some (.int .i64 x.off) := (HM6.out.ob 1 rfl).cell 3 rfl
            have k4 : w6.cell? ⟨g, 4, none⟩ = some (.slice x.A x.b.length x.c) := (HM6.out.ob 1 rfl).cell 4 rfl
            have HDO := Lib.hid (do_calls x HM6.out hxo.name hxo.to_ hxo.off.2 (by have := hxo.len; omega) (fun u m => hxo.rd.bl (m.toBlAt 2 rfl rfl rfl rfl)) (by omega))
            have hda := do_acts S1 x
            generalize fsDo S1 x = r2 at HDO hda
            obtain ⟨S2, e2⟩ := r2
            have hda : S2.acts ≤ S1.acts + 1 := hda
            simp only [opV] at HDO
            clear hxo
            go_wp2_with fail
            refine HDO.out.mono ?_
            rintro en w7 ⟨rfl, m⟩
            have HM7 := Lib.hid (show Mem W (fsC q S2 :: blk g 53 #[.int .u8 (x.call : Int), sE x.name, sE x.to_, .int .i64 x.off, .slice x.A x.b.length x.c] :: [old W]) w7 from m)
            clear m HM6 HDO k0 k1 k2 k3 k4
            go_wp2_with fail
            refine (fs_Dead HM7.out).mono ?_
            rintro en w8 ⟨rfl, m⟩
            have HM8 := Lib.hid m
            clear m HM7
            cases hd : S2.dead with
            | false =>
              go_wp2_with fail
              refine (works_calls HM8.out).mono ?_
              rintro en w9 ⟨rfl, m⟩
              have HM9 := Lib.hid m
              clear m HM8
              go_wp2_with fail
              go_ret
              exact RetTrue.mk rfl (HM9.out.toBlAt 2 rfl rfl rfl rfl)
            | true =>
              have HD := Lib.hid hd
              clear hd
              go_wp2_with fail
              refine (fs_Acts HM8.out).mono ?_
              rintro en w9 ⟨rfl, m⟩
              have HM9 := Lib.hid m
              clear m HM8
              go_wp2_with fail
              refine (fs_Fail (l := cu) (c := c4) (A := A4) HM9.out (fun v m => HR4.out.bl (m.toBlAt 2 rfl rfl rfl rfl)) HI.out.1 HI.out.2 (by omega)).mono ?_
              rintro en w10 ⟨z1, rfl, m⟩
              obtain ⟨F, hF⟩ : ∃ F, F = fsFail S2 cu := ⟨_, rfl⟩
              have HF := Lib.hid hF
              rw [← hF] at m
              have HM10 := Lib.hid m
              clear m HM9 hF
              go_wp2_with fail
              go_loopw [17] (fun v17 wr => ∃ (i : Nat), v17 = .int .i64 i ∧ i ≤ more.length ∧ Hid (Mem W (fsC z1 F :: fsC q S2 :: blk g 53 #[.int .u8 (x.call : Int), sE x.name, sE x.to_, .int .i64 x.off, .slice x.A x.b.length x.c] :: [old W]) wr)) (fun v17 _ => more.length - (intOf v17).toNat)
              case atStart => exact ⟨0, rfl, Nat.zero_le _, HM10⟩
              case round =>
                clear hlt hlt2
                obtain ⟨i, rfl, hi, HS⟩ := hrel
                clear HM10
                by_cases hlt : i < more.length
                case pos =>
                  obtain ⟨o, hx⟩ : ∃ o, more[i]? = some o := ⟨_, List.getElem?_eq_getElem hlt⟩
                  have HOK := Lib.hid (HO.out.2.1 o (List.mem_of_getElem? hx))
                  have hOV := HS.out.toBlAt 3 rfl rfl rfl rfl
                  obtain ⟨bb, off, rfl, hcell⟩ := Rd.rec (f := opv) (k := 5) (fun _ => rfl) HR3.out hx (by omega)
                  have HCELL := Lib.hid (fun (v : World) (h : Bl W v) (r : Nat) (x : Value) (hx : (opv o)[r]? = some x) => h.cellAt (hcell r x hx))
                  have hlt2 : (i : Int) < (more.length : Int) := by omega
                  have k0 : wr.cell? ⟨bb, off + i * 5, none⟩ = some (.int .u8 (o.call : Int)) := HCELL.out wr hOV 0 _ rfl
                  have k1 : wr.cell? ⟨bb, off + i * 5 + 1, none⟩ = some (sE o.name) := HCELL.out wr hOV 1 _ rfl
                  have k2 : wr.cell? ⟨bb, off + i * 5 + 2, none⟩ = some (sE o.to_) := HCELL.out wr hOV 2 _ rfl
                  have k3 : wr.cell? ⟨bb, off + i * 5 + 3, none⟩ = some (.int .i64 o.off) := HCELL.out wr hOV 3 _ rfl
                  have k4 : wr.cell? ⟨bb, off + i * 5 + 4, none⟩ = some (.slice o.A o.b.length o.c) := HCELL.out wr hOV 4 _ rfl
                  have HDO := Lib.hid (do_calls o (HS.out.bring 1) HOK.out.name HOK.out.to_ HOK.out.off.2 (by have := HOK.out.len; omega) (fun u m => HOK.out.rd.bl (m.toBlAt 3 rfl rfl rfl rfl)) (by omega))
                  rw [do_dead HD.out] at HDO
                  simp only [opV] at HDO
                  clear hcell hx hOV
                  by_cases h8 : o.call ≤ 8
                  · have i8 : (o.call : Int) ≤ 8 := by omega
                    rw [if_pos h8] at HDO
                    clear h8
                    go_wp2_with fail
                    refine HDO.out.mono ?_
                    rintro en w11 ⟨rfl, m⟩
                    have HM11 := Lib.hid (m.bring 1)
                    clear m HS HDO k0 k1 k2 k3 k4
                    go_wp2_with fail
                    go_roundw
                    case rel => exact ⟨i + 1, rfl, hlt, HM11⟩
                    case measure => simp [intOf]; omega
                  · have i8 : ¬ ((o.call : Int) ≤ 8) := by omega
                    clear h8 HDO
                    go_wp2_with fail
                    go_roundw
                    case rel => exact ⟨i + 1, rfl, hlt, HS⟩
                    case measure => simp [intOf]; omega
                case neg =>
                  have hlt2 : ¬ ((i : Int) < (more.length : Int)) := by omega
                  go_wp2_with fail
                  refine (fs_Fail (l := cu) (c := c4) (A := A4) (HS.out.bring 1) (fun v m => HR4.out.bl (m.toBlAt 3 rfl rfl rfl rfl)) HI.out.1 HI.out.2 (by omega)).mono ?_
                  rintro en w11 ⟨z2, rfl, m⟩
                  rw [← HF.out] at m
                  have HM11 := Lib.hid m
                  clear m HS hlt hlt2
                  go_wp2_with fail
                  refine (fs_Names HM11.out).mono ?_
                  rintro en w12 ⟨A20, c20, rfl, m⟩
                  have HFN := Lib.hid (show (fsNames F).length ≤ 64 by
                    have h := HM11.out.fsOk.seen.len
                    unfold fsNames
                    split
                    · exact Nat.zero_le _
                    · simpa [dNames] using h)
                  have HM12 := Lib.hid m
                  clear m HM11
                  go_wp2_with fail
                  refine (fs_Acts (HM12.out.bring 2)).mono ?_
                  rintro en w13 ⟨rfl, m⟩
                  have HM13 := Lib.hid m
                  clear m HM12
                  go_wp2_with fail
                  refine (fs_Used HM13.out).mono ?_
                  rintro en w14 ⟨rfl, m⟩
                  rw [show fsUsed S2 = 0 by unfold fsUsed; rw [HD.out]; rfl]
                  have HM14 := Lib.hid m
                  clear m HM13
                  go_wp2_with fail
                  refine (fs_Room HM14.out).mono ?_
                  rintro en w15 ⟨rfl, m⟩
                  rw [show fsRoom S2 = 0 by unfold fsRoom; rw [HD.out]; rfl]
                  have HM15 := Lib.hid m
                  clear m HM14
                  have HN := Lib.hid (fs_Names HM15.out)
                  rw [show fsNames S2 = [] by unfold fsNames; rw [HD.out]; rfl] at HN
                  go_wp2_with fail
                  refine HN.out.mono ?_
                  rintro en w16 ⟨A16, c16, rfl, m⟩
                  have HM16 := Lib.hid m.drop
                  clear m HM15 HN
                  go_wp2_with fail
                  refine (fs_Names (HM16.out.bring 3)).mono ?_
                  rintro en w17 ⟨A17, c17, rfl, m⟩
                  have HM17 := Lib.hid m
                  clear m HM16
                  go_wp2_with fail
                  refine (texts_calls A17 A20 c17 c20 (fsNames F) (fsNames F) w17 (by have := HFN.out; omega) (HM17.out.app 0 rfl).rd.1 (HM17.out.app 3 rfl).rd.1).mono ?_
                  rintro en v18 ⟨rfl, k, rfl⟩
                  have HM18 := Lib.hid ((HM17.out.drewN k).drop.bring 2)
                  clear HM17
                  generalize w17.drewN k = w18 at HM18 ⊢
                  simp only [decide_true]
                  go_wp2_with fail
                  go_loopw [21] (fun v21 wr => ∃ (i : Nat), v21 = .int .i64 i ∧ i ≤ (fsNames F).length ∧ Hid (Mem W (row 9 1 (.slice A20 (fsNames F).length c20) (fsNames F).length ((fsNames F).map sE) :: fsC z1 F :: fsC q S2 :: fsC z2 F :: blk g 53 #[.int .u8 (x.call : Int), sE x.name, sE x.to_, .int .i64 x.off, .slice x.A x.b.length x.c] :: [old W]) wr)) (fun v21 _ => (fsNames F).length - (intOf v21).toNat)
                  case atStart => exact ⟨0, rfl, Nat.zero_le _, HM18⟩
                  case round =>
                    obtain ⟨i, rfl, hi, HS⟩ := hrel
                    clear HM18
                    by_cases hlt : i < (fsNames F).length
                    case pos =>
                      obtain ⟨s, hs⟩ : ∃ s, (fsNames F)[i]? = some s := ⟨_, List.getElem?_eq_getElem hlt⟩
                      obtain ⟨b1, o1, rfl, hcl⟩ := Rd.get (HS.out.app 0 rfl).rd.1 hs
                      have hlt2 : (i : Int) < ((fsNames F).length : Int) := by omega
                      have HLEN := Lib.hid (fsRead_len F s)
                      have HS0 := Lib.hid hs
                      have h64 : ((fsNames F).length : Int) ≤ 64 := by have := HFN.out; omega
                      have HRA := Lib.hid (fs_Read s 0 1048576 (HS.out.bring 1))
                      have HRB := Lib.hid (fun (v : World) (ds : List Chunk) (h : Mem W (fsC z2 F :: ds) v) => fs_Read s 0 1048576 h)
                      generalize fsRead F s 0 1048576 = rd at HRA HRB HLEN
                      obtain ⟨xs, er⟩ := rd
                      clear hs
                      go_wp2_with fail
                      refine HRA.out.mono ?_
                      rintro en w20 ⟨B1, d1, rfl, m⟩
                      have HM20 := Lib.hid m
                      obtain ⟨b2, o2, e2, hcl2⟩ := Rd.get (m.app 2 rfl).rd.1 HS0.out
                      cases e2
                      clear m HS HRA hcl
                      go_wp2_with fail
                      refine (HRB.out _ _ (HM20.out.bring 4)).mono ?_
                      rintro en w21 ⟨B2, d2, rfl, m⟩
                      have HM21 := Lib.hid m
                      clear m HM20 HRB hcl2
                      go_wp2_with fail
                      refine (same_calls B1 B2 d1 d2 xs xs w21 (by have h : xs.length ≤ 1048576 := HLEN.out; omega) (HM21.out.app 2 rfl).rd.1 (HM21.out.app 0 rfl).rd.1).mono ?_
                      rintro en v22 ⟨rfl, k, rfl⟩
                      have HM22 := Lib.hid ((((((HM21.out.drewN k).drop.bring 1).drop).bring 3).bring 2).bring 3)
                      clear HM21
                      generalize w21.drewN k = w22 at HM22 ⊢
                      simp only [decide_true]
                      go_wp2_with fail
                      go_roundw
                      case rel => exact ⟨i + 1, rfl, hlt, HM22⟩
                      case measure => simp [intOf]; omega
                    case neg =>
                      have hlt2 : ¬ ((i : Int) < ((fsNames F).length : Int)) := by omega
                      go_wp2_with fail
                      refine (works_calls HS.out).mono ?_
                      rintro en w20 ⟨rfl, m⟩
                      have HM20 := Lib.hid m
                      clear m HS
                      go_wp2_with fail
                      go_ret
                      exact RetTrue.mk rfl (HM20.out.toBlAt 5 rfl rfl rfl rfl)
end Go.Proofs.Ythphonkiolmkiaa
/- Layer 14, the laws: do both disks tell the same? -/
set_option linter.unusedVariables false
set_option linter.unusedSimpArgs false
namespace Go.Proofs.Ythphonkiolmkiaa
open Go.RowKit
set_option maxRecDepth 100000
set_option maxHeartbeats 8000000

theorem Mem.rfOk {w0 w : World} {cs : List Chunk} {q : Nat} {S : Fs} {G : Facts} (h : Mem w0 (rfC q S G :: cs) w) : FsOk S := by
  obtain ⟨_, _, ho, _⟩ := h.rf
  exact ho
theorem fsRead_len5 (S : Fs) (s : ByteArray) (k : Int) : (fsRead S s k 5).1.length ≤ 5 := by
  unfold fsRead
  split
  · simp
  · split
    · simp
    · simp only [List.length_take]; omega
theorem fsNames_len {S : Fs} (h : FsOk S) : (fsNames S).length ≤ 64 := by
  have h := h.seen.len
  unfold fsNames
  split
  · exact Nat.zero_le _
  · simpa [dNames] using h
section
variable {w0 w : World} {cs : List Chunk} {f g : Nat} {S : Fs} {G : Facts}
theorem files_calls (A : Option Addr) (c : Nat) (ns : List ByteArray) (h : Mem w0 (rfC g S G :: pool G :: fsC f S :: cs) w) (ha : S.acts < 1000000000) (hn : ns.length ≤ 64) (hA : ∀ v, Mem w0 cs v → Rd v A (ns.map sE)) :
    Calls Try.prog 78 #[pE f, pE g, .slice A ns.length c] w (fun en w' => en = .returned (.bool true) ∧ Mem w0 (rfC g S G :: pool G :: fsC f S :: cs) w') := by
  have HM := Lib.hid h
  have HA := Lib.hid hA
  have HAC := Lib.hid ha
  clear h hA ha
  go_enter Try.func78, Try.ntmps78
  go_wp2_with fail
  go_loopw [7] (fun v7 wr => ∃ (i : Nat), v7 = .int .i64 i ∧ i ≤ ns.length ∧ Hid (Mem w0 (rfC g S G :: pool G :: fsC f S :: cs) wr)) (fun v7 _ => ns.length - (intOf v7).toNat)
  case atStart => exact ⟨0, rfl, Nat.zero_le _, HM⟩
  case round =>
    obtain ⟨i, rfl, hi, HS⟩ := hrel
    clear HM
    by_cases hlt : i < ns.length
    case pos =>
      obtain ⟨s, hs⟩ : ∃ s, ns[i]? = some s := ⟨_, List.getElem?_eq_getElem hlt⟩
      obtain ⟨b1, o1, rfl, hcl⟩ := Rd.get (HA.out _ HS.out.drop.drop.drop) hs
      have hlt2 : (i : Int) < (ns.length : Int) := by omega
      have h64 : (ns.length : Int) ≤ 64 := by omega
      have HLEN := Lib.hid (fsRead_len S s)
      have HS0 := Lib.hid hs
      have HRA := Lib.hid (fs_Read s 0 1048576 (HS.out.bring 2))
      have HRB := Lib.hid (fun (v : World) (ds : List Chunk) (h : Mem w0 (rfC g S G :: pool G :: ds) v) => ref_Read s 0 1048576 h HAC.out)
      generalize fsRead S s 0 1048576 = rd at HRA HRB HLEN
      obtain ⟨xs, er⟩ := rd
      clear hs
      go_wp2_with fail
      refine HRA.out.mono ?_
      rintro en w2 ⟨B1, d1, rfl, m⟩
      have HM2 := Lib.hid ((m.bring 3).bring 3)
      clear m HS HRA hcl
      obtain ⟨b2, o2, e2, hcl2⟩ := Rd.get (HA.out _ HM2.out.drop.drop.drop.drop) HS0.out
      cases e2
      go_wp2_with fail
      refine (HRB.out _ _ HM2.out).mono ?_
      rintro en w3 ⟨B2, d2, rfl, m⟩
      have HM3 := Lib.hid m
      clear m HM2 HRB hcl2
      go_wp2_with fail
      refine (same_calls B1 B2 d1 d2 xs xs w3 (by have h : xs.length ≤ 1048576 := HLEN.out; omega) (HM3.out.app 3 rfl).rd.1 (HM3.out.app 0 rfl).rd.1).mono ?_
      rintro en v4 ⟨rfl, k, rfl⟩
      have HM4 := Lib.hid ((HM3.out.drewN k).drop.bring 2).drop
      clear HM3
      generalize w3.drewN k = w4 at HM4 ⊢
      simp only [decide_true]
      go_wp2_with fail
      go_roundw
      case rel => exact ⟨i + 1, rfl, hlt, HM4⟩
      case measure => simp [intOf]; omega
    case neg =>
      have hlt2 : ¬ ((i : Int) < (ns.length : Int)) := by omega
      go_wp2_with fail
      go_ret
      exact ⟨rfl, HS.out⟩
theorem ref_UsedC (h : Mem w0 (rfC g S G :: pool G :: cs) w) (ha : S.acts < 1000000000) : Calls Try.prog 72 #[pE g] w (fun en w' => en = .returned (nE (fsUsed S)) ∧ Mem w0 (rfC g S G :: pool G :: cs) w') := by
  obtain ⟨R, hf, ho, M⟩ := h.rf
  exact (ref_Used M hf ho ha).mono (fun en w' hh => ⟨hh.1, hh.2.unrf hf ho⟩)
theorem alike_calls (o : OpA) (h : Mem w0 (rfC g S G :: pool G :: fsC f S :: cs) w) (ha : S.acts < 1000000000) :
    Calls Try.prog 41 #[pE f, pE g, opV o] w (fun en w' => en = .returned (.bool true) ∧ Mem w0 (rfC g S G :: pool G :: fsC f S :: cs) w') := by
  obtain ⟨call, name, to_, off, A, b, c⟩ := o
  have HM := Lib.hid ((h.alloc (.cells #[.int .u8 (call : Int), sE name, sE to_, .int .i64 off, .slice A b.length c] 53)).away 3)
  have HAC := Lib.hid ha
  have HNL := Lib.hid (fsNames_len h.rfOk)
  clear h ha
  simp only [opV]
  go_enter Try.func41, Try.ntmps41
  go_upto_region 1 with (fail)
  generalize w.alloc (.cells #[.int .u8 (call : Int), sE name, sE to_, .int .i64 off, .slice A b.length c] 53) = v at HM ⊢
  generalize w.heap.size = q at HM ⊢
  go_wp2_with fail
  refine (ref_Names HM.out).mono ?_
  rintro en w1 ⟨A1, c1, rfl, m⟩
  have HM1 := Lib.hid (m.away 4)
  clear m HM
  go_wp2_with fail
  refine (fs_Names (HM1.out.bring 2)).mono ?_
  rintro en w2 ⟨A2, c2, rfl, m⟩
  have HM2 := Lib.hid m
  clear m HM1
  go_wp2_with fail
  refine (texts_calls A2 A1 c2 c1 (fsNames S) (fsNames S) w2 (by have := HNL.out; omega) (HM2.out.app 0 rfl).rd.1 (HM2.out.app 5 rfl).rd.1).mono ?_
  rintro en v3 ⟨rfl, k, rfl⟩
  have HM3 := Lib.hid (HM2.out.drewN k).drop
  clear HM2
  generalize w2.drewN k = w3 at HM3 ⊢
  simp only [decide_true]
  go_wp2_with fail
  refine (fs_Used HM3.out).mono ?_
  rintro en w4 ⟨rfl, m⟩
  have HM4 := Lib.hid (m.away 2)
  clear m HM3
  go_wp2_with fail
  refine (ref_UsedC HM4.out HAC.out).mono ?_
  rintro en w5 ⟨rfl, m⟩
  have HM5 := Lib.hid m
  clear m HM4
  go_wp2_with fail
  refine (fs_Room (HM5.out.bring 2)).mono ?_
  rintro en w6 ⟨rfl, m⟩
  have HM6 := Lib.hid (m.away 2)
  clear m HM5
  go_wp2_with fail
  refine (ref_Room HM6.out).mono ?_
  rintro en w7 ⟨rfl, rfl⟩
  go_wp2_with fail
  refine (fs_Acts (HM6.out.bring 2)).mono ?_
  rintro en w7 ⟨rfl, m⟩
  have HM7 := Lib.hid (m.away 2)
  clear m HM6
  go_wp2_with fail
  refine (ref_Acts HM7.out).mono ?_
  rintro en w8 ⟨rfl, rfl⟩
  go_wp2_with fail
  refine (fs_Dead (HM7.out.bring 2)).mono ?_
  rintro en w8 ⟨rfl, m⟩
  have HM8 := Lib.hid (m.away 2)
  clear m HM7
  go_wp2_with fail
  refine (ref_Dead HM8.out).mono ?_
  rintro en w9 ⟨rfl, rfl⟩
  have k1 : w9.cell? ⟨q, 1, none⟩ = some (sE name) := (HM8.out.ob 3 rfl).cell 1 rfl
  have k3 : w9.cell? ⟨q, 3, none⟩ = some (.int .i64 off) := (HM8.out.ob 3 rfl).cell 3 rfl
  have HRA := Lib.hid (fs_Read name off 5 (HM8.out.bring 2))
  have HRB := Lib.hid (fun (v : World) (ds : List Chunk) (h : Mem w0 (rfC g S G :: pool G :: ds) v) => ref_Read name off 5 h HAC.out)
  have HLEN := Lib.hid (fsRead_len5 S name off)
  generalize fsRead S name off 5 = rd at HRA HRB HLEN
  obtain ⟨xs, er⟩ := rd
  go_wp2_with fail
  refine HRA.out.mono ?_
  rintro en w10 ⟨B1, d1, rfl, m⟩
  have HM10 := Lib.hid ((m.bring 3).bring 3)
  clear m HM8 HRA k1 k3
  have k1 : w10.cell? ⟨q, 1, none⟩ = some (sE name) := (HM10.out.ob 4 rfl).cell 1 rfl
  have k3 : w10.cell? ⟨q, 3, none⟩ = some (.int .i64 off) := (HM10.out.ob 4 rfl).cell 3 rfl
  go_wp2_with fail
  refine (HRB.out _ _ HM10.out).mono ?_
  rintro en w11 ⟨B2, d2, rfl, m⟩
  have HM11 := Lib.hid m
  clear m HM10 HRB k1 k3
  have k1 : w11.cell? ⟨q, 1, none⟩ = some (sE name) := (HM11.out.ob 5 rfl).cell 1 rfl
  go_wp2_with fail
  refine (fs_Size name (HM11.out.bring 4)).mono ?_
  rintro en w12 ⟨rfl, m⟩
  have HM12 := Lib.hid (m.bring 3 |>.bring 3)
  clear m HM11 k1
  have k1 : w12.cell? ⟨q, 1, none⟩ = some (sE name) := (HM12.out.ob 5 rfl).cell 1 rfl
  go_wp2_with fail
  refine (ref_Size name HM12.out HAC.out).mono ?_
  rintro en w13 ⟨rfl, m⟩
  have HM13 := Lib.hid m
  clear m HM12 k1
  go_wp2_with fail
  refine (same_calls B1 B2 d1 d2 xs xs w13 (by have h : xs.length ≤ 5 := HLEN.out; omega) (HM13.out.app 4 rfl).rd.1 (HM13.out.app 3 rfl).rd.1).mono ?_
  rintro en v14 ⟨rfl, k, rfl⟩
  have HM14 := Lib.hid ((((HM13.out.drewN k).bring 3).drop.bring 3).drop)
  clear HM13
  generalize w13.drewN k = w14 at HM14 ⊢
  simp only [decide_true]
  go_wp2_with fail
  refine (files_calls A1 c1 (fsNames S) HM14.out HAC.out HNL.out (fun v m => (m.app 1 rfl).rd.1)).mono ?_
  rintro en w15 ⟨rfl, m⟩
  have HM15 := Lib.hid ((m.bring 3).drop.bring 3).drop
  clear m HM14
  go_wp2_with fail
  go_ret
  exact ⟨rfl, HM15.out⟩
end
end Go.Proofs.Ythphonkiolmkiaa
/- Layer 14, the law SimfsPlays walked. -/
set_option linter.unusedVariables false
set_option linter.unusedSimpArgs false
namespace Go.Proofs.Ythphonkiolmkiaa
open Go.RowKit
set_option maxRecDepth 100000
set_option maxHeartbeats 8000000

theorem plays_calls (room : Int) (A : Option Addr) (l : List OpA) (c : Nat) (W : World) (hroom : -9223372036854775808 ≤ room ∧ room ≤ 9223372036854775807) (hl : l.length ≤ 140737488351232) (hr : Rd W A (l.flatMap opv)) (ho : ∀ o ∈ l, OpOk W o) :
    Calls Try.prog 10 #[.int .i64 room, .slice A l.length c] W (RetTrue W) := by
  have HR := Lib.hid hr
  have HO := Lib.hid ho
  have HL := Lib.hid hl
  have HM0 := Lib.hid (Mem.start W)
  clear hr ho
  go_enter Try.func10, Try.ntmps10
  go_wp2_with fail
  refine (fs_New room HM0.out).mono ?_
  rintro en w1 (⟨h1, rfl, m⟩ | ⟨h1, f, rfl, m⟩)
  · have HM1 := Lib.hid m.noPool
    clear m HM0
    go_wp2_with fail
    refine (ref_New room HM1.out rfl).mono ?_
    rintro en w2 (⟨h2, rfl, m⟩ | ⟨h2, g, rfl, m⟩)
    rotate_left
    · exact absurd h1 h2
    have HM2 := Lib.hid m
    clear m HM1 h1 h2
    go_wp2_with fail
    refine (works_calls HM2.out).mono ?_
    rintro en w3 ⟨rfl, m⟩
    have HM3 := Lib.hid m
    clear m HM2
    go_wp2_with fail
    go_ret
    exact RetTrue.mk rfl (HM3.out.toBlAt 1 rfl rfl rfl rfl)
  · have HM1 := Lib.hid m.noPool
    clear m HM0
    go_wp2_with fail
    refine (ref_New room HM1.out rfl).mono ?_
    rintro en w2 (⟨h2, rfl, m⟩ | ⟨h2, g, rfl, m⟩)
    · exact absurd h2 h1
    obtain ⟨r, rfl⟩ : ∃ r : Nat, room = (r : Int) := ⟨room.toNat, by omega⟩
    rw [Int.toNat_natCast] at m
    have HM2 := Lib.hid m
    clear m HM1 h1 h2
    go_wp2_with fail
    refine (great_calls A l c w2 hl (HR.out.bl (HM2.out.toBlAt 3 rfl rfl rfl rfl)) (fun o h => (HO.out o h).bl (HM2.out.toBlAt 3 rfl rfl rfl rfl))).mono ?_
    rintro en w3 ⟨gr, rfl, rfl, hg⟩
    cases gr with
    | true =>
      clear hg
      go_wp2_with fail
      refine (works_calls HM2.out).mono ?_
      rintro en w3 ⟨rfl, m⟩
      have HM3 := Lib.hid m
      clear m HM2
      go_wp2_with fail
      go_ret
      exact RetTrue.mk rfl (HM3.out.toBlAt 3 rfl rfl rfl rfl)
    | false =>
      have hg2 := hg rfl
      clear hg
      go_wp2_with fail
      go_loopw [9] (fun v9 wr => ∃ (i : Nat) (S : Fs) (G : Facts), v9 = .int .i64 i ∧ i ≤ l.length ∧ S.acts ≤ i ∧ Hid (Mem W (rfC g S G :: pool G :: fsC f S :: [old W]) wr)) (fun v9 _ => l.length - (intOf v9).toNat)
      case atStart => exact ⟨0, newFs r, _, rfl, Nat.zero_le _, Nat.le_refl _, HM2⟩
      case round =>
        obtain ⟨i, S, G, rfl, hi, ha, HS⟩ := hrel
        clear HM2
        by_cases hlt : i < l.length
        case pos =>
          obtain ⟨o, hx⟩ : ∃ o, l[i]? = some o := ⟨_, List.getElem?_eq_getElem hlt⟩
          have HOK := Lib.hid (HO.out o (List.mem_of_getElem? hx))
          have hOV := HS.out.toBlAt 3 rfl rfl rfl rfl
          obtain ⟨b, off, rfl, hcell⟩ := Rd.rec (f := opv) (k := 5) (fun _ => rfl) HR.out hx (by omega)
          have HCELL := Lib.hid (fun (v : World) (h : Bl W v) => show v.cell? ⟨b, off + i * 5, none⟩ = some (.int .u8 (o.call : Int)) ∧ v.cell? ⟨b, off + i * 5 + 1, none⟩ = some (sE o.name) ∧ v.cell? ⟨b, off + i * 5 + 2, none⟩ = some (sE o.to_) ∧ v.cell? ⟨b, off + i * 5 + 3, none⟩ = some (.int .i64 o.off) ∧ v.cell? ⟨b, off + i * 5 + 4, none⟩ = some (.slice o.A o.b.length o.c) from
            ⟨h.cellAt (hcell 0 _ rfl), h.cellAt (hcell 1 _ rfl), h.cellAt (hcell 2 _ rfl), h.cellAt (hcell 3 _ rfl), h.cellAt (hcell 4 _ rfl)⟩)
          have hlt2 : (i : Int) < (l.length : Int) := by omega
          obtain ⟨k0, k1, k2, k3, k4⟩ := HCELL.out wr hOV
          have hac := do_acts S o
          have HDO := Lib.hid (do_calls o (HS.out.drew.bring 2) HOK.out.name HOK.out.to_ HOK.out.off.2 (by have := HOK.out.len; omega) (fun u m => HOK.out.rd.bl (m.toBlAt 3 rfl rfl rfl rfl)) (by omega))
          have HDID := Lib.hid (fun (v : World) (ds : List Chunk) (m : Mem W (rfC g S G :: pool G :: ds) v) (hd : ∀ u, Mem W ds u → Rd u o.A (o.b.map bv)) => did_calls o m HOK.out.name HOK.out.to_ HOK.out.off.2 (by have := HOK.out.len; omega) (by have := HOK.out.len; omega) hd (by omega))
          generalize fsDo S o = r' at HDO HDID hac
          obtain ⟨S', e'⟩ := r'
          have HAL := Lib.hid (fun (v : World) (G' : Facts) (m : Mem W (rfC g S' G' :: pool G' :: fsC f S' :: [old W]) v) => alike_calls o m (by have h : S'.acts ≤ S.acts + 1 := hac; omega))
          simp only [opV] at HDO HDID HAL hac
          have hne : ((e' : Int) != (e' : Int)) = false := by simp
          clear hcell hx hOV
          go_upto_region 10 with (fail)
          go_region_held3 (fun w' => w'.cell? ⟨b, off + i * 5, none⟩ = some (.int .u8 (o.call : Int)) ∧ w'.cell? ⟨b, off + i * 5 + 1, none⟩ = some (sE o.name) ∧ w'.cell? ⟨b, off + i * 5 + 2, none⟩ = some (sE o.to_) ∧ w'.cell? ⟨b, off + i * 5 + 3, none⟩ = some (.int .i64 o.off) ∧ w'.cell? ⟨b, off + i * 5 + 4, none⟩ = some (.slice o.A o.b.length o.c))
            (first | exact ⟨k0, k1, k2, k3, k4⟩ | exact K3 | exact K4 | exact K5)
            (first
              | (go_at_call 33; refine HDO.out.mono ?_; rintro en w3 ⟨rfl, m3⟩; have K3 := HCELL.out w3 (m3.toBlAt 3 rfl rfl rfl rfl))
              | (go_at_call 40; refine (HDID.out _ _ (m3.away 2) (fun u m => HOK.out.rd.bl (m.toBlAt 1 rfl rfl rfl rfl))).mono ?_; rintro en w4 ⟨rfl, G4, hG4, m4⟩; have K4 := HCELL.out w4 (m4.toBlAt 3 rfl rfl rfl rfl))
              | (go_at_call 41; refine (HAL.out _ _ m4).mono ?_; rintro en w5 ⟨rfl, m5⟩; have K5 := HCELL.out w5 (m5.toBlAt 3 rfl rfl rfl rfl)))
          all_goals
            go_wp2_with fail
            go_roundw
            case rel => exact ⟨i + 1, S', G4, rfl, hlt, by have h : S'.acts ≤ S.acts + 1 := hac; omega, Lib.hid m5⟩
            case measure => simp [intOf]; omega
        case neg =>
          have hlt2 : ¬ ((i : Int) < (l.length : Int)) := by omega
          go_wp2_with fail
          refine (works_calls HS.out).mono ?_
          rintro en w5 ⟨rfl, m⟩
          have HM5 := Lib.hid m
          clear m HS
          go_wp2_with fail
          go_ret
          exact RetTrue.mk rfl (HM5.out.toBlAt 3 rfl rfl rfl rfl)
end Go.Proofs.Ythphonkiolmkiaa
/- Layer 14, the law SimfsFails walked. -/
set_option linter.unusedVariables false
set_option linter.unusedSimpArgs false
namespace Go.Proofs.Ythphonkiolmkiaa
open Go.RowKit
set_option maxRecDepth 100000
set_option maxHeartbeats 8000000

theorem copyInts_calls (A : Option Addr) (c : Nat) (xs : List Int) {w0 w : World} {cs : List Chunk} (h : Mem w0 cs w) (hl : xs.length * 8 ≤ 140737488355328) (hr : Rd w A (xs.map iE)) :
    Calls Try.prog 42 #[.slice A xs.length c] w (fun en w' => ∃ A' c', en = .returned (.slice A' xs.length c') ∧ xs.length ≤ c' ∧ Mem w0 (row 3 1 (.slice A' xs.length c') xs.length (xs.map iE) :: cs) w') := by
  have HR := Lib.hid hr
  have HM := Lib.hid h
  clear hr h
  go_enter Try.func42, Try.ntmps42
  go_wp2_with (at_builtin; go_must (refine append_row rfl _ _ 24 3 (.int .i64 0) 1 8 rfl Try.underlying24 Try.infoInt rfl (by decide) w.heap.size (App.nil w _ _ _) (by rfl) (by rfl) HR.out (by simp) (iv_one _) (by simp; omega) (by simp; omega) (Nat.le_refl _) ?_); intro v1 w1 hown1 hgr1 hat1)
  go_ret
  have hbl : Bl w w1 := Bl.grown (Bl.refl w) hgr1 (fun q hq => by simp [Value.ownBlock] at hq)
  rw [Nat.zero_add, List.nil_append] at hown1
  obtain ⟨A1, c1, rfl, hcc⟩ := hown1.slice
  exact ⟨A1, c1, rfl, hcc, HM.out.newRow hbl hown1⟩
def opLast : OpA := ⟨0, wkA, .empty, 0, none, [], 0⟩
theorem fails_calls (room : Int) (A A2 : Option Addr) (l : List OpA) (c c2 : Nat) (cu : List Int) (W : World) (hroom : -9223372036854775808 ≤ room ∧ room ≤ 9223372036854775807) (hl : l.length ≤ 140737488351232) (hr : Rd W A (l.flatMap opv)) (ho : ∀ o ∈ l, OpOk W o) (r2 : Rd W A2 (cu.map iE)) (hcu : cu.length ≤ c2) (hc8 : cu.length * 8 ≤ 140737488351232) (hi : ∀ a ∈ cu, -9223372036854775808 ≤ a ∧ a ≤ 9223372036854775807) :
    Calls Try.prog 11 #[.int .i64 room, .slice A l.length c, .slice A2 cu.length c2] W (RetTrue W) := by
  have HR := Lib.hid hr
  have HO := Lib.hid ho
  have HI := Lib.hid (And.intro r2 (And.intro hcu (And.intro hi hc8)))
  have HL := Lib.hid hl
  have HM0 := Lib.hid (Mem.start W)
  clear hr ho r2 hcu hi
  go_enter Try.func11, Try.ntmps11
  go_wp2_with fail
  refine (fs_New room HM0.out).mono ?_
  rintro en w1 (⟨h1, rfl, m⟩ | ⟨h1, f, rfl, m⟩)
  · have HM1 := Lib.hid m.noPool
    clear m HM0
    go_wp2_with fail
    refine (ref_New room HM1.out rfl).mono ?_
    rintro en w2 (⟨h2, rfl, m⟩ | ⟨h2, g, rfl, m⟩)
    rotate_left
    · exact absurd h1 h2
    have HM2 := Lib.hid m
    clear m HM1 h1 h2
    go_wp2_with fail
    refine (works_calls HM2.out).mono ?_
    rintro en w3 ⟨rfl, m⟩
    have HM3 := Lib.hid m
    clear m HM2
    go_wp2_with fail
    go_ret
    exact RetTrue.mk rfl (HM3.out.toBlAt 1 rfl rfl rfl rfl)
  · have HM1 := Lib.hid m.noPool
    clear m HM0
    go_wp2_with fail
    refine (ref_New room HM1.out rfl).mono ?_
    rintro en w2 (⟨h2, rfl, m⟩ | ⟨h2, g, rfl, m⟩)
    · exact absurd h2 h1
    obtain ⟨r, rfl⟩ : ∃ r : Nat, room = (r : Int) := ⟨room.toNat, by omega⟩
    rw [Int.toNat_natCast] at m
    have HM2 := Lib.hid m
    clear m HM1 h1 h2
    go_wp2_with fail
    refine (great_calls A l c w2 hl (HR.out.bl (HM2.out.toBlAt 3 rfl rfl rfl rfl)) (fun o h => (HO.out o h).bl (HM2.out.toBlAt 3 rfl rfl rfl rfl))).mono ?_
    rintro en w3 ⟨gr, rfl, rfl, hg⟩
    cases gr with
    | true =>
      clear hg
      go_wp2_with fail
      refine (works_calls HM2.out).mono ?_
      rintro en w3 ⟨rfl, m⟩
      have HM3 := Lib.hid m
      clear m HM2
      go_wp2_with fail
      go_ret
      exact RetTrue.mk rfl (HM3.out.toBlAt 3 rfl rfl rfl rfl)
    | false =>
      have hg2 := hg rfl
      clear hg
      go_wp2_with fail
      go_loopw [11] (fun v11 wr => ∃ (i : Nat) (S : Fs) (G : Facts), v11 = .int .i64 i ∧ i ≤ l.length ∧ S.acts ≤ i ∧ Hid (Mem W (rfC g S G :: pool G :: fsC f S :: [old W]) wr)) (fun v11 _ => l.length - (intOf v11).toNat)
      case atStart => exact ⟨0, newFs r, _, rfl, Nat.zero_le _, Nat.le_refl _, HM2⟩
      case round =>
        obtain ⟨i, S, G, rfl, hi, ha, HS⟩ := hrel
        clear HM2
        by_cases hlt : i < l.length
        case pos =>
          obtain ⟨o, hx⟩ : ∃ o, l[i]? = some o := ⟨_, List.getElem?_eq_getElem hlt⟩
          have HOK := Lib.hid (HO.out o (List.mem_of_getElem? hx))
          have hOV := HS.out.toBlAt 3 rfl rfl rfl rfl
          obtain ⟨b, off, rfl, hcell⟩ := Rd.rec (f := opv) (k := 5) (fun _ => rfl) HR.out hx (by omega)
          have HCELL := Lib.hid (fun (v : World) (h : Bl W v) => show v.cell? ⟨b, off + i * 5, none⟩ = some (.int .u8 (o.call : Int)) ∧ v.cell? ⟨b, off + i * 5 + 1, none⟩ = some (sE o.name) ∧ v.cell? ⟨b, off + i * 5 + 2, none⟩ = some (sE o.to_) ∧ v.cell? ⟨b, off + i * 5 + 3, none⟩ = some (.int .i64 o.off) ∧ v.cell? ⟨b, off + i * 5 + 4, none⟩ = some (.slice o.A o.b.length o.c) from
            ⟨h.cellAt (hcell 0 _ rfl), h.cellAt (hcell 1 _ rfl), h.cellAt (hcell 2 _ rfl), h.cellAt (hcell 3 _ rfl), h.cellAt (hcell 4 _ rfl)⟩)
          have hlt2 : (i : Int) < (l.length : Int) := by omega
          obtain ⟨k0, k1, k2, k3, k4⟩ := HCELL.out wr hOV
          have hac := do_acts S o
          have HDO := Lib.hid (do_calls o (HS.out.bring 2) HOK.out.name HOK.out.to_ HOK.out.off.2 (by have := HOK.out.len; omega) (fun u m => HOK.out.rd.bl (m.toBlAt 3 rfl rfl rfl rfl)) (by omega))
          have HDID := Lib.hid (fun (v : World) (ds : List Chunk) (m : Mem W (rfC g S G :: pool G :: ds) v) (hd : ∀ u, Mem W ds u → Rd u o.A (o.b.map bv)) => did_calls o m HOK.out.name HOK.out.to_ HOK.out.off.2 (by have := HOK.out.len; omega) (by have := HOK.out.len; omega) hd (by omega))
          generalize fsDo S o = r' at HDO HDID hac
          obtain ⟨S', e'⟩ := r'
          simp only [opV] at HDO HDID hac
          clear hcell hx hOV
          go_wp2_with fail
          refine HDO.out.mono ?_
          rintro en w3 ⟨rfl, m⟩
          have HM3 := Lib.hid (m.away 2)
          clear m HDO k0 k1 k2 k3 k4
          obtain ⟨k0, k1, k2, k3, k4⟩ := HCELL.out w3 (HM3.out.toBlAt 3 rfl rfl rfl rfl)
          go_wp2_with fail
          refine (HDID.out _ _ HM3.out (fun u m => HOK.out.rd.bl (m.toBlAt 1 rfl rfl rfl rfl))).mono ?_
          rintro en w4 ⟨rfl, G4, hG4, m⟩
          have HM4 := Lib.hid m
          clear m HDID HM3 k0 k1 k2 k3 k4
          go_wp2_with fail
          go_roundw
          case rel => exact ⟨i + 1, S', G4, rfl, hlt, by have h : S'.acts ≤ S.acts + 1 := hac; omega, HM4⟩
          case measure => simp [intOf]; omega
        case neg =>
          have hlt2 : ¬ ((i : Int) < (l.length : Int)) := by omega
          have HAC := Lib.hid (show S.acts < 1000000000 by omega)
          clear ha
          go_wp2_with fail
          refine (copyInts_calls A2 c2 cu HS.out (by have := HI.out.2.2.2; omega) (HI.out.1.bl (HS.out.toBlAt 3 rfl rfl rfl rfl))).mono ?_
          rintro en w5 ⟨A5, c5, rfl, hc5, m⟩
          have HM5 := Lib.hid m
          clear m HS
          go_wp2_with fail
          refine (fs_Fail (l := cu) (c := c5) (A := A5) (HM5.out.bring 3) (fun v m => (m.app 1 rfl).rd.1) hc5 HI.out.2.2.1 HAC.out).mono ?_
          rintro en w6 ⟨x, rfl, m⟩
          have HM6 := Lib.hid ((m.bring 4).bring 4)
          clear m HM5
          go_wp2_with fail
          refine (ref_Fail (l := cu) (c := c2) (A := A2) HM6.out (fun v m => HI.out.1.bl (m.toBlAt 3 rfl rfl rfl rfl)) HI.out.2.1 (by have := HI.out.2.2.2; omega) HI.out.2.2.1 HAC.out).mono ?_
          rintro en w7 ⟨y, rfl, G7, hG7, m⟩
          obtain ⟨F, hF⟩ : ∃ F, F = fsFail S cu := ⟨_, rfl⟩
          have HFA := Lib.hid (show F.acts < 1000000000 by rw [hF]; show 0 < 1000000000; omega)
          rw [← hF] at m
          have HM7 := Lib.hid (show Mem W (rfC y F G7 :: rfC g S G7 :: pool G7 :: fsC x F :: fsC f S :: row 3 1 (.slice A5 cu.length c5) cu.length (cu.map iE) :: [old W]) w7 from m)
          clear m HM6 hF
          go_upto_region 14 with (fail)
          have M8 := (HM7.out.alloc (.cells #[.int .u8 0, sE wkA, .string .empty, .int .i64 0, .slice none 0 0] 53)).away 6
          have HM8 := Lib.hid (((M8.bring 3).bring 3).bring 2)
          clear HM7 M8
          change Code.wp _ _ _ _ (w7.alloc (.cells #[.int .u8 0, sE wkA, .string .empty, .int .i64 0, .slice none 0 0] 53))
          generalize w7.alloc (.cells #[.int .u8 0, sE wkA, .string .empty, .int .i64 0, .slice none 0 0] 53) = w8 at HM8 ⊢
          generalize w7.heap.size = t at HM8 ⊢
          go_wp2_with fail
          refine (ints_calls A5 A2 c5 c2 cu cu w8 (by omega) (HM8.out.app 5 rfl).rd.1 (HI.out.1.bl (HM8.out.toBlAt 7 rfl rfl rfl rfl))).mono ?_
          rintro en v9 ⟨rfl, k, rfl⟩
          have HM9 := Lib.hid (HM8.out.drewN k)
          clear HM8
          generalize w8.drewN k = w9 at HM9 ⊢
          simp only [decide_true]
          have HAL := Lib.hid (alike_calls opLast HM9.out HFA.out)
          simp only [opV, opLast] at HAL
          have ld : ∀ v, Mem W (rfC y F G7 :: pool G7 :: fsC x F :: rfC g S G7 :: fsC f S :: row 3 1 (.slice A5 cu.length c5) cu.length (cu.map iE) :: blk t 53 #[.int .u8 0, sE wkA, .string .empty, .int .i64 0, .slice none 0 0] :: [old W]) v → v.cell? ⟨t, 0, none⟩ = some (.int .u8 0) ∧ v.cell? ⟨t, 1, none⟩ = some (sE wkA) ∧ v.cell? ⟨t, 2, none⟩ = some (.string .empty) ∧ v.cell? ⟨t, 3, none⟩ = some (.int .i64 0) ∧ v.cell? ⟨t, 4, none⟩ = some (.slice none 0 0) := fun v m => ⟨(m.ob 6 rfl).cell 0 rfl, (m.ob 6 rfl).cell 1 rfl, (m.ob 6 rfl).cell 2 rfl, (m.ob 6 rfl).cell 3 rfl, (m.ob 6 rfl).cell 4 rfl⟩
          have LD := Lib.hid ld
          obtain ⟨k0, k1, k2, k3, k4⟩ := ld _ HM9.out
          clear ld
          go_wp2_with fail
          refine HAL.out.mono ?_
          rintro en w10 ⟨rfl, m⟩
          obtain ⟨k0, k1, k2, k3, k4⟩ := LD.out _ m
          have HM10 := Lib.hid (((m.bring 4).bring 2).bring 4)
          clear m HM9 HAL
          have HAL := Lib.hid (alike_calls opLast HM10.out HAC.out)
          simp only [opV, opLast] at HAL
          go_wp2_with fail
          refine HAL.out.mono ?_
          rintro en w11 ⟨rfl, m⟩
          have HM11 := Lib.hid m
          clear m HM10 HAL
          go_wp2_with fail
          refine (works_calls HM11.out).mono ?_
          rintro en w12 ⟨rfl, m⟩
          have HM12 := Lib.hid m
          clear m HM11
          go_wp2_with fail
          go_ret
          exact RetTrue.mk rfl (HM12.out.toBlAt 7 rfl rfl rfl rfl)
end Go.Proofs.Ythphonkiolmkiaa
/- Layer 14 walked: Copy of a disk whose files have no rows; its plain part. -/
set_option linter.unusedVariables false
set_option linter.unusedSimpArgs false
namespace Go.Proofs.Ythphonkiolmkiaa
open Go.RowKit
set_option maxRecDepth 100000
set_option maxHeartbeats 8000000

theorem copyF_step {L O left : List (Nat × Nat)} {j n b0 : Nat} (hL : KeysNd L) (h : (O.map (·.1) ++ left.map (·.1)).Perm (L.map (·.1))) (hj : left[j]? = some (n, b0)) (b1 : Nat) :
    mPut O n b1 = O ++ [(n, b1)] ∧ ((O ++ [(n, b1)]).map (·.1) ++ (left.eraseIdx j).map (·.1)).Perm (L.map (·.1)) := by
  have hnd : (L.map (·.1)).Nodup := by unfold KeysNd at hL; exact List.pairwise_map.2 hL
  have h2 : (O.map (·.1) ++ left.map (·.1)).Nodup := (h.nodup_iff).2 hnd
  constructor
  · refine mPut_new (fun p hp e => ?_)
    have h3 := (List.nodup_append.1 h2).2.2 p.1 (List.mem_map.2 ⟨p, hp, rfl⟩) n (List.mem_map.2 ⟨(n, b0), List.mem_of_getElem? hj, rfl⟩)
    exact h3 e
  · refine List.Perm.trans ?_ h
    rw [List.map_append, List.append_assoc]
    refine List.Perm.append_left _ ?_
    have h4 := (perm_erase hj).map (·.1)
    simpa using h4.symm
def copyBs (O : List (Nat × Nat)) (N : Nat) : List Nat := (List.range N).map (fun i => (mGet O (i + 1)).getD 0)
theorem copy_end {O : List (Nat × Nat)} {N : Nat} {fl : List Fl} (hN : fl.length = N) (hnd : KeysNd O) (hk : ∀ n, n ∈ O.map (·.1) ↔ 1 ≤ n ∧ n ≤ N) :
    (∀ n b, (n, b) ∈ O ↔ 1 ≤ n ∧ (copyBs O N)[n - 1]? = some b) ∧ (O.map (fun e => fileC e.2 (flAt fl e.1))).Perm (filesL (copyBs O N) fl) := by
  have hat : ∀ i, i < N → (copyBs O N)[i]? = some ((mGet O (i + 1)).getD 0) := fun i hi => by
    unfold copyBs
    rw [List.getElem?_map, List.getElem?_range hi]; rfl
  have hget : ∀ n, 1 ≤ n → n ≤ N → ∃ b, (n, b) ∈ O ∧ mGet O n = some b := fun n h1 h2 => by
    obtain ⟨⟨n', b⟩, hm, e⟩ := List.mem_map.1 ((hk n).2 ⟨h1, h2⟩)
    simp only at e
    subst e
    exact ⟨b, hm, (mGet_some hnd).2 hm⟩
  constructor
  · intro n b
    constructor
    · intro h
      have h1 := (hk n).1 (List.mem_map.2 ⟨(n, b), h, rfl⟩)
      refine ⟨h1.1, ?_⟩
      rw [hat (n - 1) (by omega), Nat.sub_add_cancel h1.1, (mGet_some hnd).2 h]; rfl
    · rintro ⟨h1, h2⟩
      have h3 : n - 1 < N := by
        have := (List.getElem?_eq_some_iff.1 h2).1
        unfold copyBs at this
        simpa using this
      rw [hat (n - 1) h3, Nat.sub_add_cancel h1] at h2
      obtain ⟨b', hm, e⟩ := hget n h1 (by omega)
      rw [e] at h2
      cases h2
      exact hm
  · have hp : O.Perm ((List.range N).map (fun i => (i + 1, (mGet O (i + 1)).getD 0))) := by
      refine (List.perm_ext_iff_of_nodup hnd.nodup ?_).2 (fun e => ?_)
      · refine List.pairwise_map.2 (List.Pairwise.imp (fun {a b} hne h => hne ?_) List.nodup_range)
        simp only [Prod.mk.injEq] at h
        omega
      · obtain ⟨n, b⟩ := e
        constructor
        · intro h
          have h1 := (hk n).1 (List.mem_map.2 ⟨(n, b), h, rfl⟩)
          refine List.mem_map.2 ⟨n - 1, List.mem_range.2 (by omega), ?_⟩
          rw [Nat.sub_add_cancel h1.1, (mGet_some hnd).2 h]; rfl
        · intro h
          obtain ⟨i, hi, e⟩ := List.mem_map.1 h
          obtain ⟨b', hm, e2⟩ := hget (i + 1) (by omega) (by have := List.mem_range.1 hi; omega)
          rw [e2] at e
          simp only [Option.getD_some, Prod.mk.injEq] at e
          rw [← e.1, ← e.2]
          exact hm
    refine (hp.map _).trans (List.Perm.of_eq ?_)
    unfold filesL
    refine List.ext_getElem? (fun i => ?_)
    rw [List.map_map, List.getElem?_map, List.getElem?_map]
    by_cases hi : i < N
    · rw [List.getElem?_range hi, List.getElem?_zip_eq_some (z := ((mGet O (i + 1)).getD 0, fl[i]'(by omega))) |>.2 ⟨hat i hi, List.getElem?_eq_getElem (by omega)⟩]
      have e : flAt fl (i + 1) = fl[i]'(by omega) := by unfold flAt; rw [Nat.add_sub_cancel, List.getElem?_eq_getElem (by omega)]; rfl
      simp only [Option.map_some, Function.comp]
      rw [e]
    · rw [List.getElem?_eq_none (by simp; omega), List.getElem?_eq_none (by simp [copyBs]; omega)]
      rfl
end Go.Proofs.Ythphonkiolmkiaa
/- Layer 14, the reference walked: Copy. -/
set_option linter.unusedVariables false
set_option linter.unusedSimpArgs false
namespace Go.Proofs.Ythphonkiolmkiaa
open Go.RowKit
set_option maxRecDepth 100000
set_option maxHeartbeats 8000000

/-- Where the reference's Copy stands behind the first j files. -/
def CopyI (w0 : World) (cs : List Chunk) (p g : Nat) (R : RfR) (S : Fs) (G : Facts) (j : Nat) (w : World) : Prop :=
  ∃ (fs : List RfF) (Vf V2 : Value), fs.map (·.x) = (R.fs.take j).map (·.x) ∧ (∀ q ∈ fs, RfFOk G q) ∧
    Mem w0 (rfL p R S ++ pool G :: blk g 105 #[nE S.room, Vf, .slice R.sa S.sure.length R.sc, V2, .slice R.na S.seen.length R.nc, nE S.acts, nE S.fuse, .bool S.dead] :: row 113 2 Vf j (fs.flatMap rfV) :: row 102 1 V2 S.row.length (R.ds.flatMap dsV) :: tog (fs.map rfRow) :: cs) w
theorem chv_one (l : List (Chg × Option Addr × Nat)) : ∀ u ∈ l.flatMap chv, u.oneCell' = true := by
  intro u hu
  obtain ⟨e, _, he⟩ := List.mem_flatMap.1 hu
  simp [chv] at he
  rcases he with rfl | rfl | rfl <;> rfl
theorem dsV_one (l : List (Dir × Option Addr × Nat)) : ∀ u ∈ l.flatMap dsV, u.oneCell' = true := by
  intro u hu
  obtain ⟨e, _, he⟩ := List.mem_flatMap.1 hu
  simp [dsV] at he
  subst he
  rfl
section
variable {w0 w : World} {cs : List Chunk} {p : Nat} {S : Fs} {G : Facts}
theorem ref_Copy (h : Mem w0 (rfC p S G :: pool G :: cs) w) (ha : S.acts < 1000000000) :
    Calls Try.prog 46 #[pE p] w (fun en w' => ∃ q, en = .returned (pE q) ∧ Mem w0 (rfC q S G :: rfC p S G :: pool G :: cs) w') := by
  obtain ⟨R, hf, ho, M⟩ := h.rf
  have HF := Lib.hid (And.intro hf (And.intro ho ha))
  have HM := Lib.hid M
  have c0 : w.cell? ⟨p, 0, none⟩ = some (nE S.room) := (M.ob 0 rfl).cell 0 rfl
  have c2 : w.cell? ⟨p, 2, none⟩ = some (.slice R.sa S.sure.length R.sc) := (M.ob 0 rfl).cell 2 rfl
  have c4 : w.cell? ⟨p, 4, none⟩ = some (.slice R.na S.seen.length R.nc) := (M.ob 0 rfl).cell 4 rfl
  have c5 : w.cell? ⟨p, 5, none⟩ = some (nE S.acts) := (M.ob 0 rfl).cell 5 rfl
  have c6 : w.cell? ⟨p, 6, none⟩ = some (nE S.fuse) := (M.ob 0 rfl).cell 6 rfl
  have c7 : w.cell? ⟨p, 7, none⟩ = some (.bool S.dead) := (M.ob 0 rfl).cell 7 rfl
  have hrl : S.row.length ≤ 1000000000 := by have := ho.rowl; omega
  have hfl : S.fl.length ≤ 1000000064 := by have := ho.flen; omega
  have hdl : R.ds.length = S.row.length := by rw [← List.length_map (f := (·.1)), hf.dirs, dirsOf_len]
  have HDL := Lib.hid (show (R.ds.flatMap dsV).length = S.row.length * 1 by
    rw [← hdl, Nat.mul_one]
    induction R.ds with
    | nil => rfl
    | cons a l ih => rw [List.flatMap_cons, List.length_append, ih, List.length_cons]; simp [dsV]; omega)
  clear h hf ho ha M hdl
  go_enter Try.func46, Try.ntmps46
  go_upto_region 1 with (fail)
  go_still_tail 25, (by kernel_rfl)
  change wpList _ _ _ _ _ w.drew
  have HM1 := Lib.hid (((HM.out.alloc (.cells #[nE S.room, .slice none 0 0, .slice R.sa S.sure.length R.sc, .slice none 0 0, .slice R.na S.seen.length R.nc, nE S.acts, nE S.fuse, .bool S.dead] 105)).drew.away 5).nilRow 102 1)
  clear c0 c2 c4 c5 c6 c7 HM
  go_upto_region 2 with (fail)
  generalize (w.alloc (.cells #[nE S.room, .slice none 0 0, .slice R.sa S.sure.length R.sc, .slice none 0 0, .slice R.na S.seen.length R.nc, nE S.acts, nE S.fuse, .bool S.dead] 105)).drew = v at HM1 ⊢
  generalize w.heap.size = g at HM1 ⊢
  have MD := Lib.hid HM1.out.drew
  obtain ⟨Av, cv, hv, hcv⟩ := (HM1.out.app 3 rfl).slice
  have g3 : v.cell? ⟨g, 3, none⟩ = some (.slice none 0 0) := (HM1.out.ob 6 rfl).cell 3 rfl
  have p3 : v.cell? ⟨p, 3, none⟩ = some (.slice Av S.row.length cv) := by rw [← hv]; exact (HM1.out.ob 1 rfl).cell 3 rfl
  have RN := Lib.hid (show Rd v.drew Av (R.ds.flatMap dsV) by have h := MD.out.app 3 rfl; rw [hv] at h; exact h.rd.1)
  have HAPP := Lib.hid (MD.out.app 0 rfl)
  clear hv hcv
  go_cut [] (fun wx => Hid (CopyI w0 cs p g R S G 0 wx))
  case first =>
    go_region_law (refine step_row rfl _ _ 103 102 (.slice none 0 0) 1 24 (by rfl) Try.underlying103 (by kernel_rfl) rfl (by decide) 0 HAPP.out (by rfl) (by rfl) RN.out HDL.out (dsV_one _) (by omega) (by omega) (Nat.zero_le _) ?_; intro v9 w9 hown9 hgr9 hat9; rw [Nat.zero_add, List.nil_append] at hown9; obtain ⟨A9, c9, rfl, hcc9⟩ := hown9.slice; have M9 := MD.out.grow 0 rfl hown9 hgr9 hat9; have n3 : w9.cell? ⟨g, 3, none⟩ = some (.slice none 0 0) := (M9.ob 6 rfl).cell 3 rfl; have nf3 : w9.frozen? ⟨g, 3, none⟩ = false := (M9.ob 6 rfl).free 3; have M10 := M9.put 6 rfl 3 (.slice A9 S.row.length c9))
    all_goals
      go_wp2_with fail
      go_meet
      case rel =>
        have M11 := (((M10.away 6).nilRow 113 2).away 6)
        exact Lib.hid ⟨[], .slice none 0 0, .slice A9 S.row.length c9, rfl, (fun q hq => by cases hq), (Mem.close (l := []) M11).away 8⟩
  case rest =>
    have HI0 := hcut
    clear HM1 MD HAPP RN g3 p3
    go_wp2_with fail
    go_loopw [4] (fun v4 wr => ∃ j : Nat, v4 = .int .i64 j ∧ j ≤ S.fl.length ∧ Hid (CopyI w0 cs p g R S G j wr)) (fun v4 _ => S.fl.length - (intOf v4).toNat)
    case atStart => exact ⟨0, rfl, Nat.zero_le _, HI0⟩
    case round =>
      obtain ⟨j, rfl, hj, HI⟩ := hrel
      clear HI0
      obtain ⟨fs, Vf, V2, hfs, hqs, M⟩ := HI.out
      have HX := Lib.hid (And.intro hfs hqs)
      have HM := Lib.hid M
      clear hfs hqs HI
      by_cases hlt : j < S.fl.length
      case neg =>
        obtain rfl : j = S.fl.length := by omega
        have i1 : ¬ ((S.fl.length : Int) < (S.fl.length : Int)) := by omega
        have p1 : wr.cell? ⟨p, 1, none⟩ = some (.slice R.fa S.fl.length R.fc) := (M.ob 0 rfl).cell 1 rfl
        clear M hlt hj
        go_wp2_with fail
        go_ret
        obtain ⟨hfs, hqs⟩ := HX.out
        obtain ⟨hf, ho, _⟩ := HF.out
        obtain ⟨Af, cf, hVf, hcf⟩ := (HM.out.app 6 rfl).slice
        subst hVf
        have hlen : R.fs.length = S.fl.length := by rw [← hf.files, List.length_map]
        rw [← hlen, List.take_length, hf.files] at hfs
        have M1 := HM.out.bring 8 |>.bring 8 |>.bring 8 |>.bring 8
        have hfit : RfFit ⟨Af, cf, R.sa, R.sc, R.na, R.nc, V2, fs, R.ds⟩ S G := ⟨hf.sure, hf.sc, hf.seen, hf.nc, hfs, hqs, hf.dirs, hf.ds⟩
        have M2 := (Mem.unrf (p := g) (R := ⟨Af, cf, R.sa, R.sc, R.na, R.nc, V2, fs, R.ds⟩) (S := S) (G := G) (cs := rfL p R S ++ pool G :: cs) M1 hfit ho).away 4
        exact ⟨g, rfl, (Mem.unrf (R := R) (S := S) (G := G) M2 hf ho).bring 1⟩
      case pos =>
        have hlt2 : (j : Int) < (S.fl.length : Int) := by omega
        obtain ⟨x, hx⟩ : ∃ x, S.fl[j]? = some x := ⟨_, List.getElem?_eq_getElem hlt⟩
        obtain ⟨q, hqq, hqx⟩ := HF.out.1.at hx
        obtain ⟨b, o, hfa, hc0, hc1⟩ := rf_cells M hqq
        have hqo := HF.out.1.fs _ (List.mem_of_getElem? hqq)
        have hxr : q.x.row.length ≤ 1000000000 := by have := HF.out.2.1.frow x (List.mem_of_getElem? hx); have := HF.out.2.2; rw [hqx]; omega
        have p1 : wr.cell? ⟨p, 1, none⟩ = some (.slice (some ⟨b, o, none⟩) S.fl.length R.fc) := by rw [← hfa]; exact (M.ob 0 rfl).cell 1 rfl
        have hqm : (R.fs.map rfRow)[j]? = some (rfRow q) := by rw [List.getElem?_map, hqq]; rfl
        obtain ⟨ds, m1⟩ := M.inTog 3 rfl (j := _) hqm
        obtain ⟨Av2, cv2, hqv, hcv2⟩ := (m1.app 0 rfl).slice
        have ha2 := m1.app 0 rfl
        rw [hqv] at ha2 hc1
        have RN := Lib.hid ha2.rd.1
        have HN := Lib.hid (And.intro hqq (And.intro hqo (And.intro hfa hqv)))
        have HLN := Lib.hid (show (q.chs.flatMap chv).length = q.x.row.length * 3 by rw [← hqo.row, List.length_map]; induction q.chs with | nil => rfl | cons a l ih => rw [List.flatMap_cons, List.length_append, ih, List.length_cons]; simp [chv]; omega)
        have HMN := Lib.hid (HM.out.nilRow 118 3)
        clear M m1 ha2 hqm hcv2 hqo hqx hx hfa hqq hqv
        go_upto_region 8 with (at_builtin; go_must (refine append_row rfl _ _ 111 118 (.agg #[.bool false, .int .i64 0, .slice none 0 0]) 3 40 rfl Try.underlying111 Try.infoAct rfl (by decide) 0 (HMN.out.app 0 rfl) (by rfl) (by rfl) RN.out HLN.out (chv_one _) (by omega) (by omega) (Nat.zero_le _) ?_); intro v7 w7 hown7 hgr7 hat7; rw [Nat.zero_add, List.nil_append] at hown7; obtain ⟨A7, c7, rfl, hcc7⟩ := hown7.slice; have M7 := HMN.out.grow 0 rfl hown7 hgr7 hat7)
        have HM7 := Lib.hid M7
        clear M7 HMN HM hown7 hgr7 hat7 p1 hc0 hc1 RN hcc7
        obtain ⟨Af, cf, hVf, hcf⟩ := (HM7.out.app 7 rfl).slice
        have HVF := Lib.hid hVf
        have ma := HM7.out.alloc (.cells #[.slice q.a q.x.sure.length q.c, (.slice A7 q.x.row.length c7)] 113)
        have MA := Lib.hid ma.drew
        have hfc : ∀ (cs' : List Chunk) (v : World), Mem w0 cs' v → (cs'[2]? = some (row 113 2 (.slice R.fa S.fl.length R.fc) S.fl.length (R.fs.flatMap rfV)) ∨ cs'[3]? = some (row 113 2 (.slice R.fa S.fl.length R.fc) S.fl.length (R.fs.flatMap rfV))) → v.cell? ⟨b, o + j * 2, none⟩ = some (.slice q.a q.x.sure.length q.c) := fun cs' v m' hor => by
          have hrd : Rd v R.fa (R.fs.flatMap rfV) := by
            rcases hor with h | h
            · exact (m'.app 2 h).rd.1
            · exact (m'.app 3 h).rd.1
          obtain ⟨b', o', e, hc⟩ := Rd.rec (f := rfV) (k := 2) (fun _ => rfl) hrd HN.out.1 (by omega)
          rw [HN.out.2.2.1] at e
          cases e
          exact hc 0 _ rfl
        have g1 : w7.cell? ⟨g, 1, none⟩ = some (.slice Af j cf) := by rw [← hVf]; exact (HM7.out.ob 6 rfl).cell 1 rfl
        have p1 : w7.cell? ⟨p, 1, none⟩ = some (.slice (some ⟨b, o, none⟩) S.fl.length R.fc) := by rw [← HN.out.2.2.1]; exact (HM7.out.ob 1 rfl).cell 1 rfl
        have q1 : w7.cell? ⟨b, o + j * 2, none⟩ = some (.slice q.a q.x.sure.length q.c) := hfc _ _ HM7.out (.inl rfl)
        have g2 : (w7.alloc (.cells #[.slice q.a q.x.sure.length q.c, (.slice A7 q.x.row.length c7)] 113)).cell? ⟨g, 1, none⟩ = some (.slice Af j cf) := by rw [← hVf]; exact (ma.ob 7 rfl).cell 1 rfl
        have p2 : (w7.alloc (.cells #[.slice q.a q.x.sure.length q.c, (.slice A7 q.x.row.length c7)] 113)).cell? ⟨p, 1, none⟩ = some (.slice (some ⟨b, o, none⟩) S.fl.length R.fc) := by rw [← HN.out.2.2.1]; exact (ma.ob 2 rfl).cell 1 rfl
        have q2 : (w7.alloc (.cells #[.slice q.a q.x.sure.length q.c, (.slice A7 q.x.row.length c7)] 113)).cell? ⟨b, o + j * 2, none⟩ = some (.slice q.a q.x.sure.length q.c) := hfc _ _ ma (.inr rfl)
        have happ := MA.out.app 8 rfl
        rw [hVf] at happ
        have HAPP := Lib.hid happ
        have RN := Lib.hid (show Rd (w7.alloc (.cells #[.slice q.a q.x.sure.length q.c, (.slice A7 q.x.row.length c7)] 113)).drew (some ⟨w7.heap.size, 0, none⟩) [.slice q.a q.x.sure.length q.c, (.slice A7 q.x.row.length c7)] from by
          have h := rd_of_block (heap_alloc_new w7 (.cells #[.slice q.a q.x.sure.length q.c, (.slice A7 q.x.row.length c7)] 113)) 0 2
          exact Rd.bl (by simpa using h) (Bl.refl _).drew)
        have HFIN := Lib.hid (show ∀ (A9 : Option Addr) (c9 : Nat) (v : World), Mem w0 (row 118 3 (.slice A7 q.x.row.length c7) q.x.row.length (q.chs.flatMap chv) :: (rfL p R S ++ pool G :: blk g 105 #[nE S.room, .slice A9 (j + 1) c9, .slice R.sa S.sure.length R.sc, V2, .slice R.na S.seen.length R.nc, nE S.acts, nE S.fuse, .bool S.dead] :: row 113 2 (.slice A9 (j + 1) c9) (j + 1) (fs.flatMap rfV ++ [.slice q.a q.x.sure.length q.c, (.slice A7 q.x.row.length c7)]) :: row 102 1 V2 S.row.length (R.ds.flatMap dsV) :: tog (fs.map rfRow) :: cs)) v → CopyI w0 cs p g R S G (j + 1) v from fun A9 c9 v m' => by
          obtain ⟨hfs, hqs⟩ := HX.out
          obtain ⟨hqq, hqo, hfa, hqv⟩ := HN.out
          obtain ⟨q', hq'⟩ : ∃ q' : RfF, q' = ⟨q.x, q.a, q.c, (.slice A7 q.x.row.length c7), q.chs⟩ := ⟨_, rfl⟩
          refine ⟨fs ++ [q'], .slice A9 (j + 1) c9, V2, ?_, ?_, ?_⟩
          · rw [List.take_add_one, hqq, List.map_append, List.map_append, hfs, hq']; rfl
          · intro y hy
            rcases List.mem_append.1 hy with hy | hy
            · exact hqs y hy
            · simp at hy
              subst hy
              rw [hq']
              exact ⟨hqo.sure, hqo.c, hqo.row, hqo.ch⟩
          · have e1 : (fs ++ [q']).flatMap rfV = fs.flatMap rfV ++ [.slice q.a q.x.sure.length q.c, (.slice A7 q.x.row.length c7)] := by rw [List.flatMap_append, hq']; rfl
            have e2 : row 118 3 (.slice A7 q.x.row.length c7) q.x.row.length (q.chs.flatMap chv) = rfRow q' := by rw [hq']; rfl
            rw [e2] at m'
            rw [e1, List.map_append]
            exact (((m'.bring 9).bring 1).togMore).away 8)
        clear happ hVf ma hfc hcf
        go_region_law (refine step_row rfl _ _ 101 113 (.agg #[.slice none 0 0, .slice none 0 0]) 2 48 (by rfl) Try.underlying101 Try.infoFile rfl (by decide) 0 HAPP.out (by rfl) (by rfl) RN.out (by simp) (by intro u hu; simp at hu; rcases hu with rfl | rfl <;> rfl) (by omega) (by omega) (Nat.zero_le _) ?_; intro v9 w9 hown9 hgr9 hat9; obtain ⟨A9, c9, rfl, hcc9⟩ := hown9.slice; rw [← HVF.out] at hgr9 hat9; have M9 := (MA.out.grow 8 rfl hown9 hgr9 hat9).drop; have n1 : w9.cell? ⟨g, 1, none⟩ = some Vf := (M9.ob 6 rfl).cell 1 rfl; have nf1 : w9.frozen? ⟨g, 1, none⟩ = false := (M9.ob 6 rfl).free 1; have M10 := M9.put 6 rfl 1 (.slice A9 (j + 1) c9); have p9 : w9.cell? ⟨p, 1, none⟩ = some (.slice (some ⟨b, o, none⟩) S.fl.length R.fc) := (by rw [← HN.out.2.2.1]; exact (M9.ob 1 rfl).cell 1 rfl))
        all_goals
          go_wp2_with fail
          go_roundw
          case rel => exact ⟨j + 1, rfl, by omega, Lib.hid (HFIN.out _ _ _ M10)⟩
          case measure => simp [intOf]; omega
end
end Go.Proofs.Ythphonkiolmkiaa
/- Layer 14 walked: Copy of a disk whose files have no rows. -/
set_option linter.unusedVariables false
set_option linter.unusedSimpArgs false
namespace Go.Proofs.Ythphonkiolmkiaa
open Go.RowKit
set_option maxRecDepth 100000
set_option maxHeartbeats 8000000

/-- Where Copy stands. -/
abbrev CopyC (cs : List Chunk) (p g m r : Nat) (R : FsR) (S : Fs) (left O : List (Nat × Nat)) : List Chunk :=
  rngC R.fm r (.int .i64) nE pE R.Lf left :: mapC m (.int .i64) nE pE O :: tog (O.map (fun e : Nat × Nat => fileC e.2 (flAt S.fl e.1))) :: blk g 76 (fsCells {R with fm := m} S.room S.used S.fl.length S.acts S.fuse S.dead) :: blk p 76 (fsCells R S.room S.used S.fl.length S.acts S.fuse S.dead) ::
    dirC R.sm R.Ls :: dirC R.nm R.Ln :: row 88 4 R.v S.row.length (S.row.flatMap mvv) :: tog (filesL R.bs S.fl) :: cs
theorem copy_perm {a b c d e f g h i j k l : Chunk} {cs : List Chunk} {w0 w : World} (M : Mem w0 (a :: b :: c :: d :: e :: f :: g :: h :: i :: j :: k :: l :: cs) w) : Mem w0 (i :: g :: d :: b :: a :: h :: j :: f :: e :: c :: k :: l :: cs) w := by
  have M0 : Mem w0 (l :: a :: b :: c :: d :: e :: f :: g :: h :: i :: j :: k :: cs) w := M.bring 11
  have M1 : Mem w0 (k :: l :: a :: b :: c :: d :: e :: f :: g :: h :: i :: j :: cs) w := M0.bring 11
  have M2 : Mem w0 (c :: k :: l :: a :: b :: d :: e :: f :: g :: h :: i :: j :: cs) w := M1.bring 4
  have M3 : Mem w0 (e :: c :: k :: l :: a :: b :: d :: f :: g :: h :: i :: j :: cs) w := M2.bring 6
  have M4 : Mem w0 (f :: e :: c :: k :: l :: a :: b :: d :: g :: h :: i :: j :: cs) w := M3.bring 7
  have M5 : Mem w0 (j :: f :: e :: c :: k :: l :: a :: b :: d :: g :: h :: i :: cs) w := M4.bring 11
  have M6 : Mem w0 (h :: j :: f :: e :: c :: k :: l :: a :: b :: d :: g :: i :: cs) w := M5.bring 10
  have M7 : Mem w0 (a :: h :: j :: f :: e :: c :: k :: l :: b :: d :: g :: i :: cs) w := M6.bring 7
  have M8 : Mem w0 (b :: a :: h :: j :: f :: e :: c :: k :: l :: d :: g :: i :: cs) w := M7.bring 8
  have M9 : Mem w0 (d :: b :: a :: h :: j :: f :: e :: c :: k :: l :: g :: i :: cs) w := M8.bring 9
  have M10 : Mem w0 (g :: d :: b :: a :: h :: j :: f :: e :: c :: k :: l :: i :: cs) w := M9.bring 10
  have M11 : Mem w0 (i :: g :: d :: b :: a :: h :: j :: f :: e :: c :: k :: l :: cs) w := M10.bring 11
  exact M11
theorem mvv_ones (l : List Mv) : ∀ u ∈ l.flatMap mvv, u.oneCell' = true := by
  intro u hu
  obtain ⟨e, _, he⟩ := List.mem_flatMap.1 hu
  simp [mvv] at he
  rcases he with rfl | rfl | rfl | rfl <;> rfl
theorem fs_Copy {p : Nat} {S : Fs} {w0 w : World} {cs : List Chunk} (h : Mem w0 (fsC p S :: cs) w) (hrow : ∀ x ∈ S.fl, x.row = []) (ha : S.acts < 1000000000) :
    Calls Try.prog 45 #[pE p] w (fun en w' => ∃ q, en = .returned (pE q) ∧ Mem w0 (fsC q S :: fsC p S :: cs) w') := by
  obtain ⟨R, hf, ho, M⟩ := h.fs
  have HF := Lib.hid (And.intro hf (And.intro ho (And.intro hrow ha)))
  have c0 : w.cell? ⟨p, 0, none⟩ = some (.bool true) := (M.ob 0 rfl).cell 0 rfl
  have c1 : w.cell? ⟨p, 1, none⟩ = some (nE S.room) := (M.ob 0 rfl).cell 1 rfl
  have c2 : w.cell? ⟨p, 2, none⟩ = some (nE S.used) := (M.ob 0 rfl).cell 2 rfl
  have c3 : w.cell? ⟨p, 3, none⟩ = some (.map (some R.fm)) := (M.ob 0 rfl).cell 3 rfl
  have c4 : w.cell? ⟨p, 4, none⟩ = some (nE S.fl.length) := (M.ob 0 rfl).cell 4 rfl
  have c5 : w.cell? ⟨p, 5, none⟩ = some (.map (some R.sm)) := (M.ob 0 rfl).cell 5 rfl
  have c6 : w.cell? ⟨p, 6, none⟩ = some (.map (some R.nm)) := (M.ob 0 rfl).cell 6 rfl
  have c7 : w.cell? ⟨p, 7, none⟩ = some R.v := (M.ob 0 rfl).cell 7 rfl
  have c8 : w.cell? ⟨p, 8, none⟩ = some (nE S.acts) := (M.ob 0 rfl).cell 8 rfl
  have c9 : w.cell? ⟨p, 9, none⟩ = some (nE S.fuse) := (M.ob 0 rfl).cell 9 rfl
  have c10 : w.cell? ⟨p, 10, none⟩ = some (.bool S.dead) := (M.ob 0 rfl).cell 10 rfl
  obtain ⟨Av, cv, hv, hcv⟩ := (M.app 4 rfl).slice
  have HV := Lib.hid (And.intro hv hcv)
  rw [hv] at c7
  have HM1 := Lib.hid (M.alloc (.cells #[.bool true, nE S.room, nE S.used, .map (some R.fm), nE S.fl.length, .map (some R.sm), .map (some R.nm), .slice Av S.row.length cv, nE S.acts, nE S.fuse, .bool S.dead] 76))
  clear h hf ho hrow ha M hv hcv
  go_enter Try.func45, Try.ntmps45
  go_upto_region 4 with (fail)
  clear c0 c1 c2 c3 c4 c5 c6 c7 c8 c9 c10
  generalize w.alloc (.cells #[.bool true, nE S.room, nE S.used, .map (some R.fm), nE S.fl.length, .map (some R.sm), .map (some R.nm), .slice Av S.row.length cv, nE S.acts, nE S.fuse, .bool S.dead] 76) = v at HM1 ⊢
  generalize w.heap.size = g at HM1 ⊢
  have c3 : v.cell? ⟨p, 3, none⟩ = some (.map (some R.fm)) := (HM1.out.ob 1 rfl).cell 3 rfl
  have l0 := (HM1.out.map' 2 rfl).len map_files_u 3
  have l1 := run_makeMap_hint (P := Try.prog) map_files_u R.Lf.length v
  have M2 := HM1.out.mapNew (.int .i64) nE pE
  have g3 : (v.alloc (.map #[] 0)).cell? ⟨g, 3, none⟩ = some (.map (some R.fm)) := (M2.ob 1 rfl).cell 3 rfl
  have f3 : (v.alloc (.map #[] 0)).frozen? ⟨g, 3, none⟩ = false := (M2.ob 1 rfl).free 3
  have M3 := M2.put 1 rfl 3 (.map (some v.heap.size))
  go_upto_region 5 with (fail)
  rw [← HV.out.1] at M3
  have M4 := (((Mem.close (l := []) M3).bring 1).bring 4)
  have HM4 := Lib.hid M4
  clear M2 M3 M4 g3 f3 l0 l1 c3 HM1
  generalize (v.alloc (.map #[] 0)).setCell ⟨g, 3, none⟩ (.map (some v.heap.size)) = v5 at HM4 ⊢
  generalize v.heap.size = m at HM4 ⊢
  have c3 : v5.cell? ⟨p, 3, none⟩ = some (.map (some R.fm)) := (HM4.out.ob 4 rfl).cell 3 rfl
  obtain ⟨ob, hrg, M5⟩ := HM4.out.rngStart map_files_u
  have HM5 := Lib.hid (show Mem w0 (CopyC cs p g m v5.heap.size R S R.Lf []) (v5.alloc ob) from M5)
  clear M5
  go_wp2_with fail
  generalize v5.alloc ob = v6 at HM5 ⊢
  generalize v5.heap.size = r at HM5 ⊢
  clear hrg HM4 c3
  go_loopw [4, 5, 6] (fun _ _ _ wr => ∃ (left O : List (Nat × Nat)), (O.map (·.1) ++ left.map (·.1)).Perm (R.Lf.map (·.1)) ∧ (∀ e ∈ left, e ∈ R.Lf) ∧ Hid (Mem w0 (CopyC cs p g m r R S left O) wr)) (fun _ _ _ wr => rngLeft wr R.fm r)
  case atStart => exact ⟨R.Lf, [], List.Perm.refl _, fun _ h => h, HM5⟩
  case round =>
    obtain ⟨left, O, hp, hsub, HS⟩ := hrel
    have hlen := HS.out.rngLeft 0 rfl
    rcases HS.out.rngNext (P := Try.prog) 0 with ⟨hnil, hr⟩ | ⟨j, ⟨n, b0⟩, v3, hj, hr1, hr2, M3, hsz⟩
    · subst hnil
      have HP := Lib.hid hp
      have HE := Lib.hid HS.out.rngEnd
      clear hp HS hlen HM5
      have HED := Lib.hid HE.out.drew
      have p5 : wr.cell? ⟨p, 5, none⟩ = some (.map (some R.sm)) := (HE.out.ob 4 rfl).cell 5 rfl
      have p6 : wr.cell? ⟨p, 6, none⟩ = some (.map (some R.nm)) := (HE.out.ob 4 rfl).cell 6 rfl
      have HT1 := Lib.hid (dir_twin (show Mem w0 (dirC R.sm R.Ls :: mapC R.fm (.int .i64) nE pE R.Lf :: mapC m (.int .i64) nE pE O :: tog (O.map (fun e : Nat × Nat => fileC e.2 (flAt S.fl e.1))) :: blk g 76 (fsCells {R with fm := m} S.room S.used S.fl.length S.acts S.fuse S.dead) :: blk p 76 (fsCells R S.room S.used S.fl.length S.acts S.fuse S.dead) :: dirC R.nm R.Ln :: row 88 4 R.v S.row.length (S.row.flatMap mvv) :: tog (filesL R.bs S.fl) :: cs) wr.drew from HED.out.bring 5) (HF.out.2.1.sure.ok.nd.perm HF.out.1.sure.symm))
      have HT2 := Lib.hid (fun (v : World) (bs : Nat) (Ls : Dir) (m' : Mem w0 (dirC bs Ls :: dirC R.sm R.Ls :: mapC R.fm (.int .i64) nE pE R.Lf :: mapC m (.int .i64) nE pE O :: tog (O.map (fun e : Nat × Nat => fileC e.2 (flAt S.fl e.1))) :: blk g 76 (fsCells {R with fm := m} S.room S.used S.fl.length S.acts S.fuse S.dead) :: blk p 76 (fsCells R S.room S.used S.fl.length S.acts S.fuse S.dead) :: dirC R.nm R.Ln :: row 88 4 R.v S.row.length (S.row.flatMap mvv) :: tog (filesL R.bs S.fl) :: cs) v) => dir_twin (show Mem w0 (dirC R.nm R.Ln :: dirC bs Ls :: dirC R.sm R.Ls :: mapC R.fm (.int .i64) nE pE R.Lf :: mapC m (.int .i64) nE pE O :: tog (O.map (fun e : Nat × Nat => fileC e.2 (flAt S.fl e.1))) :: blk g 76 (fsCells {R with fm := m} S.room S.used S.fl.length S.acts S.fuse S.dead) :: blk p 76 (fsCells R S.room S.used S.fl.length S.acts S.fuse S.dead) :: row 88 4 R.v S.row.length (S.row.flatMap mvv) :: tog (filesL R.bs S.fl) :: cs) v from m'.bring 7) (HF.out.2.1.seen.ok.nd.perm HF.out.1.seen.symm))
      go_upto_region 11 with (fail)
      go_cut [] (fun wx => ∃ (bs : Nat) (Ls : Dir) (bn : Nat) (Ln : Dir), Ls.Perm R.Ls ∧ Ln.Perm R.Ln ∧ Hid (Mem w0 (dirC bn Ln :: dirC R.nm R.Ln :: dirC bs Ls :: dirC R.sm R.Ls :: mapC R.fm (.int .i64) nE pE R.Lf :: mapC m (.int .i64) nE pE O :: tog (O.map (fun e : Nat × Nat => fileC e.2 (flAt S.fl e.1))) :: blk g 76 (fsCells {R with fm := m, sm := bs, nm := bn} S.room S.used S.fl.length S.acts S.fuse S.dead) :: blk p 76 (fsCells R S.room S.used S.fl.length S.acts S.fuse S.dead) ::
        row 88 4 R.v S.row.length (S.row.flatMap mvv) :: tog (filesL R.bs S.fl) :: cs) wx))
      case first =>
        go_region_held3 (fun w' => w'.cell? ⟨p, 5, none⟩ = some (.map (some R.sm)) ∧ w'.cell? ⟨p, 6, none⟩ = some (.map (some R.nm)))
          (first | exact ⟨p5, p6⟩ | exact q56 | exact r56 | exact s56 | exact t56)
          (first
            | (go_at_call 54; with_reducible refine HT1.out.mono ?_; rintro en w7 ⟨bs, Ls, rfl, hLs, M7⟩; have q56 : w7.cell? ⟨p, 5, none⟩ = some (.map (some R.sm)) ∧ w7.cell? ⟨p, 6, none⟩ = some (.map (some R.nm)) := ⟨(M7.ob 6 rfl).cell 5 rfl, (M7.ob 6 rfl).cell 6 rfl⟩)
            | (go_at_call 54; with_reducible refine (HT2.out _ _ _ M7).mono ?_; rintro en w8 ⟨bn, Ln, rfl, hLn, M8⟩; have r56 : w8.cell? ⟨p, 5, none⟩ = some (.map (some R.sm)) ∧ w8.cell? ⟨p, 6, none⟩ = some (.map (some R.nm)) := ⟨(M8.ob 8 rfl).cell 5 rfl, (M8.ob 8 rfl).cell 6 rfl⟩; have g5 : w8.cell? ⟨g, 5, none⟩ = some (.map (some R.sm)) := (M8.ob 7 rfl).cell 5 rfl; have g6 : w8.cell? ⟨g, 6, none⟩ = some (.map (some R.nm)) := (M8.ob 7 rfl).cell 6 rfl; have fg5 : w8.frozen? ⟨g, 5, none⟩ = false := (M8.ob 7 rfl).free 5; have fg6 : w8.frozen? ⟨g, 6, none⟩ = false := (M8.ob 7 rfl).free 6; have M9 := M8.put 7 rfl 5 (.map (some bs)); have s56 : (w8.setCell ⟨g, 5, none⟩ (.map (some bs))).cell? ⟨p, 5, none⟩ = some (.map (some R.sm)) ∧ (w8.setCell ⟨g, 5, none⟩ (.map (some bs))).cell? ⟨p, 6, none⟩ = some (.map (some R.nm)) := ⟨(M9.ob 8 rfl).cell 5 rfl, (M9.ob 8 rfl).cell 6 rfl⟩; have M10 := M9.put 7 rfl 6 (.map (some bn)); have t56 : ((w8.setCell ⟨g, 5, none⟩ (.map (some bs))).setCell ⟨g, 6, none⟩ (.map (some bn))).cell? ⟨p, 5, none⟩ = some (.map (some R.sm)) ∧ ((w8.setCell ⟨g, 5, none⟩ (.map (some bs))).setCell ⟨g, 6, none⟩ (.map (some bn))).cell? ⟨p, 6, none⟩ = some (.map (some R.nm)) := ⟨(M10.ob 8 rfl).cell 5 rfl, (M10.ob 8 rfl).cell 6 rfl⟩))
        all_goals
          go_wp2_with fail
          go_meet
          case rel => exact ⟨bs, Ls, bn, Ln, hLs, hLn, Lib.hid M10⟩
      case rest =>
        obtain ⟨bs, Ls, bn, Ln, hLs, hLn, HM11⟩ := hcut
        clear HE HED p5 p6 HT1 HT2
        have hrl : S.row.length ≤ 1000000000 := by have := HF.out.2.1.rowl; have := HF.out.2.2.2; omega
        have HMN := Lib.hid (HM11.out.nilRow 88 4)
        have p7 : wc.cell? ⟨p, 7, none⟩ = some (.slice Av S.row.length cv) := by rw [← HV.out.1]; exact (HM11.out.ob 8 rfl).cell 7 rfl
        have happ := HM11.out.app 9 rfl
        rw [HV.out.1] at happ
        have RN := Lib.hid happ.rd.1
        have HLN := Lib.hid (show (S.row.flatMap mvv).length = S.row.length * 4 by induction S.row with | nil => rfl | cons a l ih => rw [List.flatMap_cons, List.length_append, ih, List.length_cons]; simp [mvv]; omega)
        clear happ
        go_upto_region 13 with (at_builtin; go_must (refine append_row rfl _ _ 74 88 (.agg #[.int .i64 0, .string .empty, .string .empty, .int .i64 0]) 4 48 rfl Try.underlying74 Try.infoMove rfl (by decide) 0 (HMN.out.app 0 rfl) (by rfl) (by rfl) RN.out HLN.out (mvv_ones _) (by omega) (by omega) (Nat.zero_le _) ?_); intro v7 w7 hown7 hgr7 hat7; rw [Nat.zero_add, List.nil_append] at hown7; obtain ⟨A7, c7, rfl, hcc7⟩ := hown7.slice; have M7 := HMN.out.grow 0 rfl hown7 hgr7 hat7; have n7 : w7.cell? ⟨g, 7, none⟩ = some R.v := (M7.ob 8 rfl).cell 7 rfl; have nf7 : w7.frozen? ⟨g, 7, none⟩ = false := (M7.ob 8 rfl).free 7)
        have M8 := M7.put 8 rfl 7 (.slice A7 S.row.length c7)
        have HM8 := Lib.hid M8
        clear M7 M8 HMN HM11 RN n7 nf7 p7 hown7 hgr7 hat7
        go_wp2_with fail
        go_ret
        obtain ⟨hf, ho, hrow, _⟩ := HF.out
        have hp := HP.out
        rw [List.map_nil, List.append_nil] at hp
        have hndO : KeysNd O := by
          have h1 : (R.Lf.map (·.1)).Nodup := List.pairwise_map.2 hf.nd
          exact List.pairwise_map.1 ((hp.nodup_iff).2 h1)
        have hk : ∀ n, n ∈ O.map (·.1) ↔ 1 ≤ n ∧ n ≤ S.fl.length := fun n => by
          rw [hp.mem_iff]
          constructor
          · intro h
            obtain ⟨⟨n', b⟩, h1, e⟩ := List.mem_map.1 h
            simp only at e
            subst e
            obtain ⟨h2, h3⟩ := (hf.files n' b).1 h1
            have := (List.getElem?_eq_some_iff.1 h3).1
            rw [hf.len] at this
            exact ⟨h2, by omega⟩
          · rintro ⟨h1, h2⟩
            obtain ⟨b, hb⟩ : ∃ b, R.bs[n - 1]? = some b := ⟨_, List.getElem?_eq_getElem (by rw [hf.len]; omega)⟩
            exact List.mem_map.2 ⟨(n, b), (hf.files n b).2 ⟨h1, hb⟩, rfl⟩
        obtain ⟨hfiles, hperm⟩ := copy_end rfl hndO hk
        have M9 := copy_perm HM8.out
        have hfit : FsFit ⟨m, bs, bn, .slice A7 S.row.length c7, O, Ls, Ln, copyBs O S.fl.length⟩ S := ⟨hLs.trans hf.sure, hLn.trans hf.seen, hndO, hfiles, by unfold copyBs; simp⟩
        have M10 := (M9.bring 5).open_
        have M11 := Mem.close (l := filesL (copyBs O S.fl.length) S.fl) (M10.perm (hperm.append_right _))
        have M12 : Mem w0 (fsL g ⟨m, bs, bn, .slice A7 S.row.length c7, O, Ls, Ln, copyBs O S.fl.length⟩ S S.used ++ (fsL p R S S.used ++ cs)) (w7.setCell ⟨g, 7, none⟩ (.slice A7 S.row.length c7)) := M11.away 5
        have M13 := (Mem.unfs (p := p) (R := R) (S := S) ((M12.unfs hfit ho).away 6) hf ho).bring 1
        exact ⟨g, rfl, M13⟩
    · obtain ⟨hn1, hb0⟩ := (HF.out.1.files n b0).1 (hsub _ (List.mem_of_getElem? hj))
      have hnl : n - 1 < S.fl.length := by rw [← HF.out.1.len]; exact (List.getElem?_eq_some_iff.1 hb0).1
      obtain ⟨hx, hxo⟩ := flAt_ok HF.out.2.1 hn1 (by omega)
      obtain ⟨x, hxe⟩ : ∃ x, x = flAt S.fl n := ⟨_, rfl⟩
      rw [← hxe] at hx hxo
      obtain ⟨FR, hfr, M4⟩ := ((M3.bring 8).pick (n - 1) (filesL_at hb0 hx)).file
      have HM4 := Lib.hid (show Mem w0 (flL b0 FR x ++ (tog ((filesL R.bs S.fl).eraseIdx (n - 1)) :: rngC R.fm r (.int .i64) nE pE R.Lf (left.eraseIdx j) :: mapC m (.int .i64) nE pE O :: tog (O.map (fun e : Nat × Nat => fileC e.2 (flAt S.fl e.1))) :: blk g 76 (fsCells {R with fm := m} S.room S.used S.fl.length S.acts S.fuse S.dead) :: blk p 76 (fsCells R S.room S.used S.fl.length S.acts S.fuse S.dead) ::
        dirC R.sm R.Ls :: dirC R.nm R.Ln :: row 88 4 R.v S.row.length (S.row.flatMap mvv) :: cs)) v3 from M4)
      have HX := Lib.hid (And.intro hj (And.intro hlen (And.intro hp (And.intro hsub (And.intro hn1 (And.intro hb0 (And.intro hxe (And.intro hx (And.intro hxo hfr)))))))))
      clear hj hlen hp hsub hn1 hb0 hxe hx hxo hfr M3 M4 hsz HM5
      obtain ⟨T, hT⟩ : ∃ T, T = (tog ((filesL R.bs S.fl).eraseIdx (n - 1)) :: rngC R.fm r (.int .i64) nE pE R.Lf (left.eraseIdx j) :: mapC m (.int .i64) nE pE O :: tog (O.map (fun e : Nat × Nat => fileC e.2 (flAt S.fl e.1))) :: blk g 76 (fsCells {R with fm := m} S.room S.used S.fl.length S.acts S.fuse S.dead) :: blk p 76 (fsCells R S.room S.used S.fl.length S.acts S.fuse S.dead) ::
        dirC R.sm R.Ls :: dirC R.nm R.Ln :: row 88 4 R.v S.row.length (S.row.flatMap mvv) :: cs) := ⟨_, rfl⟩
      rw [← hT] at HM4
      have HT := Lib.hid hT
      clear hT
      obtain ⟨hj, hlen, hp, hsub, hn1, hb0, hxe, hx, hxo, hfr⟩ := HX.out
      have hsl : x.sure.length ≤ 1048576 := hxo.sure
      have hnl2 : x.now.length ≤ 1048576 := hxo.now
      have hrl : x.row.length ≤ 1000000000 := by have := HF.out.2.1.frow x (List.mem_of_getElem? hx); have := HF.out.2.2.2; omega
      have HFR := Lib.hid hfr
      have HMD := Lib.hid HM4.out.drew
      have HN1 := Lib.hid (App.nil v3.drew v3.drew.heap.size 5 1)
      have HRA := Lib.hid (show Rd v3.drew FR.a (x.sure.map bv) from HMD.out.rd 2 rfl hfr.sure)
      have k0 : v3.cell? ⟨b0, 0, none⟩ = some (.slice FR.a x.sure.length FR.ac) := (HM4.out.ob 0 rfl).cell 0 rfl
      have k1 : v3.cell? ⟨b0, 1, none⟩ = some (.slice FR.n x.now.length FR.nc) := (HM4.out.ob 0 rfl).cell 1 rfl
      clear hj hlen hp hsub hn1 hb0 hxe hx hxo hfr
      go_upto_region 8 with (fail)
      go_cut [6] (fun t wx => ∃ (b1 : Nat) (A1 : Option Addr) (c1 : Nat) (A2 : Option Addr) (c2 : Nat), t = pE b1 ∧ Hid (Mem w0 (blk b1 85 #[.slice A1 x.sure.length c1, .slice A2 x.now.length c2, .slice none 0 0] :: row 5 1 (.slice A2 x.now.length c2) x.now.length (x.now.map bv) :: row 5 1 (.slice A1 x.sure.length c1) x.sure.length (x.sure.map bv) :: (flL b0 FR x ++ T)) wx))
      case first =>
        go_region_held3 (fun w' => w'.cell? ⟨b0, 0, none⟩ = some (.slice FR.a x.sure.length FR.ac) ∧ w'.cell? ⟨b0, 1, none⟩ = some (.slice FR.n x.now.length FR.nc))
          (first | exact ⟨k0, k1⟩ | exact q01 | exact r01 | exact s01)
          (first
            | (refine step_row rfl _ _ 22 5 (.int .u8 0) 1 1 (by rfl) Try.underlying22 Try.infoU8 rfl (by decide) v3.drew.heap.size HN1.out (by rfl) (by rfl) HRA.out (by simp) (bv_all x.sure) (by omega) (by omega) (Nat.le_refl _) ?_; intro v7 w7 hown7 hgr7 hat7; rw [List.nil_append, Nat.zero_add] at hown7; obtain ⟨A7, c7, rfl, hcc7⟩ := hown7.slice; have M7 := HMD.out.newRow ((Bl.refl _).grown hgr7 (by intro q hq; cases hq)) hown7; have q01 : w7.cell? ⟨b0, 0, none⟩ = some (.slice FR.a x.sure.length FR.ac) ∧ w7.cell? ⟨b0, 1, none⟩ = some (.slice FR.n x.now.length FR.nc) := ⟨(M7.ob 1 rfl).cell 0 rfl, (M7.ob 1 rfl).cell 1 rfl⟩)
            | (refine step_row rfl _ _ 22 5 (.int .u8 0) 1 1 (by rfl) Try.underlying22 Try.infoU8 rfl (by decide) w7.heap.size (App.nil w7 w7.heap.size 5 1) (by rfl) (by rfl) (M7.rd 3 rfl HFR.out.now) (by simp) (bv_all x.now) (by omega) (by omega) (Nat.le_refl _) ?_; intro v8 w8 hown8 hgr8 hat8; rw [List.nil_append, Nat.zero_add] at hown8; obtain ⟨A8, c8, rfl, hcc8⟩ := hown8.slice; have M8 := M7.newRow ((Bl.refl _).grown hgr8 (by intro q hq; cases hq)) hown8; have r01 : w8.cell? ⟨b0, 0, none⟩ = some (.slice FR.a x.sure.length FR.ac) ∧ w8.cell? ⟨b0, 1, none⟩ = some (.slice FR.n x.now.length FR.nc) := ⟨(M8.ob 2 rfl).cell 0 rfl, (M8.ob 2 rfl).cell 1 rfl⟩; have M9 := M8.alloc (.cells #[.slice A7 x.sure.length c7, .slice A8 x.now.length c8, .slice none 0 0] 85); have s01 : (w8.alloc (.cells #[.slice A7 x.sure.length c7, .slice A8 x.now.length c8, .slice none 0 0] 85)).cell? ⟨b0, 0, none⟩ = some (.slice FR.a x.sure.length FR.ac) ∧ (w8.alloc (.cells #[.slice A7 x.sure.length c7, .slice A8 x.now.length c8, .slice none 0 0] 85)).cell? ⟨b0, 1, none⟩ = some (.slice FR.n x.now.length FR.nc) := ⟨(M9.ob 3 rfl).cell 0 rfl, (M9.ob 3 rfl).cell 1 rfl⟩))
        all_goals
          go_wp2_with fail
          go_meet
          case rel => exact ⟨w8.heap.size, A7, c7, A8, c8, rfl, Lib.hid M9⟩
      case rest =>
        obtain ⟨b1, A1, c1, A2, c2, rfl, HM9⟩ := hcut
        clear HM4 HMD HN1 HRA k0 k1
        go_upto_region 9 with (fail)
        obtain ⟨An, cn, hvn, hcn⟩ := (HM9.out.app 4 rfl).slice
        have HMN := Lib.hid ((HM9.out.nilRow 93 3))
        have HND := Lib.hid HMN.out.drew
        have happ := HND.out.app 5 rfl
        rw [hvn] at happ
        have RN := Lib.hid happ.rd.1
        have HAPP := Lib.hid (HND.out.app 0 rfl)
        have HLN := Lib.hid (show (FR.chs.flatMap chv).length = x.row.length * 3 by rw [← HFR.out.row, List.length_map]; induction FR.chs with | nil => rfl | cons a l ih => rw [List.flatMap_cons, List.length_append, ih, List.length_cons]; simp [chv]; omega)
        have k2 : wc.cell? ⟨b0, 2, none⟩ = some (.slice An x.row.length cn) := by rw [← hvn]; exact (HM9.out.ob 3 rfl).cell 2 rfl
        have n2 : wc.cell? ⟨b1, 2, none⟩ = some (.slice none 0 0) := (HM9.out.ob 0 rfl).cell 2 rfl
        clear happ hvn hcn
        go_cut [] (fun wx => ∃ V, Hid (Mem w0 (row 93 3 V x.row.length (FR.chs.flatMap chv) :: blk b1 85 #[.slice A1 x.sure.length c1, .slice A2 x.now.length c2, V] :: row 5 1 (.slice A2 x.now.length c2) x.now.length (x.now.map bv) :: row 5 1 (.slice A1 x.sure.length c1) x.sure.length (x.sure.map bv) :: (flL b0 FR x ++ T)) wx))
        case first =>
          go_region_law (refine step_row rfl _ _ 83 93 (.agg #[.bool false, .int .i64 0, .slice none 0 0]) 3 40 (by rfl) Try.underlying83 Try.infoChange rfl (by decide) 0 HAPP.out (by rfl) (by rfl) RN.out HLN.out (chv_one _) (by omega) (by omega) (Nat.zero_le _) ?_; intro v9 w9 hown9 hgr9 hat9; rw [Nat.zero_add, List.nil_append] at hown9; obtain ⟨A9, c9, rfl, hcc9⟩ := hown9.slice; have M9 := HND.out.grow 0 rfl hown9 hgr9 hat9; have n3 : w9.cell? ⟨b1, 2, none⟩ = some (.slice none 0 0) := (M9.ob 1 rfl).cell 2 rfl; have nf3 : w9.frozen? ⟨b1, 2, none⟩ = false := (M9.ob 1 rfl).free 2; have M10 := M9.put 1 rfl 2 (.slice A9 x.row.length c9))
          all_goals
            go_wp2_with fail
            go_meet
            case rel => exact ⟨_, Lib.hid M10⟩
        case rest =>
          obtain ⟨V, HM10⟩ := hcut
          clear HM9 HMN HND HAPP RN k2 n2
          obtain ⟨hj, hlen, hp, hsub, hn1, hb0, hxe, hx, hxo, hfr⟩ := HX.out
          have hc1 : x.sure.length ≤ c1 := by obtain ⟨_, _, e, h⟩ := (HM10.out.app 3 rfl).slice; cases e; exact h
          have hc2 : x.now.length ≤ c2 := by obtain ⟨_, _, e, h⟩ := (HM10.out.app 2 rfl).slice; cases e; exact h
          have M11 := ((((HM10.out.noPool).sinkAt 3 0 rfl rfl).sinkAt 3 0 rfl rfl).bring 1).bring 2
          have hxrow : x.row = [] := HF.out.2.2.1 x (List.mem_of_getElem? hx)
          have hchs : FR.chs = [] := by have h1 := hfr.row; rw [hxrow] at h1; exact List.map_eq_nil_iff.1 h1
          obtain ⟨F1, hF1⟩ : ∃ F1 : Facts, F1 = (fun B l => ((fun B l => (l = []) ∨ (B = A2 ∧ l = x.now.map bv)) B l) ∨ (B = A1 ∧ l = x.sure.map bv)) := ⟨_, rfl⟩
          have hfit1 : FlFit ⟨A1, c1, A2, c2, V, FR.chs, F1⟩ x := ⟨by rw [hF1]; exact .inr ⟨rfl, rfl⟩, by rw [hF1]; exact .inl (.inr ⟨rfl, rfl⟩), hc1, hc2, hfr.row, fun q hq => by have h : q ∈ FR.chs := hq; rw [hchs] at h; cases h⟩
          have M12 : Mem w0 (flL b1 ⟨A1, c1, A2, c2, V, FR.chs, F1⟩ x ++ (flL b0 FR x ++ T)) wc := by rw [hF1]; exact M11
          have M13 := ((M12.unfile hfit1).away 3)
          have M14 := (Mem.unfile (b := b0) (R := FR) (x := x) M13 hfr)
          rw [HT.out] at M14
          have M15 := ((M14.bring 1).away 2).unpick (by have := (List.getElem?_eq_some_iff.1 (filesL_at hb0 hx)).1; exact this)
          have hset : (filesL R.bs S.fl).set (n - 1) (fileC b0 x) = filesL R.bs S.fl := by
            obtain ⟨h1, h2⟩ := List.getElem?_eq_some_iff.1 (filesL_at hb0 hx)
            rw [← h2]; exact List.set_getElem_self h1
          rw [hset] at M15
          have M16 := ((((M15.bring 4).bring 2).togMore).away 3).away 8
          obtain ⟨e1, e2⟩ := copyF_step HF.out.1.nd hp hj b1
          obtain ⟨w4, hr4, hm4, hc4, hs4⟩ := (M16.map' 1 rfl).update intEnc map_files_u int_u n b1
          have M17 := M16.mapSet 1 rfl hm4 hc4
          rw [e1] at M17
          have e3 : O.map (fun e : Nat × Nat => fileC e.2 (flAt S.fl e.1)) ++ [fileC b1 x] = (O ++ [(n, b1)]).map (fun e => fileC e.2 (flAt S.fl e.1)) := by rw [List.map_append, hxe]; rfl
          have HM17 := Lib.hid (show Mem w0 (CopyC cs p g m r R S (left.eraseIdx j) (O ++ [(n, b1)])) w4 by unfold CopyC; rw [← e3]; exact M17)
          have g3 : wc.cell? ⟨g, 3, none⟩ = some (.map (some m)) := (M16.ob 3 rfl).cell 3 rfl
          have HY := Lib.hid (And.intro e2 (And.intro hj hlen))
          have hsub2 : Hid (∀ e ∈ left.eraseIdx j, e ∈ R.Lf) := Lib.hid (fun e he => hsub e (List.mem_of_mem_eraseIdx he))
          clear e1 e2 e3 M11 M12 M13 M14 M15 M16 M17 hset hfit1 hchs hxrow hc1 hc2 hj hlen hp hsub hn1 hb0 hxe hx hxo hfr hm4 hc4 hs4 HM10
          go_wp2_with fail
          go_roundw
          case rel => exact ⟨left.eraseIdx j, O ++ [(n, b1)], HY.out.1, hsub2.out, HM17⟩
          case measure =>
            obtain ⟨_, hj, hlen⟩ := HY.out
            have hjl := (List.getElem?_eq_some_iff.1 hj).1
            have e := HM17.out.rngLeft (b := R.fm) (r := r) (d := .int .i64) (kE := nE) (vE := pE) (L := R.Lf) (left := left.eraseIdx j) 0 rfl
            rw [e, hlen, List.length_eraseIdx, if_pos hjl]; omega
end Go.Proofs.Ythphonkiolmkiaa
/- Layer 14, the law SimfsTwice walked. -/
set_option linter.unusedVariables false
set_option linter.unusedSimpArgs false
namespace Go.Proofs.Ythphonkiolmkiaa
open Go.RowKit
set_option maxRecDepth 100000
set_option maxHeartbeats 16000000

theorem leftAll_plain (fl : List Fl) : ∀ (D : Dir) (l : List Int), (∀ p ∈ D, (flAt fl p.2).row = []) → leftAll fl D l = D.map (fun p => (flAt fl p.2).sure)
  | [], _, _ => rfl
  | p :: D, l, h => by
    have h1 : (flAt fl p.2).row = [] := h p (List.mem_cons_self ..)
    have h2 : (leftOfF (flAt fl p.2) l).1 = (flAt fl p.2).sure := by
      unfold leftOfF
      rw [h1]
      simp
    show (leftOfF (flAt fl p.2) l).1 :: leftAll fl D _ = _
    rw [h2, leftAll_plain fl D _ (fun q hq => h q (List.mem_cons_of_mem _ hq))]
    rfl
theorem mkFs_row {room : Nat} {bs : List (List UInt8)} {ns : List ByteArray} : ∀ x ∈ (mkFs room bs ns).fl, x.row = [] := by
  intro x hx
  obtain ⟨b, _, rfl⟩ := List.mem_map.1 hx
  rfl
theorem fail_mk (room : Nat) (bs : List (List UInt8)) (ns : List ByteArray) (l : List Int) (hl : ns.length = bs.length) : fsFail (mkFs room bs ns) l = mkFs room bs ns := by
  have hk : (takeN 1 l).1 = 0 := by have := takeN_lt (many := 1) (by omega) l; omega
  have hd : failDir (mkFs room bs ns) l = numbered ns := by
    show ([].take _).foldl dirDo (numbered ns) = numbered ns
    rw [List.take_nil]; rfl
  unfold fsFail
  rw [hd]
  have hn : dNames (numbered ns) = ns := numbered_names ns
  have ha : ∀ i (hi : i < ns.length), flAt (mkFs room bs ns).fl (i + 1) = ⟨bs[i]'(by omega), bs[i]'(by omega), []⟩ := fun i hi => by
    unfold flAt
    rw [Nat.add_sub_cancel]
    show ((bs.map (fun b => (⟨b, b, []⟩ : Fl)))[i]?).getD _ = _
    rw [List.getElem?_map, List.getElem?_eq_getElem (by omega)]; rfl
  have hall : ∀ p ∈ numbered ns, ∃ i, ∃ hi : i < ns.length, p.2 = i + 1 := fun p hp => by
    obtain ⟨q, hq, rfl⟩ := List.mem_map.1 hp
    obtain ⟨q1, q2⟩ := q
    have := List.snd_lt_of_mem_zipIdx hq
    exact ⟨q2, by simpa using this, rfl⟩
  have hleft : ∀ l', leftAll (mkFs room bs ns).fl (numbered ns) l' = bs := fun l' => by
    rw [leftAll_plain _ _ _ (fun p hp => by obtain ⟨i, hi, e⟩ := hall p hp; rw [e, ha i hi])]
    refine List.ext_getElem? (fun i => ?_)
    rw [List.getElem?_map]
    unfold numbered
    rw [List.getElem?_map, List.getElem?_zipIdx]
    by_cases hi : i < ns.length
    · rw [List.getElem?_eq_getElem hi, List.getElem?_eq_getElem (show i < bs.length by omega)]
      simp only [Option.map_some, Nat.zero_add]
      rw [ha i hi]
    · rw [List.getElem?_eq_none (by omega), List.getElem?_eq_none (by omega)]; rfl
  rw [hleft, hn]
  rfl
theorem fail_twice {S : Fs} (l l' : List Int) : fsFail (fsFail S l) l' = fsFail S l := by
  unfold fsFail
  exact fail_mk _ _ _ _ (by rw [leftAll_len]; simp [dNames])
end Go.Proofs.Ythphonkiolmkiaa
/- Layer 14, the law SimfsTwice walked. -/
set_option linter.unusedVariables false
set_option linter.unusedSimpArgs false
namespace Go.Proofs.Ythphonkiolmkiaa
open Go.RowKit
set_option maxRecDepth 100000
set_option maxHeartbeats 16000000

theorem alike_last {w0 w : World} {cs : List Chunk} {f g : Nat} {S : Fs} {G : Facts} (h : Mem w0 (rfC g S G :: pool G :: fsC f S :: cs) w) (ha : S.acts < 1000000000) :
    Calls Try.prog 41 #[pE f, pE g, .agg #[.int .u8 0, sE wkA, .string .empty, .int .i64 0, .slice none 0 0]] w (fun en w' => en = .returned (.bool true) ∧ Mem w0 (rfC g S G :: pool G :: fsC f S :: cs) w') := alike_calls opLast h ha
theorem twice_calls (room : Int) (A A2 A3 A4 : Option Addr) (l : List OpA) (c c2 c3 c4 : Nat) (cu : List Int) (more : List OpA) (ot : List Int) (W : World) (hroom : -9223372036854775808 ≤ room ∧ room ≤ 9223372036854775807) (hl : l.length ≤ 140737488351232) (hr : Rd W A (l.flatMap opv)) (ho : ∀ o ∈ l, OpOk W o) (r2 : Rd W A2 (cu.map iE)) (hcu : cu.length ≤ c2) (hc8 : cu.length * 8 ≤ 140737488351232) (hi : ∀ a ∈ cu, -9223372036854775808 ≤ a ∧ a ≤ 9223372036854775807)
    (hm : more.length ≤ 140737488351232) (r3 : Rd W A3 (more.flatMap opv)) (hom : ∀ o ∈ more, OpOk W o) (r4 : Rd W A4 (ot.map iE)) (hot : ot.length ≤ c4) (ho8 : ot.length * 8 ≤ 140737488351232) (hio : ∀ a ∈ ot, -9223372036854775808 ≤ a ∧ a ≤ 9223372036854775807) :
    Calls Try.prog 12 #[.int .i64 room, .slice A l.length c, .slice A2 cu.length c2, .slice A3 more.length c3, .slice A4 ot.length c4] W (RetTrue W) := by
  have HR := Lib.hid hr
  have HO := Lib.hid ho
  have HI := Lib.hid (And.intro r2 (And.intro hcu (And.intro hi hc8)))
  have HMO := Lib.hid (And.intro r3 (And.intro hom hm))
  have HIO := Lib.hid (And.intro r4 (And.intro hot (And.intro hio ho8)))
  have HL := Lib.hid hl
  have HM0 := Lib.hid (Mem.start W)
  clear hr ho r2 hcu hi r3 hom r4 hot hio
  go_enter Try.func12, Try.ntmps12
  go_wp2_with fail
  refine (fs_New room HM0.out).mono ?_
  rintro en w1 (⟨h1, rfl, m⟩ | ⟨h1, f, rfl, m⟩)
  · have HM1 := Lib.hid m.noPool
    clear m HM0
    go_wp2_with fail
    refine (ref_New room HM1.out rfl).mono ?_
    rintro en w2 (⟨h2, rfl, m⟩ | ⟨h2, g, rfl, m⟩)
    rotate_left
    · exact absurd h1 h2
    have HM2 := Lib.hid m
    clear m HM1 h1 h2
    go_wp2_with fail
    refine (works_calls HM2.out).mono ?_
    rintro en w3 ⟨rfl, m⟩
    have HM3 := Lib.hid m
    clear m HM2
    go_wp2_with fail
    go_ret
    exact RetTrue.mk rfl (HM3.out.toBlAt 1 rfl rfl rfl rfl)
  have HM1 := Lib.hid m.noPool
  clear m HM0
  go_wp2_with fail
  refine (ref_New room HM1.out rfl).mono ?_
  rintro en w2 (⟨h2, rfl, m⟩ | ⟨h2, g, rfl, m⟩)
  · exact absurd h2 h1
  obtain ⟨r, rfl⟩ : ∃ r : Nat, room = (r : Int) := ⟨room.toNat, by omega⟩
  rw [Int.toNat_natCast] at m
  have HM2 := Lib.hid m
  clear m HM1 h1 h2
  go_wp2_with fail
  refine (great_calls A l c w2 hl (HR.out.bl (HM2.out.toBlAt 3 rfl rfl rfl rfl)) (fun o h => (HO.out o h).bl (HM2.out.toBlAt 3 rfl rfl rfl rfl))).mono ?_
  rintro en w3 ⟨gr, rfl, rfl, hg⟩
  cases gr with
  | true =>
    clear hg
    go_wp2_with fail
    refine (works_calls HM2.out).mono ?_
    rintro en w3 ⟨rfl, m⟩
    have HM3 := Lib.hid m
    clear m HM2
    go_wp2_with fail
    go_ret
    exact RetTrue.mk rfl (HM3.out.toBlAt 3 rfl rfl rfl rfl)
  | false =>
    have hg2 := hg rfl
    clear hg
    go_wp2_with fail
    refine (great_calls A3 more c3 w3 hm (HMO.out.1.bl (HM2.out.toBlAt 3 rfl rfl rfl rfl)) (fun o h => (HMO.out.2.1 o h).bl (HM2.out.toBlAt 3 rfl rfl rfl rfl))).mono ?_
    rintro en w4 ⟨gr, rfl, rfl, hg⟩
    cases gr with
    | true =>
      clear hg
      go_wp2_with fail
      refine (works_calls HM2.out).mono ?_
      rintro en w3 ⟨rfl, m⟩
      have HM3 := Lib.hid m
      clear m HM2
      go_wp2_with fail
      go_ret
      exact RetTrue.mk rfl (HM3.out.toBlAt 3 rfl rfl rfl rfl)
    | false =>
      have hg3 := hg rfl
      clear hg
      go_wp2_with fail
      go_loopw [15] (fun v15 wr => ∃ (i : Nat) (S : Fs) (G : Facts), v15 = .int .i64 i ∧ i ≤ l.length ∧ S.acts ≤ i ∧ Hid (Mem W (rfC g S G :: pool G :: fsC f S :: [old W]) wr)) (fun v15 _ => l.length - (intOf v15).toNat)
      case atStart => exact ⟨0, newFs r, _, rfl, Nat.zero_le _, Nat.le_refl _, HM2⟩
      case round =>
        obtain ⟨i, S, G, rfl, hi, ha, HS⟩ := hrel
        clear HM2
        by_cases hlt : i < l.length
        case pos =>
          obtain ⟨o, hx⟩ : ∃ o, l[i]? = some o := ⟨_, List.getElem?_eq_getElem hlt⟩
          have HOK := Lib.hid (HO.out o (List.mem_of_getElem? hx))
          have hOV := HS.out.toBlAt 3 rfl rfl rfl rfl
          obtain ⟨b, off, rfl, hcell⟩ := Rd.rec (f := opv) (k := 5) (fun _ => rfl) HR.out hx (by omega)
          have HCELL := Lib.hid (fun (v : World) (h : Bl W v) => show v.cell? ⟨b, off + i * 5, none⟩ = some (.int .u8 (o.call : Int)) ∧ v.cell? ⟨b, off + i * 5 + 1, none⟩ = some (sE o.name) ∧ v.cell? ⟨b, off + i * 5 + 2, none⟩ = some (sE o.to_) ∧ v.cell? ⟨b, off + i * 5 + 3, none⟩ = some (.int .i64 o.off) ∧ v.cell? ⟨b, off + i * 5 + 4, none⟩ = some (.slice o.A o.b.length o.c) from
            ⟨h.cellAt (hcell 0 _ rfl), h.cellAt (hcell 1 _ rfl), h.cellAt (hcell 2 _ rfl), h.cellAt (hcell 3 _ rfl), h.cellAt (hcell 4 _ rfl)⟩)
          have hlt2 : (i : Int) < (l.length : Int) := by omega
          obtain ⟨k0, k1, k2, k3, k4⟩ := HCELL.out wr hOV
          have hac := do_acts S o
          have HDO := Lib.hid (do_calls o (HS.out.bring 2) HOK.out.name HOK.out.to_ HOK.out.off.2 (by have := HOK.out.len; omega) (fun u m => HOK.out.rd.bl (m.toBlAt 3 rfl rfl rfl rfl)) (by omega))
          have HDID := Lib.hid (fun (v : World) (ds : List Chunk) (m : Mem W (rfC g S G :: pool G :: ds) v) (hd : ∀ u, Mem W ds u → Rd u o.A (o.b.map bv)) => did_calls o m HOK.out.name HOK.out.to_ HOK.out.off.2 (by have := HOK.out.len; omega) (by have := HOK.out.len; omega) hd (by omega))
          generalize fsDo S o = r' at HDO HDID hac
          obtain ⟨S', e'⟩ := r'
          simp only [opV] at HDO HDID hac
          clear hcell hx hOV
          go_wp2_with fail
          refine HDO.out.mono ?_
          rintro en w3 ⟨rfl, m⟩
          have HM3 := Lib.hid (m.away 2)
          clear m HDO k0 k1 k2 k3 k4
          obtain ⟨k0, k1, k2, k3, k4⟩ := HCELL.out w3 (HM3.out.toBlAt 3 rfl rfl rfl rfl)
          go_wp2_with fail
          refine (HDID.out _ _ HM3.out (fun u m => HOK.out.rd.bl (m.toBlAt 1 rfl rfl rfl rfl))).mono ?_
          rintro en w4 ⟨rfl, G4, hG4, m⟩
          have HM4 := Lib.hid m
          clear m HDID HM3 k0 k1 k2 k3 k4
          go_wp2_with fail
          go_roundw
          case rel => exact ⟨i + 1, S', G4, rfl, hlt, by have h : S'.acts ≤ S.acts + 1 := hac; omega, HM4⟩
          case measure => simp [intOf]; omega
        case neg =>
          have hlt2 : ¬ ((i : Int) < (l.length : Int)) := by omega
          have HAC := Lib.hid (show S.acts < 1000000000 by omega)
          clear ha
          go_wp2_with fail
          refine (fs_Fail (l := cu) (c := c2) (A := A2) (HS.out.bring 2) (fun v m => HI.out.1.bl (m.toBlAt 3 rfl rfl rfl rfl)) HI.out.2.1 HI.out.2.2.1 HAC.out).mono ?_
          rintro en w6 ⟨x, rfl, m⟩
          have HM6 := Lib.hid ((m.bring 3).bring 3)
          clear m HS
          go_wp2_with fail
          refine (ref_Fail (l := cu) (c := c2) (A := A2) HM6.out (fun v m => HI.out.1.bl (m.toBlAt 2 rfl rfl rfl rfl)) HI.out.2.1 (by have := HI.out.2.2.2; omega) HI.out.2.2.1 HAC.out).mono ?_
          rintro en w7 ⟨y, rfl, G7, hG7, m⟩
          obtain ⟨F, hF⟩ : ∃ F, F = fsFail S cu := ⟨_, rfl⟩
          have HFA := Lib.hid (show F.acts < 1000000000 ∧ F.acts = 0 by rw [hF]; exact ⟨show 0 < 1000000000 by omega, rfl⟩)
          have HFT := Lib.hid (show fsFail F ot = F by rw [hF]; exact fail_twice _ _)
          have HFR := Lib.hid (show ∀ x ∈ F.fl, x.row = [] by rw [hF]; exact mkFs_row)
          rw [← hF] at m
          have HM7 := Lib.hid (show Mem W (fsC x F :: rfC y F G7 :: rfC g S G7 :: pool G7 :: fsC f S :: [old W]) w7 from m.bring 3)
          clear m HM6 hF
          go_wp2_with fail
          refine (fs_Fail (l := ot) (c := c4) (A := A4) HM7.out (fun v m => HIO.out.1.bl (m.toBlAt 5 rfl rfl rfl rfl)) HIO.out.2.1 HIO.out.2.2.1 HFA.out.1).mono ?_
          rintro en w8 ⟨z, rfl, m⟩
          rw [HFT.out] at m
          have HM8 := Lib.hid (show Mem W (fsC x F :: fsC z F :: rfC y F G7 :: rfC g S G7 :: pool G7 :: fsC f S :: [old W]) w8 from m.bring 1)
          clear m HM7
          go_wp2_with fail
          refine (fs_Copy HM8.out HFR.out HFA.out.1).mono ?_
          rintro en w9 ⟨cc, rfl, m⟩
          have HM9 := Lib.hid (show Mem W (fsC cc F :: fsC x F :: fsC z F :: rfC y F G7 :: rfC g S G7 :: pool G7 :: fsC f S :: [old W]) w9 from m)
          clear m HM8
          go_upto_region 15 with (fail)
          have M10 := HM9.out.alloc (.cells #[.int .u8 0, sE wkA, .string .empty, .int .i64 0, .slice none 0 0] 53)
          have HM10 := Lib.hid (show Mem W (rfC y F G7 :: pool G7 :: fsC z F :: blk w9.heap.size 53 #[.int .u8 0, sE wkA, .string .empty, .int .i64 0, .slice none 0 0] :: fsC cc F :: fsC x F :: rfC g S G7 :: fsC f S :: [old W]) _ from (((M10.bring 3).bring 6).bring 5))
          clear HM9 M10
          change Code.wp _ _ _ _ (w9.alloc (.cells #[.int .u8 0, sE wkA, .string .empty, .int .i64 0, .slice none 0 0] 53))
          generalize w9.alloc (.cells #[.int .u8 0, sE wkA, .string .empty, .int .i64 0, .slice none 0 0] 53) = w10 at HM10 ⊢
          generalize w9.heap.size = t at HM10 ⊢
          have ld : ∀ (cs' : List Chunk) (i : Nat) (v : World), Mem W cs' v → cs'[i]? = some (blk t 53 #[.int .u8 0, sE wkA, .string .empty, .int .i64 0, .slice none 0 0]) → v.cell? ⟨t, 0, none⟩ = some (.int .u8 0) ∧ v.cell? ⟨t, 1, none⟩ = some (sE wkA) ∧ v.cell? ⟨t, 2, none⟩ = some (.string .empty) ∧ v.cell? ⟨t, 3, none⟩ = some (.int .i64 0) ∧ v.cell? ⟨t, 4, none⟩ = some (.slice none 0 0) := fun cs' i v m hi => ⟨(m.ob i hi).cell 0 rfl, (m.ob i hi).cell 1 rfl, (m.ob i hi).cell 2 rfl, (m.ob i hi).cell 3 rfl, (m.ob i hi).cell 4 rfl⟩
          have LD := Lib.hid ld
          clear ld
          obtain ⟨k0, k1, k2, k3, k4⟩ := LD.out _ 3 _ HM10.out rfl
          have HAL := Lib.hid (alike_last HM10.out HFA.out.1)
          go_wp2_with fail
          refine HAL.out.mono ?_
          rintro en w11 ⟨rfl, m⟩
          have HM11 := Lib.hid m
          clear m HM10 HAL k0 k1 k2 k3 k4
          go_wp2_with fail
          refine (ref_Copy HM11.out HFA.out.1).mono ?_
          rintro en w12 ⟨was, rfl, m⟩
          have M12 : Mem W (rfC was F G7 :: rfC y F G7 :: pool G7 :: fsC z F :: blk t 53 #[.int .u8 0, sE wkA, .string .empty, .int .i64 0, .slice none 0 0] :: fsC cc F :: fsC x F :: rfC g S G7 :: fsC f S :: [old W]) w12 := m
          have M13 : Mem W (rfC was F G7 :: rfC y F G7 :: pool G7 :: blk t 53 #[.int .u8 0, sE wkA, .string .empty, .int .i64 0, .slice none 0 0] :: fsC cc F :: fsC x F :: [old W]) w12 := (((((M12.bring 3).drop).bring 6).drop).bring 6).drop
          have HM13 := Lib.hid (show Mem W (rfC y F G7 :: pool G7 :: fsC x F :: rfC was F G7 :: blk t 53 #[.int .u8 0, sE wkA, .string .empty, .int .i64 0, .slice none 0 0] :: fsC cc F :: [old W]) w12 from (((M13.bring 5).bring 3).bring 3))
          clear m M12 M13 HM11
          go_wp2_with fail
          go_loopw [24] (fun v24 wr => ∃ (i : Nat) (S2 : Fs) (G : Facts), v24 = .int .i64 i ∧ i ≤ more.length ∧ S2.acts ≤ i ∧ Hid (∀ A l, G7 A l → G A l) ∧ Hid (Mem W (rfC y S2 G :: pool G :: fsC x S2 :: rfC was F G7 :: blk t 53 #[.int .u8 0, sE wkA, .string .empty, .int .i64 0, .slice none 0 0] :: fsC cc F :: [old W]) wr)) (fun v24 _ => more.length - (intOf v24).toNat)
          case atStart => exact ⟨0, F, G7, rfl, Nat.zero_le _, by rw [HFA.out.2]; exact Nat.le_refl _, Lib.hid (fun _ _ h => h), HM13⟩
          case round =>
            clear hlt hlt2
            obtain ⟨i, S2, G8, rfl, hi, ha, HGG, HS⟩ := hrel
            clear HM13
            by_cases hlt : i < more.length
            case pos =>
              obtain ⟨o, hx⟩ : ∃ o, more[i]? = some o := ⟨_, List.getElem?_eq_getElem hlt⟩
              have HOK := Lib.hid (HMO.out.2.1 o (List.mem_of_getElem? hx))
              have hOV := HS.out.toBlAt 6 rfl rfl rfl rfl
              obtain ⟨b, off, rfl, hcell⟩ := Rd.rec (f := opv) (k := 5) (fun _ => rfl) HMO.out.1 hx (by omega)
              have HCELL := Lib.hid (fun (v : World) (h : Bl W v) => show v.cell? ⟨b, off + i * 5, none⟩ = some (.int .u8 (o.call : Int)) ∧ v.cell? ⟨b, off + i * 5 + 1, none⟩ = some (sE o.name) ∧ v.cell? ⟨b, off + i * 5 + 2, none⟩ = some (sE o.to_) ∧ v.cell? ⟨b, off + i * 5 + 3, none⟩ = some (.int .i64 o.off) ∧ v.cell? ⟨b, off + i * 5 + 4, none⟩ = some (.slice o.A o.b.length o.c) from
                ⟨h.cellAt (hcell 0 _ rfl), h.cellAt (hcell 1 _ rfl), h.cellAt (hcell 2 _ rfl), h.cellAt (hcell 3 _ rfl), h.cellAt (hcell 4 _ rfl)⟩)
              have hlt2 : (i : Int) < (more.length : Int) := by omega
              obtain ⟨k0, k1, k2, k3, k4⟩ := HCELL.out wr hOV
              have hac := do_acts S2 o
              have HDO := Lib.hid (do_calls o (show Mem W (fsC x S2 :: rfC y S2 G8 :: pool G8 :: rfC was F G7 :: blk t 53 #[.int .u8 0, sE wkA, .string .empty, .int .i64 0, .slice none 0 0] :: fsC cc F :: [old W]) wr.drew from HS.out.drew.bring 2) HOK.out.name HOK.out.to_ HOK.out.off.2 (by have := HOK.out.len; omega) (fun u m => HOK.out.rd.bl (m.toBlAt 6 rfl rfl rfl rfl)) (by omega))
              have HDID := Lib.hid (fun (v : World) (ds : List Chunk) (m : Mem W (rfC y S2 G8 :: pool G8 :: ds) v) (hd : ∀ u, Mem W ds u → Rd u o.A (o.b.map bv)) => did_calls o m HOK.out.name HOK.out.to_ HOK.out.off.2 (by have := HOK.out.len; omega) (by have := HOK.out.len; omega) hd (by omega))
              generalize fsDo S2 o = r' at HDO HDID hac
              obtain ⟨S', e'⟩ := r'
              simp only [opV] at HDO HDID hac
              have hne : ((e' : Int) != (e' : Int)) = false := by simp
              clear hcell hx hOV
              go_upto_region 21 with (fail)
              go_cut [122] (fun t122 wx => t122 = .bool false ∧ ∃ G4 : Facts, Hid (∀ A l, G8 A l → G4 A l) ∧ Hid (Mem W (rfC y S' G4 :: pool G4 :: fsC x S' :: rfC was F G7 :: blk t 53 #[.int .u8 0, sE wkA, .string .empty, .int .i64 0, .slice none 0 0] :: fsC cc F :: [old W]) wx))
              case first =>
                go_region_held3 (fun w' => w'.cell? ⟨b, off + i * 5, none⟩ = some (.int .u8 (o.call : Int)) ∧ w'.cell? ⟨b, off + i * 5 + 1, none⟩ = some (sE o.name) ∧ w'.cell? ⟨b, off + i * 5 + 2, none⟩ = some (sE o.to_) ∧ w'.cell? ⟨b, off + i * 5 + 3, none⟩ = some (.int .i64 o.off) ∧ w'.cell? ⟨b, off + i * 5 + 4, none⟩ = some (.slice o.A o.b.length o.c))
                  (first | exact ⟨k0, k1, k2, k3, k4⟩ | exact K3 | exact K4)
                  (first
                    | (go_at_call 33; refine HDO.out.mono ?_; rintro en w3 ⟨rfl, m3⟩; have K3 := HCELL.out w3 (m3.toBlAt 6 rfl rfl rfl rfl))
                    | (go_at_call 40; refine (HDID.out _ _ (m3.away 2) (fun u m => HOK.out.rd.bl (m.toBlAt 4 rfl rfl rfl rfl))).mono ?_; rintro en w4 ⟨rfl, G4, hG4, m4⟩; have K4 := HCELL.out w4 (m4.toBlAt 6 rfl rfl rfl rfl)))
                all_goals
                  go_wp2_with fail
                  go_meet
                  case rel => exact ⟨by first | rfl | rw [hne], G4, Lib.hid hG4, Lib.hid m4⟩
              case rest =>
                obtain ⟨rfl, G4, HG4, HM4⟩ := hcut
                clear HDO HDID HS k0 k1 k2 k3 k4
                go_wp2_with fail
                go_roundw
                case rel => exact ⟨i + 1, S', G4, rfl, hlt, by have h : S'.acts ≤ S2.acts + 1 := hac; omega, Lib.hid (fun A l h => HG4.out _ _ (HGG.out _ _ h)), HM4⟩
                case measure => simp [intOf]; omega
            case neg =>
              have hlt2 : ¬ ((i : Int) < (more.length : Int)) := by omega
              have HAC2 := Lib.hid (show S2.acts < 1000000000 by omega)
              clear ha hlt
              go_wp2_with fail
              refine (fs_Fail (l := ot) (c := c4) (A := A4) (HS.out.bring 2) (fun v m => HIO.out.1.bl (m.toBlAt 6 rfl rfl rfl rfl)) HIO.out.2.1 HIO.out.2.2.1 HAC2.out).mono ?_
              rintro en w14 ⟨u, rfl, m⟩
              obtain ⟨F3, hF3⟩ : ∃ F3, F3 = fsFail S2 ot := ⟨_, rfl⟩
              have HFA3 := Lib.hid (show F3.acts < 1000000000 by rw [hF3]; show 0 < 1000000000; omega)
              have HF3 := Lib.hid hF3
              rw [← hF3] at m
              have M14 : Mem W (fsC u F3 :: fsC x S2 :: rfC y S2 G8 :: pool G8 :: rfC was F G7 :: blk t 53 #[.int .u8 0, sE wkA, .string .empty, .int .i64 0, .slice none 0 0] :: fsC cc F :: [old W]) w14 := m
              have HM14 := Lib.hid (show Mem W (rfC y S2 G8 :: pool G8 :: fsC x S2 :: fsC u F3 :: rfC was F G7 :: blk t 53 #[.int .u8 0, sE wkA, .string .empty, .int .i64 0, .slice none 0 0] :: fsC cc F :: [old W]) w14 from ((M14.bring 1).bring 3).bring 3)
              clear m M14 HS hF3
              go_upto_region 24 with (fail)
              have HM15 := Lib.hid HM14.out.drew
              obtain ⟨k0, k1, k2, k3, k4⟩ := LD.out _ 5 _ HM14.out rfl
              have HA1 := Lib.hid (alike_last HM15.out HAC2.out)
              have HRF := Lib.hid (fun (v : World) (m : Mem W (rfC y S2 G8 :: pool G8 :: fsC x S2 :: fsC u F3 :: rfC was F G7 :: blk t 53 #[.int .u8 0, sE wkA, .string .empty, .int .i64 0, .slice none 0 0] :: fsC cc F :: [old W]) v) => ref_Fail (l := ot) (c := c4) (A := A4) m (fun v m => HIO.out.1.bl (m.toBlAt 5 rfl rfl rfl rfl)) HIO.out.2.1 (by have := HIO.out.2.2.2; omega) HIO.out.2.2.1 HAC2.out)
              rw [← HF3.out] at HRF
              have HA2 := Lib.hid (fun (v : World) (y2 : Nat) (G9 : Facts) (m : Mem W (rfC y2 F3 G9 :: rfC y S2 G9 :: pool G9 :: fsC x S2 :: fsC u F3 :: rfC was F G7 :: blk t 53 #[.int .u8 0, sE wkA, .string .empty, .int .i64 0, .slice none 0 0] :: fsC cc F :: [old W]) v) => alike_last (show Mem W (rfC y2 F3 G9 :: pool G9 :: fsC u F3 :: rfC y S2 G9 :: fsC x S2 :: rfC was F G7 :: blk t 53 #[.int .u8 0, sE wkA, .string .empty, .int .i64 0, .slice none 0 0] :: fsC cc F :: [old W]) v from ((m.bring 4).bring 3).bring 2) HFA3.out)
              have HA3 := Lib.hid (fun (v : World) (y2 : Nat) (G9 : Facts) (hg : ∀ A l, G7 A l → G9 A l) (m : Mem W (rfC y2 F3 G9 :: pool G9 :: fsC u F3 :: rfC y S2 G9 :: fsC x S2 :: rfC was F G7 :: blk t 53 #[.int .u8 0, sE wkA, .string .empty, .int .i64 0, .slice none 0 0] :: fsC cc F :: [old W]) v) => alike_last (show Mem W (rfC was F G9 :: pool G9 :: fsC cc F :: rfC y2 F3 G9 :: fsC u F3 :: rfC y S2 G9 :: fsC x S2 :: blk t 53 #[.int .u8 0, sE wkA, .string .empty, .int .i64 0, .slice none 0 0] :: [old W]) v from ((((show Mem W (rfC was F G7 :: rfC y2 F3 G9 :: pool G9 :: fsC u F3 :: rfC y S2 G9 :: fsC x S2 :: blk t 53 #[.int .u8 0, sE wkA, .string .empty, .int .i64 0, .slice none 0 0] :: fsC cc F :: [old W]) v from m.bring 5).rfMono hg).bring 7).bring 3).bring 2) HFA.out.1)
              go_region_held3 (fun w' => w'.cell? ⟨t, 0, none⟩ = some (.int .u8 0) ∧ w'.cell? ⟨t, 1, none⟩ = some (sE wkA) ∧ w'.cell? ⟨t, 2, none⟩ = some (.string .empty) ∧ w'.cell? ⟨t, 3, none⟩ = some (.int .i64 0) ∧ w'.cell? ⟨t, 4, none⟩ = some (.slice none 0 0))
                (first | exact ⟨k0, k1, k2, k3, k4⟩ | exact K16 | exact K17 | exact K18 | exact K19 | exact K20)
                (first
                  | (go_at_call 41; with_reducible refine HA1.out.mono ?_; rintro en w16 ⟨rfl, m16⟩; have K16 := LD.out _ 5 w16 m16 rfl)
                  | (go_at_call 43; with_reducible refine (HRF.out _ m16).mono ?_; rintro en w17 ⟨y2, rfl, G9, hG9, m17⟩; have K17 := LD.out _ 6 w17 m17 rfl)
                  | (go_at_call 41; with_reducible refine (HA2.out _ _ _ m17).mono ?_; rintro en w18 ⟨rfl, m18⟩; have K18 := LD.out _ 6 w18 m18 rfl)
                  | (go_at_call 41; with_reducible refine (HA3.out _ _ _ (fun A l h => hG9 _ _ (HGG.out _ _ h)) m18).mono ?_; rintro en w19 ⟨rfl, m19⟩; have K19 := LD.out _ 7 w19 m19 rfl)
                  | (go_at_call 15; with_reducible refine (works_calls m19).mono ?_; rintro en w20 ⟨rfl, m20⟩; have K20 := LD.out _ 7 w20 m20 rfl))
              all_goals
                go_wp2_with fail
                go_ret
                exact RetTrue.mk rfl (m20.toBlAt 8 rfl rfl rfl rfl)
end Go.Proofs.Ythphonkiolmkiaa
