/- Texts of the claim SimfsFails, part 7: SimDead, SimLb, SimLc, SimLd, Lib5, SimOp. -/
import Derived.Test.YthphonkiolmkiaaGSimfsFails6
import Derived.Test.YthphonkiolmkiaaGSimfsFails1
import Derived.Deep.Slices
import Derived.Deep.Fields
import Derived.ChangeSame
import Derived.SizedLaws
import Derived.Test.YthphonkiolmkiaaGSimfsFails4
/- Layer 14, the law SimfsDead walked. -/
set_option linter.unusedVariables false
set_option linter.unusedSimpArgs false
namespace Go.Proofs.Ythphonkiolmkiaa
open Go.RowKit
set_option maxRecDepth 100000
set_option maxHeartbeats 8000000

theorem fsRead_len (S : Fs) (s : ByteArray) : (fsRead S s 0 1048576).1.length ≤ 1048576 := by
  unfold fsRead
  refine ite_ind (P := fun r : List UInt8 × Nat => r.1.length ≤ 1048576) (fun _ => Nat.zero_le _) (fun _ => ite_ind (P := fun r : List UInt8 × Nat => r.1.length ≤ 1048576) (fun _ => Nat.zero_le _) (fun _ => ?_))
  show (List.take (1048576 : Int).toNat _).length ≤ 1048576
  rw [List.length_take]
  exact Nat.min_le_left _ _
theorem dead_calls (room : Int) (A1 A3 A4 : Option Addr) (c1 c3 c4 : Nat) (l more : List OpA) (x : OpA) (cu : List Int) (W : World) (hl : l.length ≤ 140737488351232) (hm : more.length ≤ 140737488351232) (r1 : Rd W A1 (l.flatMap opv)) (r3 : Rd W A3 (more.flatMap opv)) (r4 : Rd W A4 (cu.map iE)) (hcu : cu.length ≤ c4) (hi : ∀ a ∈ cu, -9223372036854775808 ≤ a ∧ a ≤ 9223372036854775807) (ho : ∀ o ∈ l, OpOk W o) (hom : ∀ o ∈ more, OpOk W o) (hx : OpOk W x) (hroom : -9223372036854775808 ≤ room ∧ room ≤ 9223372036854775807) :
    Calls Try.prog 9 #[.int .i64 room, .slice A1 l.length c1, opV x, .slice A3 more.length c3, .slice A4 cu.length c4] W (RetTrue W) := by
  simp only [opV]
  have HR1 := Lib.hid r1
  have HR3 := Lib.hid r3
  have HR4 := Lib.hid r4
  have HI := Lib.hid (And.intro hcu hi)
  have HO := Lib.hid (And.intro ho (And.intro hom hx))
  have HM0 := Lib.hid ((Mem.start W).alloc (.cells #[.int .u8 (x.call : Int), sE x.name, sE x.to_, .int .i64 x.off, .slice x.A x.b.length x.c] 53))
  clear r1 r3 r4 hcu hi ho hom hx
  go_enter Try.func9, Try.ntmps9
  go_upto_region 1 with (fail)
  generalize W.alloc (.cells #[.int .u8 (x.call : Int), sE x.name, sE x.to_, .int .i64 x.off, .slice x.A x.b.length x.c] 53) = w0 at HM0 ⊢
  generalize W.heap.size = g at HM0 ⊢
  have HB := Lib.hid (show blk g 53 #[.int .u8 (x.call : Int), sE x.name, sE x.to_, .int .i64 x.off, .slice x.A x.b.length x.c] = blk g 53 #[.int .u8 (x.call : Int), sE x.name, sE x.to_, .int .i64 x.off, .slice x.A x.b.length x.c] from rfl)
  go_wp2_with fail
  refine (fs_New room HM0.out).mono ?_
  rintro en w1 (⟨h1, rfl, m⟩ | ⟨h1, q, rfl, m⟩)
  · have HM1 := Lib.hid m
    clear m HM0
    go_wp2_with fail
    refine (works_calls HM1.out).mono ?_
    rintro en w2 ⟨rfl, m⟩
    have HM2 := Lib.hid m
    clear m HM1
    go_wp2_with fail
    go_ret
    exact RetTrue.mk rfl (HM2.out.toBlAt 1 rfl rfl rfl rfl)
  · have HM1 := Lib.hid m
    clear m HM0 h1
    generalize room.toNat = rm at HM1
    go_wp2_with fail
    refine (great_calls A1 l c1 w1 hl (HR1.out.bl (HM1.out.toBlAt 2 rfl rfl rfl rfl)) (fun o h => (HO.out.1 o h).bl (HM1.out.toBlAt 2 rfl rfl rfl rfl))).mono ?_
    rintro en v2 ⟨g1, rfl, hw, hg⟩
    rw [hw]
    clear hw v2
    cases g1 with
    | true =>
      clear hg
      go_wp2_with fail
      refine (works_calls HM1.out).mono ?_
      rintro en w2 ⟨rfl, m⟩
      have HM2 := Lib.hid m
      clear m HM1
      go_wp2_with fail
      go_ret
      exact RetTrue.mk rfl (HM2.out.toBlAt 2 rfl rfl rfl rfl)
    | false =>
      have hg2 := hg rfl
      clear hg
      go_wp2_with fail
      refine (great_calls A3 more c3 w1 hm (HR3.out.bl (HM1.out.toBlAt 2 rfl rfl rfl rfl)) (fun o h => (HO.out.2.1 o h).bl (HM1.out.toBlAt 2 rfl rfl rfl rfl))).mono ?_
      rintro en v2 ⟨g1, rfl, hw, hg⟩
      rw [hw]
      clear hw v2
      cases g1 with
      | true =>
        clear hg
        go_wp2_with fail
        refine (works_calls HM1.out).mono ?_
        rintro en w2 ⟨rfl, m⟩
        have HM2 := Lib.hid m
        clear m HM1
        go_wp2_with fail
        go_ret
        exact RetTrue.mk rfl (HM2.out.toBlAt 2 rfl rfl rfl rfl)
      | false =>
        have hg3 := hg rfl
        clear hg
        go_wp2_with fail
        go_loopw [13] (fun v13 wr => ∃ (i : Nat) (S : Fs), v13 = .int .i64 i ∧ i ≤ l.length ∧ S.acts ≤ i ∧ Hid (Mem W (fsC q S :: blk g 53 #[.int .u8 (x.call : Int), sE x.name, sE x.to_, .int .i64 x.off, .slice x.A x.b.length x.c] :: [old W]) wr)) (fun v13 _ => l.length - (intOf v13).toNat)
        case atStart => exact ⟨0, newFs rm, rfl, Nat.zero_le _, Nat.le_refl _, HM1⟩
        case round =>
          obtain ⟨i, S, rfl, hi, ha, HS⟩ := hrel
          clear HM1
          by_cases hlt : i < l.length
          case pos =>
            obtain ⟨o, hx⟩ : ∃ o, l[i]? = some o := ⟨_, List.getElem?_eq_getElem hlt⟩
            have HOK := Lib.hid (HO.out.1 o (List.mem_of_getElem? hx))
            have hOV := HS.out.toBlAt 2 rfl rfl rfl rfl
            obtain ⟨bb, off, rfl, hcell⟩ := Rd.rec (f := opv) (k := 5) (fun _ => rfl) HR1.out hx (by omega)
            have HCELL := Lib.hid (fun (v : World) (h : Bl W v) (r : Nat) (x : Value) (hx : (opv o)[r]? = some x) => h.cellAt (hcell r x hx))
            have hlt2 : (i : Int) < (l.length : Int) := by omega
            have k0 : wr.cell? ⟨bb, off + i * 5, none⟩ = some (.int .u8 (o.call : Int)) := HCELL.out wr hOV 0 _ rfl
            have k1 : wr.cell? ⟨bb, off + i * 5 + 1, none⟩ = some (sE o.name) := HCELL.out wr hOV 1 _ rfl
            have k2 : wr.cell? ⟨bb, off + i * 5 + 2, none⟩ = some (sE o.to_) := HCELL.out wr hOV 2 _ rfl
            have k3 : wr.cell? ⟨bb, off + i * 5 + 3, none⟩ = some (.int .i64 o.off) := HCELL.out wr hOV 3 _ rfl
            have k4 : wr.cell? ⟨bb, off + i * 5 + 4, none⟩ = some (.slice o.A o.b.length o.c) := HCELL.out wr hOV 4 _ rfl
            have HDO := Lib.hid (do_calls o HS.out HOK.out.name HOK.out.to_ HOK.out.off.2 (by have := HOK.out.len; omega) (fun u m => HOK.out.rd.bl (m.toBlAt 2 rfl rfl rfl rfl)) (by omega))
            have hda := do_acts S o
            generalize fsDo S o = r' at HDO hda
            obtain ⟨S', e'⟩ := r'
            have hda : S'.acts ≤ S.acts + 1 := hda
            simp only [opV] at HDO
            clear hcell hx hOV
            go_wp2_with fail
            refine HDO.out.mono ?_
            rintro en w6 ⟨rfl, m⟩
            have HM6 := Lib.hid m
            clear m HS HDO k0 k1 k2 k3 k4
            go_wp2_with fail
            go_roundw
            case rel => exact ⟨i + 1, S', rfl, hlt, by omega, HM6⟩
            case measure => simp [intOf]; omega
          case neg =>
            have hlt2 : ¬ ((i : Int) < (l.length : Int)) := by omega
            have HARM := Lib.hid (fs_Arm 1 HS.out (by omega))
            have ha1 : (fsArm S 1).1.acts ≤ S.acts := by
              unfold fsArm
              exact ite_ind (P := fun r : Fs × Nat => r.1.acts ≤ S.acts) (fun _ => Nat.le_refl _) (fun _ => ite_ind (P := fun r : Fs × Nat => r.1.acts ≤ S.acts) (fun _ => Nat.le_refl _) (fun _ => Nat.le_refl _))
            generalize fsArm S 1 = r1 at HARM ha1
            obtain ⟨S1, e1⟩ := r1
            have ha1 : S1.acts ≤ S.acts := ha1
            go_wp2_with fail
            refine HARM.out.mono ?_
            rintro en w6 ⟨rfl, m⟩
            have HM6 := Lib.hid (show Mem W (fsC q S1 :: blk g 53 #[.int .u8 (x.call : Int), sE x.name, sE x.to_, .int .i64 x.off, .slice x.A x.b.length x.c] :: [old W]) w6 from m)
            clear m HS HARM
            have hxo := HO.out.2.2
            have k0 : w6.cell? ⟨g, 0, none⟩ = some (.int .u8 (x.call : Int)) := (HM6.out.ob 1 rfl).cell 0 rfl
            have k1 : w6.cell? ⟨g, 1, none⟩ = some (sE x.name) := (HM6.out.ob 1 rfl).cell 1 rfl
            have k2 : w6.cell? ⟨g, 2, none⟩ = some (sE x.to_) := (HM6.out.ob 1 rfl).cell 2 rfl
            have k3 : w6.cell? ⟨g, 3, none⟩ = some (.int .i64 x.off) := (HM6.out.ob 1 rfl).cell 3 rfl
            have k4 : w6.cell? ⟨g, 4, none⟩ = some (.slice x.A x.b.length x.c) := (HM6.out.ob 1 rfl).cell 4 rfl
            have HDO := Lib.hid (do_calls x HM6.out hxo.name hxo.to_ hxo.off.2 (by have := hxo.len; omega) (fun u m => hxo.rd.bl (m.toBlAt 2 rfl rfl rfl rfl)) (by omega))
            have hda := do_acts S1 x
            generalize fsDo S1 x = r2 at HDO hda
            obtain ⟨S2, e2⟩ := r2
            have hda : S2.acts ≤ S1.acts + 1 := hda
            simp only [opV] at HDO
            clear hxo
            go_wp2_with fail
            refine HDO.out.mono ?_
            rintro en w7 ⟨rfl, m⟩
            have HM7 := Lib.hid (show Mem W (fsC q S2 :: blk g 53 #[.int .u8 (x.call : Int), sE x.name, sE x.to_, .int .i64 x.off, .slice x.A x.b.length x.c] :: [old W]) w7 from m)
            clear m HM6 HDO k0 k1 k2 k3 k4
            go_wp2_with fail
            refine (fs_Dead HM7.out).mono ?_
            rintro en w8 ⟨rfl, m⟩
            have HM8 := Lib.hid m
            clear m HM7
            cases hd : S2.dead with
            | false =>
              go_wp2_with fail
              refine (works_calls HM8.out).mono ?_
              rintro en w9 ⟨rfl, m⟩
              have HM9 := Lib.hid m
              clear m HM8
              go_wp2_with fail
              go_ret
              exact RetTrue.mk rfl (HM9.out.toBlAt 2 rfl rfl rfl rfl)
            | true =>
              have HD := Lib.hid hd
              clear hd
              go_wp2_with fail
              refine (fs_Acts HM8.out).mono ?_
              rintro en w9 ⟨rfl, m⟩
              have HM9 := Lib.hid m
              clear m HM8
              go_wp2_with fail
              refine (fs_Fail (l := cu) (c := c4) (A := A4) HM9.out (fun v m => HR4.out.bl (m.toBlAt 2 rfl rfl rfl rfl)) HI.out.1 HI.out.2 (by omega)).mono ?_
              rintro en w10 ⟨z1, rfl, m⟩
              obtain ⟨F, hF⟩ : ∃ F, F = fsFail S2 cu := ⟨_, rfl⟩
              have HF := Lib.hid hF
              rw [← hF] at m
              have HM10 := Lib.hid m
              clear m HM9 hF
              go_wp2_with fail
              go_loopw [17] (fun v17 wr => ∃ (i : Nat), v17 = .int .i64 i ∧ i ≤ more.length ∧ Hid (Mem W (fsC z1 F :: fsC q S2 :: blk g 53 #[.int .u8 (x.call : Int), sE x.name, sE x.to_, .int .i64 x.off, .slice x.A x.b.length x.c] :: [old W]) wr)) (fun v17 _ => more.length - (intOf v17).toNat)
              case atStart => exact ⟨0, rfl, Nat.zero_le _, HM10⟩
              case round =>
                clear hlt hlt2
                obtain ⟨i, rfl, hi, HS⟩ := hrel
                clear HM10
                by_cases hlt : i < more.length
                case pos =>
                  obtain ⟨o, hx⟩ : ∃ o, more[i]? = some o := ⟨_, List.getElem?_eq_getElem hlt⟩
                  have HOK := Lib.hid (HO.out.2.1 o (List.mem_of_getElem? hx))
                  have hOV := HS.out.toBlAt 3 rfl rfl rfl rfl
                  obtain ⟨bb, off, rfl, hcell⟩ := Rd.rec (f := opv) (k := 5) (fun _ => rfl) HR3.out hx (by omega)
                  have HCELL := Lib.hid (fun (v : World) (h : Bl W v) (r : Nat) (x : Value) (hx : (opv o)[r]? = some x) => h.cellAt (hcell r x hx))
                  have hlt2 : (i : Int) < (more.length : Int) := by omega
                  have k0 : wr.cell? ⟨bb, off + i * 5, none⟩ = some (.int .u8 (o.call : Int)) := HCELL.out wr hOV 0 _ rfl
                  have k1 : wr.cell? ⟨bb, off + i * 5 + 1, none⟩ = some (sE o.name) := HCELL.out wr hOV 1 _ rfl
                  have k2 : wr.cell? ⟨bb, off + i * 5 + 2, none⟩ = some (sE o.to_) := HCELL.out wr hOV 2 _ rfl
                  have k3 : wr.cell? ⟨bb, off + i * 5 + 3, none⟩ = some (.int .i64 o.off) := HCELL.out wr hOV 3 _ rfl
                  have k4 : wr.cell? ⟨bb, off + i * 5 + 4, none⟩ = some (.slice o.A o.b.length o.c) := HCELL.out wr hOV 4 _ rfl
                  have HDO := Lib.hid (do_calls o (HS.out.bring 1) HOK.out.name HOK.out.to_ HOK.out.off.2 (by have := HOK.out.len; omega) (fun u m => HOK.out.rd.bl (m.toBlAt 3 rfl rfl rfl rfl)) (by omega))
                  rw [do_dead HD.out] at HDO
                  simp only [opV] at HDO
                  clear hcell hx hOV
                  by_cases h8 : o.call ≤ 8
                  · have i8 : (o.call : Int) ≤ 8 := by omega
                    rw [if_pos h8] at HDO
                    clear h8
                    go_wp2_with fail
                    refine HDO.out.mono ?_
                    rintro en w11 ⟨rfl, m⟩
                    have HM11 := Lib.hid (m.bring 1)
                    clear m HS HDO k0 k1 k2 k3 k4
                    go_wp2_with fail
                    go_roundw
                    case rel => exact ⟨i + 1, rfl, hlt, HM11⟩
                    case measure => simp [intOf]; omega
                  · have i8 : ¬ ((o.call : Int) ≤ 8) := by omega
                    clear h8 HDO
                    go_wp2_with fail
                    go_roundw
                    case rel => exact ⟨i + 1, rfl, hlt, HS⟩
                    case measure => simp [intOf]; omega
                case neg =>
                  have hlt2 : ¬ ((i : Int) < (more.length : Int)) := by omega
                  go_wp2_with fail
                  refine (fs_Fail (l := cu) (c := c4) (A := A4) (HS.out.bring 1) (fun v m => HR4.out.bl (m.toBlAt 3 rfl rfl rfl rfl)) HI.out.1 HI.out.2 (by omega)).mono ?_
                  rintro en w11 ⟨z2, rfl, m⟩
                  rw [← HF.out] at m
                  have HM11 := Lib.hid m
                  clear m HS hlt hlt2
                  go_wp2_with fail
                  refine (fs_Names HM11.out).mono ?_
                  rintro en w12 ⟨A20, c20, rfl, m⟩
                  have HFN := Lib.hid (show (fsNames F).length ≤ 64 by
                    have h := HM11.out.fsOk.seen.len
                    unfold fsNames
                    split
                    · exact Nat.zero_le _
                    · simpa [dNames] using h)
                  have HM12 := Lib.hid m
                  clear m HM11
                  go_wp2_with fail
                  refine (fs_Acts (HM12.out.bring 2)).mono ?_
                  rintro en w13 ⟨rfl, m⟩
                  have HM13 := Lib.hid m
                  clear m HM12
                  go_wp2_with fail
                  refine (fs_Used HM13.out).mono ?_
                  rintro en w14 ⟨rfl, m⟩
                  rw [show fsUsed S2 = 0 by unfold fsUsed; rw [HD.out]; rfl]
                  have HM14 := Lib.hid m
                  clear m HM13
                  go_wp2_with fail
                  refine (fs_Room HM14.out).mono ?_
                  rintro en w15 ⟨rfl, m⟩
                  rw [show fsRoom S2 = 0 by unfold fsRoom; rw [HD.out]; rfl]
                  have HM15 := Lib.hid m
                  clear m HM14
                  have HN := Lib.hid (fs_Names HM15.out)
                  rw [show fsNames S2 = [] by unfold fsNames; rw [HD.out]; rfl] at HN
                  go_wp2_with fail
                  refine HN.out.mono ?_
                  rintro en w16 ⟨A16, c16, rfl, m⟩
                  have HM16 := Lib.hid m.drop
                  clear m HM15 HN
                  go_wp2_with fail
                  refine (fs_Names (HM16.out.bring 3)).mono ?_
                  rintro en w17 ⟨A17, c17, rfl, m⟩
                  have HM17 := Lib.hid m
                  clear m HM16
                  go_wp2_with fail
                  refine (texts_calls A17 A20 c17 c20 (fsNames F) (fsNames F) w17 (by have := HFN.out; omega) (HM17.out.app 0 rfl).rd.1 (HM17.out.app 3 rfl).rd.1).mono ?_
                  rintro en v18 ⟨rfl, k, rfl⟩
                  have HM18 := Lib.hid ((HM17.out.drewN k).drop.bring 2)
                  clear HM17
                  generalize w17.drewN k = w18 at HM18 ⊢
                  simp only [decide_true]
                  go_wp2_with fail
                  go_loopw [21] (fun v21 wr => ∃ (i : Nat), v21 = .int .i64 i ∧ i ≤ (fsNames F).length ∧ Hid (Mem W (row 9 1 (.slice A20 (fsNames F).length c20) (fsNames F).length ((fsNames F).map sE) :: fsC z1 F :: fsC q S2 :: fsC z2 F :: blk g 53 #[.int .u8 (x.call : Int), sE x.name, sE x.to_, .int .i64 x.off, .slice x.A x.b.length x.c] :: [old W]) wr)) (fun v21 _ => (fsNames F).length - (intOf v21).toNat)
                  case atStart => exact ⟨0, rfl, Nat.zero_le _, HM18⟩
                  case round =>
                    obtain ⟨i, rfl, hi, HS⟩ := hrel
                    clear HM18
                    by_cases hlt : i < (fsNames F).length
                    case pos =>
                      obtain ⟨s, hs⟩ : ∃ s, (fsNames F)[i]? = some s := ⟨_, List.getElem?_eq_getElem hlt⟩
                      obtain ⟨b1, o1, rfl, hcl⟩ := Rd.get (HS.out.app 0 rfl).rd.1 hs
                      have hlt2 : (i : Int) < ((fsNames F).length : Int) := by omega
                      have HLEN := Lib.hid (fsRead_len F s)
                      have HS0 := Lib.hid hs
                      have h64 : ((fsNames F).length : Int) ≤ 64 := by have := HFN.out; omega
                      have HRA := Lib.hid (fs_Read s 0 1048576 (HS.out.bring 1))
                      have HRB := Lib.hid (fun (v : World) (ds : List Chunk) (h : Mem W (fsC z2 F :: ds) v) => fs_Read s 0 1048576 h)
                      generalize fsRead F s 0 1048576 = rd at HRA HRB HLEN
                      obtain ⟨xs, er⟩ := rd
                      clear hs
                      go_wp2_with fail
                      refine HRA.out.mono ?_
                      rintro en w20 ⟨B1, d1, rfl, m⟩
                      have HM20 := Lib.hid m
                      obtain ⟨b2, o2, e2, hcl2⟩ := Rd.get (m.app 2 rfl).rd.1 HS0.out
                      cases e2
                      clear m HS HRA hcl
                      go_wp2_with fail
                      refine (HRB.out _ _ (HM20.out.bring 4)).mono ?_
                      rintro en w21 ⟨B2, d2, rfl, m⟩
                      have HM21 := Lib.hid m
                      clear m HM20 HRB hcl2
                      go_wp2_with fail
                      refine (same_calls B1 B2 d1 d2 xs xs w21 (by have h : xs.length ≤ 1048576 := HLEN.out; omega) (HM21.out.app 2 rfl).rd.1 (HM21.out.app 0 rfl).rd.1).mono ?_
                      rintro en v22 ⟨rfl, k, rfl⟩
                      have HM22 := Lib.hid ((((((HM21.out.drewN k).drop.bring 1).drop).bring 3).bring 2).bring 3)
                      clear HM21
                      generalize w21.drewN k = w22 at HM22 ⊢
                      simp only [decide_true]
                      go_wp2_with fail
                      go_roundw
                      case rel => exact ⟨i + 1, rfl, hlt, HM22⟩
                      case measure => simp [intOf]; omega
                    case neg =>
                      have hlt2 : ¬ ((i : Int) < ((fsNames F).length : Int)) := by omega
                      go_wp2_with fail
                      refine (works_calls HS.out).mono ?_
                      rintro en w20 ⟨rfl, m⟩
                      have HM20 := Lib.hid m
                      clear m HS
                      go_wp2_with fail
                      go_ret
                      exact RetTrue.mk rfl (HM20.out.toBlAt 5 rfl rfl rfl rfl)
end Go.Proofs.Ythphonkiolmkiaa
/- Layer 14, the laws: do both disks tell the same? -/
set_option linter.unusedVariables false
set_option linter.unusedSimpArgs false
namespace Go.Proofs.Ythphonkiolmkiaa
open Go.RowKit
set_option maxRecDepth 100000
set_option maxHeartbeats 8000000

theorem Mem.rfOk {w0 w : World} {cs : List Chunk} {q : Nat} {S : Fs} {G : Facts} (h : Mem w0 (rfC q S G :: cs) w) : FsOk S := by
  obtain ⟨_, _, ho, _⟩ := h.rf
  exact ho
theorem fsRead_len5 (S : Fs) (s : ByteArray) (k : Int) : (fsRead S s k 5).1.length ≤ 5 := by
  unfold fsRead
  split
  · simp
  · split
    · simp
    · simp only [List.length_take]; omega
theorem fsNames_len {S : Fs} (h : FsOk S) : (fsNames S).length ≤ 64 := by
  have h := h.seen.len
  unfold fsNames
  split
  · exact Nat.zero_le _
  · simpa [dNames] using h
section
variable {w0 w : World} {cs : List Chunk} {f g : Nat} {S : Fs} {G : Facts}
theorem files_calls (A : Option Addr) (c : Nat) (ns : List ByteArray) (h : Mem w0 (rfC g S G :: pool G :: fsC f S :: cs) w) (ha : S.acts < 1000000000) (hn : ns.length ≤ 64) (hA : ∀ v, Mem w0 cs v → Rd v A (ns.map sE)) :
    Calls Try.prog 78 #[pE f, pE g, .slice A ns.length c] w (fun en w' => en = .returned (.bool true) ∧ Mem w0 (rfC g S G :: pool G :: fsC f S :: cs) w') := by
  have HM := Lib.hid h
  have HA := Lib.hid hA
  have HAC := Lib.hid ha
  clear h hA ha
  go_enter Try.func78, Try.ntmps78
  go_wp2_with fail
  go_loopw [7] (fun v7 wr => ∃ (i : Nat), v7 = .int .i64 i ∧ i ≤ ns.length ∧ Hid (Mem w0 (rfC g S G :: pool G :: fsC f S :: cs) wr)) (fun v7 _ => ns.length - (intOf v7).toNat)
  case atStart => exact ⟨0, rfl, Nat.zero_le _, HM⟩
  case round =>
    obtain ⟨i, rfl, hi, HS⟩ := hrel
    clear HM
    by_cases hlt : i < ns.length
    case pos =>
      obtain ⟨s, hs⟩ : ∃ s, ns[i]? = some s := ⟨_, List.getElem?_eq_getElem hlt⟩
      obtain ⟨b1, o1, rfl, hcl⟩ := Rd.get (HA.out _ HS.out.drop.drop.drop) hs
      have hlt2 : (i : Int) < (ns.length : Int) := by omega
      have h64 : (ns.length : Int) ≤ 64 := by omega
      have HLEN := Lib.hid (fsRead_len S s)
      have HS0 := Lib.hid hs
      have HRA := Lib.hid (fs_Read s 0 1048576 (HS.out.bring 2))
      have HRB := Lib.hid (fun (v : World) (ds : List Chunk) (h : Mem w0 (rfC g S G :: pool G :: ds) v) => ref_Read s 0 1048576 h HAC.out)
      generalize fsRead S s 0 1048576 = rd at HRA HRB HLEN
      obtain ⟨xs, er⟩ := rd
      clear hs
      go_wp2_with fail
      refine HRA.out.mono ?_
      rintro en w2 ⟨B1, d1, rfl, m⟩
      have HM2 := Lib.hid ((m.bring 3).bring 3)
      clear m HS HRA hcl
      obtain ⟨b2, o2, e2, hcl2⟩ := Rd.get (HA.out _ HM2.out.drop.drop.drop.drop) HS0.out
      cases e2
      go_wp2_with fail
      refine (HRB.out _ _ HM2.out).mono ?_
      rintro en w3 ⟨B2, d2, rfl, m⟩
      have HM3 := Lib.hid m
      clear m HM2 HRB hcl2
      go_wp2_with fail
      refine (same_calls B1 B2 d1 d2 xs xs w3 (by have h : xs.length ≤ 1048576 := HLEN.out; omega) (HM3.out.app 3 rfl).rd.1 (HM3.out.app 0 rfl).rd.1).mono ?_
      rintro en v4 ⟨rfl, k, rfl⟩
      have HM4 := Lib.hid ((HM3.out.drewN k).drop.bring 2).drop
      clear HM3
      generalize w3.drewN k = w4 at HM4 ⊢
      simp only [decide_true]
      go_wp2_with fail
      go_roundw
      case rel => exact ⟨i + 1, rfl, hlt, HM4⟩
      case measure => simp [intOf]; omega
    case neg =>
      have hlt2 : ¬ ((i : Int) < (ns.length : Int)) := by omega
      go_wp2_with fail
      go_ret
      exact ⟨rfl, HS.out⟩
theorem ref_UsedC (h : Mem w0 (rfC g S G :: pool G :: cs) w) (ha : S.acts < 1000000000) : Calls Try.prog 72 #[pE g] w (fun en w' => en = .returned (nE (fsUsed S)) ∧ Mem w0 (rfC g S G :: pool G :: cs) w') := by
  obtain ⟨R, hf, ho, M⟩ := h.rf
  exact (ref_Used M hf ho ha).mono (fun en w' hh => ⟨hh.1, hh.2.unrf hf ho⟩)
theorem alike_calls (o : OpA) (h : Mem w0 (rfC g S G :: pool G :: fsC f S :: cs) w) (ha : S.acts < 1000000000) :
    Calls Try.prog 41 #[pE f, pE g, opV o] w (fun en w' => en = .returned (.bool true) ∧ Mem w0 (rfC g S G :: pool G :: fsC f S :: cs) w') := by
  obtain ⟨call, name, to_, off, A, b, c⟩ := o
  have HM := Lib.hid ((h.alloc (.cells #[.int .u8 (call : Int), sE name, sE to_, .int .i64 off, .slice A b.length c] 53)).away 3)
  have HAC := Lib.hid ha
  have HNL := Lib.hid (fsNames_len h.rfOk)
  clear h ha
  simp only [opV]
  go_enter Try.func41, Try.ntmps41
  go_upto_region 1 with (fail)
  generalize w.alloc (.cells #[.int .u8 (call : Int), sE name, sE to_, .int .i64 off, .slice A b.length c] 53) = v at HM ⊢
  generalize w.heap.size = q at HM ⊢
  go_wp2_with fail
  refine (ref_Names HM.out).mono ?_
  rintro en w1 ⟨A1, c1, rfl, m⟩
  have HM1 := Lib.hid (m.away 4)
  clear m HM
  go_wp2_with fail
  refine (fs_Names (HM1.out.bring 2)).mono ?_
  rintro en w2 ⟨A2, c2, rfl, m⟩
  have HM2 := Lib.hid m
  clear m HM1
  go_wp2_with fail
  refine (texts_calls A2 A1 c2 c1 (fsNames S) (fsNames S) w2 (by have := HNL.out; omega) (HM2.out.app 0 rfl).rd.1 (HM2.out.app 5 rfl).rd.1).mono ?_
  rintro en v3 ⟨rfl, k, rfl⟩
  have HM3 := Lib.hid (HM2.out.drewN k).drop
  clear HM2
  generalize w2.drewN k = w3 at HM3 ⊢
  simp only [decide_true]
  go_wp2_with fail
  refine (fs_Used HM3.out).mono ?_
  rintro en w4 ⟨rfl, m⟩
  have HM4 := Lib.hid (m.away 2)
  clear m HM3
  go_wp2_with fail
  refine (ref_UsedC HM4.out HAC.out).mono ?_
  rintro en w5 ⟨rfl, m⟩
  have HM5 := Lib.hid m
  clear m HM4
  go_wp2_with fail
  refine (fs_Room (HM5.out.bring 2)).mono ?_
  rintro en w6 ⟨rfl, m⟩
  have HM6 := Lib.hid (m.away 2)
  clear m HM5
  go_wp2_with fail
  refine (ref_Room HM6.out).mono ?_
  rintro en w7 ⟨rfl, rfl⟩
  go_wp2_with fail
  refine (fs_Acts (HM6.out.bring 2)).mono ?_
  rintro en w7 ⟨rfl, m⟩
  have HM7 := Lib.hid (m.away 2)
  clear m HM6
  go_wp2_with fail
  refine (ref_Acts HM7.out).mono ?_
  rintro en w8 ⟨rfl, rfl⟩
  go_wp2_with fail
  refine (fs_Dead (HM7.out.bring 2)).mono ?_
  rintro en w8 ⟨rfl, m⟩
  have HM8 := Lib.hid (m.away 2)
  clear m HM7
  go_wp2_with fail
  refine (ref_Dead HM8.out).mono ?_
  rintro en w9 ⟨rfl, rfl⟩
  have k1 : w9.cell? ⟨q, 1, none⟩ = some (sE name) := (HM8.out.ob 3 rfl).cell 1 rfl
  have k3 : w9.cell? ⟨q, 3, none⟩ = some (.int .i64 off) := (HM8.out.ob 3 rfl).cell 3 rfl
  have HRA := Lib.hid (fs_Read name off 5 (HM8.out.bring 2))
  have HRB := Lib.hid (fun (v : World) (ds : List Chunk) (h : Mem w0 (rfC g S G :: pool G :: ds) v) => ref_Read name off 5 h HAC.out)
  have HLEN := Lib.hid (fsRead_len5 S name off)
  generalize fsRead S name off 5 = rd at HRA HRB HLEN
  obtain ⟨xs, er⟩ := rd
  go_wp2_with fail
  refine HRA.out.mono ?_
  rintro en w10 ⟨B1, d1, rfl, m⟩
  have HM10 := Lib.hid ((m.bring 3).bring 3)
  clear m HM8 HRA k1 k3
  have k1 : w10.cell? ⟨q, 1, none⟩ = some (sE name) := (HM10.out.ob 4 rfl).cell 1 rfl
  have k3 : w10.cell? ⟨q, 3, none⟩ = some (.int .i64 off) := (HM10.out.ob 4 rfl).cell 3 rfl
  go_wp2_with fail
  refine (HRB.out _ _ HM10.out).mono ?_
  rintro en w11 ⟨B2, d2, rfl, m⟩
  have HM11 := Lib.hid m
  clear m HM10 HRB k1 k3
  have k1 : w11.cell? ⟨q, 1, none⟩ = some (sE name) := (HM11.out.ob 5 rfl).cell 1 rfl
  go_wp2_with fail
  refine (fs_Size name (HM11.out.bring 4)).mono ?_
  rintro en w12 ⟨rfl, m⟩
  have HM12 := Lib.hid (m.bring 3 |>.bring 3)
  clear m HM11 k1
  have k1 : w12.cell? ⟨q, 1, none⟩ = some (sE name) := (HM12.out.ob 5 rfl).cell 1 rfl
  go_wp2_with fail
  refine (ref_Size name HM12.out HAC.out).mono ?_
  rintro en w13 ⟨rfl, m⟩
  have HM13 := Lib.hid m
  clear m HM12 k1
  go_wp2_with fail
  refine (same_calls B1 B2 d1 d2 xs xs w13 (by have h : xs.length ≤ 5 := HLEN.out; omega) (HM13.out.app 4 rfl).rd.1 (HM13.out.app 3 rfl).rd.1).mono ?_
  rintro en v14 ⟨rfl, k, rfl⟩
  have HM14 := Lib.hid ((((HM13.out.drewN k).bring 3).drop.bring 3).drop)
  clear HM13
  generalize w13.drewN k = w14 at HM14 ⊢
  simp only [decide_true]
  go_wp2_with fail
  refine (files_calls A1 c1 (fsNames S) HM14.out HAC.out HNL.out (fun v m => (m.app 1 rfl).rd.1)).mono ?_
  rintro en w15 ⟨rfl, m⟩
  have HM15 := Lib.hid ((m.bring 3).drop.bring 3).drop
  clear m HM14
  go_wp2_with fail
  go_ret
  exact ⟨rfl, HM15.out⟩
end
end Go.Proofs.Ythphonkiolmkiaa
/- Layer 14, the law SimfsPlays walked. -/
set_option linter.unusedVariables false
set_option linter.unusedSimpArgs false
namespace Go.Proofs.Ythphonkiolmkiaa
open Go.RowKit
set_option maxRecDepth 100000
set_option maxHeartbeats 8000000

theorem plays_calls (room : Int) (A : Option Addr) (l : List OpA) (c : Nat) (W : World) (hroom : -9223372036854775808 ≤ room ∧ room ≤ 9223372036854775807) (hl : l.length ≤ 140737488351232) (hr : Rd W A (l.flatMap opv)) (ho : ∀ o ∈ l, OpOk W o) :
    Calls Try.prog 10 #[.int .i64 room, .slice A l.length c] W (RetTrue W) := by
  have HR := Lib.hid hr
  have HO := Lib.hid ho
  have HL := Lib.hid hl
  have HM0 := Lib.hid (Mem.start W)
  clear hr ho
  go_enter Try.func10, Try.ntmps10
  go_wp2_with fail
  refine (fs_New room HM0.out).mono ?_
  rintro en w1 (⟨h1, rfl, m⟩ | ⟨h1, f, rfl, m⟩)
  · have HM1 := Lib.hid m.noPool
    clear m HM0
    go_wp2_with fail
    refine (ref_New room HM1.out rfl).mono ?_
    rintro en w2 (⟨h2, rfl, m⟩ | ⟨h2, g, rfl, m⟩)
    rotate_left
    · exact absurd h1 h2
    have HM2 := Lib.hid m
    clear m HM1 h1 h2
    go_wp2_with fail
    refine (works_calls HM2.out).mono ?_
    rintro en w3 ⟨rfl, m⟩
    have HM3 := Lib.hid m
    clear m HM2
    go_wp2_with fail
    go_ret
    exact RetTrue.mk rfl (HM3.out.toBlAt 1 rfl rfl rfl rfl)
  · have HM1 := Lib.hid m.noPool
    clear m HM0
    go_wp2_with fail
    refine (ref_New room HM1.out rfl).mono ?_
    rintro en w2 (⟨h2, rfl, m⟩ | ⟨h2, g, rfl, m⟩)
    · exact absurd h2 h1
    obtain ⟨r, rfl⟩ : ∃ r : Nat, room = (r : Int) := ⟨room.toNat, by omega⟩
    rw [Int.toNat_natCast] at m
    have HM2 := Lib.hid m
    clear m HM1 h1 h2
    go_wp2_with fail
    refine (great_calls A l c w2 hl (HR.out.bl (HM2.out.toBlAt 3 rfl rfl rfl rfl)) (fun o h => (HO.out o h).bl (HM2.out.toBlAt 3 rfl rfl rfl rfl))).mono ?_
    rintro en w3 ⟨gr, rfl, rfl, hg⟩
    cases gr with
    | true =>
      clear hg
      go_wp2_with fail
      refine (works_calls HM2.out).mono ?_
      rintro en w3 ⟨rfl, m⟩
      have HM3 := Lib.hid m
      clear m HM2
      go_wp2_with fail
      go_ret
      exact RetTrue.mk rfl (HM3.out.toBlAt 3 rfl rfl rfl rfl)
    | false =>
      have hg2 := hg rfl
      clear hg
      go_wp2_with fail
      go_loopw [9] (fun v9 wr => ∃ (i : Nat) (S : Fs) (G : Facts), v9 = .int .i64 i ∧ i ≤ l.length ∧ S.acts ≤ i ∧ Hid (Mem W (rfC g S G :: pool G :: fsC f S :: [old W]) wr)) (fun v9 _ => l.length - (intOf v9).toNat)
      case atStart => exact ⟨0, newFs r, _, rfl, Nat.zero_le _, Nat.le_refl _, HM2⟩
      case round =>
        obtain ⟨i, S, G, rfl, hi, ha, HS⟩ := hrel
        clear HM2
        by_cases hlt : i < l.length
        case pos =>
          obtain ⟨o, hx⟩ : ∃ o, l[i]? = some o := ⟨_, List.getElem?_eq_getElem hlt⟩
          have HOK := Lib.hid (HO.out o (List.mem_of_getElem? hx))
          have hOV := HS.out.toBlAt 3 rfl rfl rfl rfl
          obtain ⟨b, off, rfl, hcell⟩ := Rd.rec (f := opv) (k := 5) (fun _ => rfl) HR.out hx (by omega)
          have HCELL := Lib.hid (fun (v : World) (h : Bl W v) => show v.cell? ⟨b, off + i * 5, none⟩ = some (.int .u8 (o.call : Int)) ∧ v.cell? ⟨b, off + i * 5 + 1, none⟩ = some (sE o.name) ∧ v.cell? ⟨b, off + i * 5 + 2, none⟩ = some (sE o.to_) ∧ v.cell? ⟨b, off + i * 5 + 3, none⟩ = some (.int .i64 o.off) ∧ v.cell? ⟨b, off + i * 5 + 4, none⟩ = some (.slice o.A o.b.length o.c) from
            ⟨h.cellAt (hcell 0 _ rfl), h.cellAt (hcell 1 _ rfl), h.cellAt (hcell 2 _ rfl), h.cellAt (hcell 3 _ rfl), h.cellAt (hcell 4 _ rfl)⟩)
          have hlt2 : (i : Int) < (l.length : Int) := by omega
          obtain ⟨k0, k1, k2, k3, k4⟩ := HCELL.out wr hOV
          have hac := do_acts S o
          have HDO := Lib.hid (do_calls o (HS.out.drew.bring 2) HOK.out.name HOK.out.to_ HOK.out.off.2 (by have := HOK.out.len; omega) (fun u m => HOK.out.rd.bl (m.toBlAt 3 rfl rfl rfl rfl)) (by omega))
          have HDID := Lib.hid (fun (v : World) (ds : List Chunk) (m : Mem W (rfC g S G :: pool G :: ds) v) (hd : ∀ u, Mem W ds u → Rd u o.A (o.b.map bv)) => did_calls o m HOK.out.name HOK.out.to_ HOK.out.off.2 (by have := HOK.out.len; omega) (by have := HOK.out.len; omega) hd (by omega))
          generalize fsDo S o = r' at HDO HDID hac
          obtain ⟨S', e'⟩ := r'
          have HAL := Lib.hid (fun (v : World) (G' : Facts) (m : Mem W (rfC g S' G' :: pool G' :: fsC f S' :: [old W]) v) => alike_calls o m (by have h : S'.acts ≤ S.acts + 1 := hac; omega))
          simp only [opV] at HDO HDID HAL hac
          have hne : ((e' : Int) != (e' : Int)) = false := by simp
          clear hcell hx hOV
          go_upto_region 10 with (fail)
          go_region_held3 (fun w' => w'.cell? ⟨b, off + i * 5, none⟩ = some (.int .u8 (o.call : Int)) ∧ w'.cell? ⟨b, off + i * 5 + 1, none⟩ = some (sE o.name) ∧ w'.cell? ⟨b, off + i * 5 + 2, none⟩ = some (sE o.to_) ∧ w'.cell? ⟨b, off + i * 5 + 3, none⟩ = some (.int .i64 o.off) ∧ w'.cell? ⟨b, off + i * 5 + 4, none⟩ = some (.slice o.A o.b.length o.c))
            (first | exact ⟨k0, k1, k2, k3, k4⟩ | exact K3 | exact K4 | exact K5)
            (first
              | (go_at_call 33; refine HDO.out.mono ?_; rintro en w3 ⟨rfl, m3⟩; have K3 := HCELL.out w3 (m3.toBlAt 3 rfl rfl rfl rfl))
              | (go_at_call 40; refine (HDID.out _ _ (m3.away 2) (fun u m => HOK.out.rd.bl (m.toBlAt 1 rfl rfl rfl rfl))).mono ?_; rintro en w4 ⟨rfl, G4, hG4, m4⟩; have K4 := HCELL.out w4 (m4.toBlAt 3 rfl rfl rfl rfl))
              | (go_at_call 41; refine (HAL.out _ _ m4).mono ?_; rintro en w5 ⟨rfl, m5⟩; have K5 := HCELL.out w5 (m5.toBlAt 3 rfl rfl rfl rfl)))
          all_goals
            go_wp2_with fail
            go_roundw
            case rel => exact ⟨i + 1, S', G4, rfl, hlt, by have h : S'.acts ≤ S.acts + 1 := hac; omega, Lib.hid m5⟩
            case measure => simp [intOf]; omega
        case neg =>
          have hlt2 : ¬ ((i : Int) < (l.length : Int)) := by omega
          go_wp2_with fail
          refine (works_calls HS.out).mono ?_
          rintro en w5 ⟨rfl, m⟩
          have HM5 := Lib.hid m
          clear m HS
          go_wp2_with fail
          go_ret
          exact RetTrue.mk rfl (HM5.out.toBlAt 3 rfl rfl rfl rfl)
end Go.Proofs.Ythphonkiolmkiaa
/- Layer 14, the law SimfsFails walked. -/
set_option linter.unusedVariables false
set_option linter.unusedSimpArgs false
namespace Go.Proofs.Ythphonkiolmkiaa
open Go.RowKit
set_option maxRecDepth 100000
set_option maxHeartbeats 8000000

theorem copyInts_calls (A : Option Addr) (c : Nat) (xs : List Int) {w0 w : World} {cs : List Chunk} (h : Mem w0 cs w) (hl : xs.length * 8 ≤ 140737488355328) (hr : Rd w A (xs.map iE)) :
    Calls Try.prog 42 #[.slice A xs.length c] w (fun en w' => ∃ A' c', en = .returned (.slice A' xs.length c') ∧ xs.length ≤ c' ∧ Mem w0 (row 3 1 (.slice A' xs.length c') xs.length (xs.map iE) :: cs) w') := by
  have HR := Lib.hid hr
  have HM := Lib.hid h
  clear hr h
  go_enter Try.func42, Try.ntmps42
  go_wp2_with (at_builtin; go_must (refine append_row rfl _ _ 24 3 (.int .i64 0) 1 8 rfl Try.underlying24 Try.infoInt rfl (by decide) w.heap.size (App.nil w _ _ _) (by rfl) (by rfl) HR.out (by simp) (iv_one _) (by simp; omega) (by simp; omega) (Nat.le_refl _) ?_); intro v1 w1 hown1 hgr1 hat1)
  go_ret
  have hbl : Bl w w1 := Bl.grown (Bl.refl w) hgr1 (fun q hq => by simp [Value.ownBlock] at hq)
  rw [Nat.zero_add, List.nil_append] at hown1
  obtain ⟨A1, c1, rfl, hcc⟩ := hown1.slice
  exact ⟨A1, c1, rfl, hcc, HM.out.newRow hbl hown1⟩
def opLast : OpA := ⟨0, wkA, .empty, 0, none, [], 0⟩
theorem fails_calls (room : Int) (A A2 : Option Addr) (l : List OpA) (c c2 : Nat) (cu : List Int) (W : World) (hroom : -9223372036854775808 ≤ room ∧ room ≤ 9223372036854775807) (hl : l.length ≤ 140737488351232) (hr : Rd W A (l.flatMap opv)) (ho : ∀ o ∈ l, OpOk W o) (r2 : Rd W A2 (cu.map iE)) (hcu : cu.length ≤ c2) (hc8 : cu.length * 8 ≤ 140737488351232) (hi : ∀ a ∈ cu, -9223372036854775808 ≤ a ∧ a ≤ 9223372036854775807) :
    Calls Try.prog 11 #[.int .i64 room, .slice A l.length c, .slice A2 cu.length c2] W (RetTrue W) := by
  have HR := Lib.hid hr
  have HO := Lib.hid ho
  have HI := Lib.hid (And.intro r2 (And.intro hcu (And.intro hi hc8)))
  have HL := Lib.hid hl
  have HM0 := Lib.hid (Mem.start W)
  clear hr ho r2 hcu hi
  go_enter Try.func11, Try.ntmps11
  go_wp2_with fail
  refine (fs_New room HM0.out).mono ?_
  rintro en w1 (⟨h1, rfl, m⟩ | ⟨h1, f, rfl, m⟩)
  · have HM1 := Lib.hid m.noPool
    clear m HM0
    go_wp2_with fail
    refine (ref_New room HM1.out rfl).mono ?_
    rintro en w2 (⟨h2, rfl, m⟩ | ⟨h2, g, rfl, m⟩)
    rotate_left
    · exact absurd h1 h2
    have HM2 := Lib.hid m
    clear m HM1 h1 h2
    go_wp2_with fail
    refine (works_calls HM2.out).mono ?_
    rintro en w3 ⟨rfl, m⟩
    have HM3 := Lib.hid m
    clear m HM2
    go_wp2_with fail
    go_ret
    exact RetTrue.mk rfl (HM3.out.toBlAt 1 rfl rfl rfl rfl)
  · have HM1 := Lib.hid m.noPool
    clear m HM0
    go_wp2_with fail
    refine (ref_New room HM1.out rfl).mono ?_
    rintro en w2 (⟨h2, rfl, m⟩ | ⟨h2, g, rfl, m⟩)
    · exact absurd h2 h1
    obtain ⟨r, rfl⟩ : ∃ r : Nat, room = (r : Int) := ⟨room.toNat, by omega⟩
    rw [Int.toNat_natCast] at m
    have HM2 := Lib.hid m
    clear m HM1 h1 h2
    go_wp2_with fail
    refine (great_calls A l c w2 hl (HR.out.bl (HM2.out.toBlAt 3 rfl rfl rfl rfl)) (fun o h => (HO.out o h).bl (HM2.out.toBlAt 3 rfl rfl rfl rfl))).mono ?_
    rintro en w3 ⟨gr, rfl, rfl, hg⟩
    cases gr with
    | true =>
      clear hg
      go_wp2_with fail
      refine (works_calls HM2.out).mono ?_
      rintro en w3 ⟨rfl, m⟩
      have HM3 := Lib.hid m
      clear m HM2
      go_wp2_with fail
      go_ret
      exact RetTrue.mk rfl (HM3.out.toBlAt 3 rfl rfl rfl rfl)
    | false =>
      have hg2 := hg rfl
      clear hg
      go_wp2_with fail
      go_loopw [11] (fun v11 wr => ∃ (i : Nat) (S : Fs) (G : Facts), v11 = .int .i64 i ∧ i ≤ l.length ∧ S.acts ≤ i ∧ Hid (Mem W (rfC g S G :: pool G :: fsC f S :: [old W]) wr)) (fun v11 _ => l.length - (intOf v11).toNat)
      case atStart => exact ⟨0, newFs r, _, rfl, Nat.zero_le _, Nat.le_refl _, HM2⟩
      case round =>
        obtain ⟨i, S, G, rfl, hi, ha, HS⟩ := hrel
        clear HM2
        by_cases hlt : i < l.length
        case pos =>
          obtain ⟨o, hx⟩ : ∃ o, l[i]? = some o := ⟨_, List.getElem?_eq_getElem hlt⟩
          have HOK := Lib.hid (HO.out o (List.mem_of_getElem? hx))
          have hOV := HS.out.toBlAt 3 rfl rfl rfl rfl
          obtain ⟨b, off, rfl, hcell⟩ := Rd.rec (f := opv) (k := 5) (fun _ => rfl) HR.out hx (by omega)
          have HCELL := Lib.hid (fun (v : World) (h : Bl W v) => show v.cell? ⟨b, off + i * 5, none⟩ = some (.int .u8 (o.call : Int)) ∧ v.cell? ⟨b, off + i * 5 + 1, none⟩ = some (sE o.name) ∧ v.cell? ⟨b, off + i * 5 + 2, none⟩ = some (sE o.to_) ∧ v.cell? ⟨b, off + i * 5 + 3, none⟩ = some (.int .i64 o.off) ∧ v.cell? ⟨b, off + i * 5 + 4, none⟩ = some (.slice o.A o.b.length o.c) from
            ⟨h.cellAt (hcell 0 _ rfl), h.cellAt (hcell 1 _ rfl), h.cellAt (hcell 2 _ rfl), h.cellAt (hcell 3 _ rfl), h.cellAt (hcell 4 _ rfl)⟩)
          have hlt2 : (i : Int) < (l.length : Int) := by omega
          obtain ⟨k0, k1, k2, k3, k4⟩ := HCELL.out wr hOV
          have hac := do_acts S o
          have HDO := Lib.hid (do_calls o (HS.out.bring 2) HOK.out.name HOK.out.to_ HOK.out.off.2 (by have := HOK.out.len; omega) (fun u m => HOK.out.rd.bl (m.toBlAt 3 rfl rfl rfl rfl)) (by omega))
          have HDID := Lib.hid (fun (v : World) (ds : List Chunk) (m : Mem W (rfC g S G :: pool G :: ds) v) (hd : ∀ u, Mem W ds u → Rd u o.A (o.b.map bv)) => did_calls o m HOK.out.name HOK.out.to_ HOK.out.off.2 (by have := HOK.out.len; omega) (by have := HOK.out.len; omega) hd (by omega))
          generalize fsDo S o = r' at HDO HDID hac
          obtain ⟨S', e'⟩ := r'
          simp only [opV] at HDO HDID hac
          clear hcell hx hOV
          go_wp2_with fail
          refine HDO.out.mono ?_
          rintro en w3 ⟨rfl, m⟩
          have HM3 := Lib.hid (m.away 2)
          clear m HDO k0 k1 k2 k3 k4
          obtain ⟨k0, k1, k2, k3, k4⟩ := HCELL.out w3 (HM3.out.toBlAt 3 rfl rfl rfl rfl)
          go_wp2_with fail
          refine (HDID.out _ _ HM3.out (fun u m => HOK.out.rd.bl (m.toBlAt 1 rfl rfl rfl rfl))).mono ?_
          rintro en w4 ⟨rfl, G4, hG4, m⟩
          have HM4 := Lib.hid m
          clear m HDID HM3 k0 k1 k2 k3 k4
          go_wp2_with fail
          go_roundw
          case rel => exact ⟨i + 1, S', G4, rfl, hlt, by have h : S'.acts ≤ S.acts + 1 := hac; omega, HM4⟩
          case measure => simp [intOf]; omega
        case neg =>
          have hlt2 : ¬ ((i : Int) < (l.length : Int)) := by omega
          have HAC := Lib.hid (show S.acts < 1000000000 by omega)
          clear ha
          go_wp2_with fail
          refine (copyInts_calls A2 c2 cu HS.out (by have := HI.out.2.2.2; omega) (HI.out.1.bl (HS.out.toBlAt 3 rfl rfl rfl rfl))).mono ?_
          rintro en w5 ⟨A5, c5, rfl, hc5, m⟩
          have HM5 := Lib.hid m
          clear m HS
          go_wp2_with fail
          refine (fs_Fail (l := cu) (c := c5) (A := A5) (HM5.out.bring 3) (fun v m => (m.app 1 rfl).rd.1) hc5 HI.out.2.2.1 HAC.out).mono ?_
          rintro en w6 ⟨x, rfl, m⟩
          have HM6 := Lib.hid ((m.bring 4).bring 4)
          clear m HM5
          go_wp2_with fail
          refine (ref_Fail (l := cu) (c := c2) (A := A2) HM6.out (fun v m => HI.out.1.bl (m.toBlAt 3 rfl rfl rfl rfl)) HI.out.2.1 (by have := HI.out.2.2.2; omega) HI.out.2.2.1 HAC.out).mono ?_
          rintro en w7 ⟨y, rfl, G7, hG7, m⟩
          obtain ⟨F, hF⟩ : ∃ F, F = fsFail S cu := ⟨_, rfl⟩
          have HFA := Lib.hid (show F.acts < 1000000000 by rw [hF]; show 0 < 1000000000; omega)
          rw [← hF] at m
          have HM7 := Lib.hid (show Mem W (rfC y F G7 :: rfC g S G7 :: pool G7 :: fsC x F :: fsC f S :: row 3 1 (.slice A5 cu.length c5) cu.length (cu.map iE) :: [old W]) w7 from m)
          clear m HM6 hF
          go_upto_region 14 with (fail)
          have M8 := (HM7.out.alloc (.cells #[.int .u8 0, sE wkA, .string .empty, .int .i64 0, .slice none 0 0] 53)).away 6
          have HM8 := Lib.hid (((M8.bring 3).bring 3).bring 2)
          clear HM7 M8
          change Code.wp _ _ _ _ (w7.alloc (.cells #[.int .u8 0, sE wkA, .string .empty, .int .i64 0, .slice none 0 0] 53))
          generalize w7.alloc (.cells #[.int .u8 0, sE wkA, .string .empty, .int .i64 0, .slice none 0 0] 53) = w8 at HM8 ⊢
          generalize w7.heap.size = t at HM8 ⊢
          go_wp2_with fail
          refine (ints_calls A5 A2 c5 c2 cu cu w8 (by omega) (HM8.out.app 5 rfl).rd.1 (HI.out.1.bl (HM8.out.toBlAt 7 rfl rfl rfl rfl))).mono ?_
          rintro en v9 ⟨rfl, k, rfl⟩
          have HM9 := Lib.hid (HM8.out.drewN k)
          clear HM8
          generalize w8.drewN k = w9 at HM9 ⊢
          simp only [decide_true]
          have HAL := Lib.hid (alike_calls opLast HM9.out HFA.out)
          simp only [opV, opLast] at HAL
          have ld : ∀ v, Mem W (rfC y F G7 :: pool G7 :: fsC x F :: rfC g S G7 :: fsC f S :: row 3 1 (.slice A5 cu.length c5) cu.length (cu.map iE) :: blk t 53 #[.int .u8 0, sE wkA, .string .empty, .int .i64 0, .slice none 0 0] :: [old W]) v → v.cell? ⟨t, 0, none⟩ = some (.int .u8 0) ∧ v.cell? ⟨t, 1, none⟩ = some (sE wkA) ∧ v.cell? ⟨t, 2, none⟩ = some (.string .empty) ∧ v.cell? ⟨t, 3, none⟩ = some (.int .i64 0) ∧ v.cell? ⟨t, 4, none⟩ = some (.slice none 0 0) := fun v m => ⟨(m.ob 6 rfl).cell 0 rfl, (m.ob 6 rfl).cell 1 rfl, (m.ob 6 rfl).cell 2 rfl, (m.ob 6 rfl).cell 3 rfl, (m.ob 6 rfl).cell 4 rfl⟩
          have LD := Lib.hid ld
          obtain ⟨k0, k1, k2, k3, k4⟩ := ld _ HM9.out
          clear ld
          go_wp2_with fail
          refine HAL.out.mono ?_
          rintro en w10 ⟨rfl, m⟩
          obtain ⟨k0, k1, k2, k3, k4⟩ := LD.out _ m
          have HM10 := Lib.hid (((m.bring 4).bring 2).bring 4)
          clear m HM9 HAL
          have HAL := Lib.hid (alike_calls opLast HM10.out HAC.out)
          simp only [opV, opLast] at HAL
          go_wp2_with fail
          refine HAL.out.mono ?_
          rintro en w11 ⟨rfl, m⟩
          have HM11 := Lib.hid m
          clear m HM10 HAL
          go_wp2_with fail
          refine (works_calls HM11.out).mono ?_
          rintro en w12 ⟨rfl, m⟩
          have HM12 := Lib.hid m
          clear m HM11
          go_wp2_with fail
          go_ret
          exact RetTrue.mk rfl (HM12.out.toBlAt 7 rfl rfl rfl rfl)
end Go.Proofs.Ythphonkiolmkiaa
/- Words that the proofs of this seat share: arguments opened, from the datum that they read as. No program in sight. -/
namespace Go.Proofs.Ythphonkiolmkiaa
open Go.RowKit Go.ChangeShapes Go.WideShapes Go.Deep

theorem choose_list {α : Type} {p : Nat → α → Prop} (n : Nat) (h : ∀ i, i < n → ∃ a, p i a) : ∃ l : List α, l.length = n ∧ ∀ i a, l[i]? = some a → p i a := by
  induction n with
  | zero => exact ⟨[], rfl, fun i a h => by simp at h⟩
  | succ n ih =>
    obtain ⟨l, hl, hp⟩ := ih (fun i hi => h i (by omega))
    obtain ⟨a, ha⟩ := h n (by omega)
    refine ⟨l ++ [a], by simp [hl], fun i b hb => ?_⟩
    rcases Nat.lt_or_ge i n with hi | hi
    · rw [List.getElem?_append_left (by omega)] at hb; exact hp i b hb
    · rw [List.getElem?_append_right (by omega)] at hb
      have : i - l.length = 0 := by
        rcases Nat.eq_zero_or_pos (i - l.length) with h0 | h0
        · exact h0
        · rw [List.getElem?_eq_none (by simp; omega)] at hb; cases hb
      rw [this] at hb
      simp only [List.getElem?_cons_zero, Option.some.injEq] at hb
      subst hb
      have hin : i = n := by omega
      rw [hin]; exact ha
theorem flat_get {α : Type} (f : α → List Value) (k : Nat) (l : List α) (hk : ∀ a ∈ l, (f a).length = k) : ∀ (j : Nat) (v : Value), (l.flatMap f)[j]? = some v → ∃ i a r, l[i]? = some a ∧ r < k ∧ j = i * k + r ∧ (f a)[r]? = some v := by
  induction l with
  | nil => intro j v h; simp at h
  | cons a l ih =>
    intro j v h
    rw [List.flatMap_cons] at h
    have ha := hk a (by simp)
    rcases Nat.lt_or_ge j k with hj | hj
    · rw [List.getElem?_append_left (by omega)] at h
      exact ⟨0, a, j, by simp, hj, by omega, h⟩
    · rw [List.getElem?_append_right (by omega), ha] at h
      obtain ⟨i, b, r, h1, h2, h3, h4⟩ := ih (fun x hx => hk x (by simp [hx])) _ _ h
      exact ⟨i + 1, b, r, by simpa using h1, h2, by rw [Nat.add_mul]; omega, h4⟩
theorem flat_one {α : Type} (g : α → Value) (l : List α) : l.flatMap (fun a => [g a]) = l.map g := by
  induction l with
  | nil => rfl
  | cons a l ih => simp [ih]

/-- What is met in reading a datum takes no more than the form's reach. -/
def Sz {H : Type} (P : Program) (t : TypeId) (d : DataW H) : Prop := ∀ n ∈ d.weights P t, n ≤ 140737488351232
theorem sz_of {H : Type} {P : Program} {ts : List TypeId} {ds : List (DataW H)} (h : (DataW.weightsEach P ts ds).all (· ≤ reachBytes) = true) (j : Nat) {t : TypeId} {d : DataW H} (ht : ts[j]? = some t) (hd : ds[j]? = some d) : Sz P t d := fun n hn => by
  have := List.all_eq_true.1 h _ (DataW.weights_mem_each ht hd n hn)
  exact of_decide_eq_true this
theorem all_mem {H : Type} {P : Program} {e : TypeId} : ∀ {ds : List (DataW H)} {d : DataW H}, d ∈ ds → ∀ n ∈ d.weights P e, n ∈ DataW.weightsAll P e ds
  | d0 :: ds, d, hd, n, hn => by
    simp only [DataW.weightsAll, List.mem_append]
    rcases List.mem_cons.1 hd with rfl | hd
    · exact .inl hn
    · exact .inr (all_mem hd n hn)
theorem sz_slice {H : Type} {P : Program} {t e : TypeId} {xs ys : List (DataW H)} (hu : P.underlying t = some (.slice e)) (h : Sz P t (.slice xs ys)) : (xs.length + ys.length) * P.bytesOf e ≤ 140737488351232 ∧ ∀ d ∈ xs, Sz P e d := by
  unfold Sz at h
  simp only [DataW.weights, hu, List.mem_cons, List.mem_append] at h
  exact ⟨h _ (.inl rfl), fun d hd n hn => h n (.inr (.inl (all_mem hd n hn)))⟩
theorem sz_agg {H : Type} {P : Program} {t : TypeId} {fs : Array Field} {xs : List (DataW H)} (hu : P.underlying t = some (.struct fs)) (h : Sz P t (.agg xs)) (j : Nat) {f : Field} {d : DataW H} (hf : fs[j]? = some f) (hd : xs[j]? = some d) : Sz P f.type d := fun n hn => by
  unfold Sz at h
  simp only [DataW.weights, hu] at h
  exact h n (DataW.weights_mem_each (j := j) (by simp [hf]) hd n hn)
theorem sz_str {H : Type} {P : Program} {t : TypeId} {s : ByteArray} (h : Sz (H := H) P t (.lit (.string s.data.toList))) : s.size ≤ 140737488351232 := by
  have := h s.data.toList.length (by simp [DataW.weights])
  simpa using this

section
variable {H : Type} {enc : TypeId × Value → H} {P : Program} {w : World} {base : Nat} {held : Bool}
/-- A slice, its elements of k cells each. -/
theorem o_slice {α : Type} (f : α → List Value) (Q : α → Prop) {t e : TypeId} {k B fuel : Nat} {cs : List Value} {x : DataW H × List MemPlace} (ht : P.underlying t = some (.slice e)) (hc : P.cellsOf e = k) (hB : P.bytesOf e = B)
    (el : ∀ (n : Nat) (cs : List Value) (y : DataW H × List MemPlace), cs.length = k → DataW.trod enc P w base (fun _ => true) held n e cs = some y → Sz P e y.1 → ∃ a, cs = f a ∧ Q a)
    (h : DataW.trod enc P w base (fun _ => true) held fuel t cs = some x) (hs : Sz P t x.1) :
    ∃ (A : Option Addr) (l : List α) (c : Nat), cs = [.slice A l.length c] ∧ l.length ≤ c ∧ c * B ≤ 140737488351232 ∧ Rd w A (l.flatMap f) ∧ ∀ a ∈ l, Q a := by
  rcases open_slice ht h with ⟨rfl, rfl⟩ | ⟨a, len, cap, m, n, D, Pl, rfl, hb, hl, hm, hmm, rfl, hx⟩
  · exact ⟨none, [], 0, rfl, Nat.le_refl _, by omega, Rd.nil _ _, fun a ha => by simp at ha⟩
  · simp only [if_true] at hmm
    subst hmm
    obtain ⟨hw1, hw2⟩ := sz_slice ht hs
    rw [hB] at hw1
    simp only [List.length_map, List.length_range] at hw1
    rw [show len + (m - len) = m by omega] at hw1
    obtain ⟨l, hll, hp⟩ := choose_list (p := fun i b => (∀ r v, (f b)[r]? = some v → r < k → w.cell? (a.add (i * k + r)) = some v) ∧ (f b).length = k ∧ Q b) len (fun i hi => by
      obtain ⟨cs', h1, h2⟩ := hx i (by omega)
      rw [hc] at h1
      obtain ⟨_, hlen, hat⟩ := World.cells?_some h1
      obtain ⟨b, rfl, hq⟩ := el _ _ _ hlen h2 (hw2 (D i) (List.mem_map.2 ⟨i, List.mem_range.2 hi, rfl⟩))
      refine ⟨b, fun r v hv hr => ?_, hlen, hq⟩
      have := hat r hr
      rw [add_add] at this
      rw [this, hv])
    have hmem : ∀ b ∈ l, (f b).length = k ∧ Q b := fun b hb => by
      obtain ⟨i, hi⟩ := List.mem_iff_getElem?.1 hb
      exact (hp i b hi).2
    refine ⟨some a, l, m, by rw [hll], by omega, hw1, ?_, fun b hb => (hmem b hb).2⟩
    intro hn
    have hflat := flat_get f k l (fun b hb => (hmem b hb).1)
    have hcell : ∀ j v, (l.flatMap f)[j]? = some v → w.cell? (a.add j) = some v := fun j v hv => by
      obtain ⟨i, b, r, h1, h2, h3, h4⟩ := hflat j v hv
      rw [h3]
      exact (hp i b h1).1 r v h4 h2
    obtain ⟨v0, hv0⟩ : ∃ v, (l.flatMap f)[0]? = some v := by
      cases hcs : l.flatMap f with
      | nil => exact absurd hcs hn
      | cons v r => exact ⟨v, rfl⟩
    have h0 := hcell 0 v0 hv0
    have hspot : a.spot = none := by
      rw [show a.add 0 = a from by simp [Addr.add]] at h0
      unfold World.cell? at h0
      split at h0
      · split at h0
        · cases h0
        · rename_i h; simpa using h
      · cases h0
    obtain ⟨b, o, s⟩ := a
    simp only at hspot
    subst hspot
    refine ⟨b, o, rfl, fun j v hv => ?_⟩
    have := hcell j v hv
    have ha : (⟨b, o, none⟩ : Addr).add j = ⟨b, o + j, none⟩ := by unfold Addr.add; split <;> simp_all
    rwa [ha] at this
theorem o_row {α : Type} (g : α → Value) (Q : α → Prop) {t e : TypeId} {B fuel : Nat} {cs : List Value} {x : DataW H × List MemPlace} (ht : P.underlying t = some (.slice e)) (hc : P.cellsOf e = 1) (hB : P.bytesOf e = B)
    (el : ∀ (n : Nat) (v : Value) (y : DataW H × List MemPlace), DataW.trod enc P w base (fun _ => true) held n e [v] = some y → Sz P e y.1 → ∃ a, v = g a ∧ Q a)
    (h : DataW.trod enc P w base (fun _ => true) held fuel t cs = some x) (hs : Sz P t x.1) :
    ∃ (A : Option Addr) (l : List α) (c : Nat), cs = [.slice A l.length c] ∧ l.length ≤ c ∧ c * B ≤ 140737488351232 ∧ Rd w A (l.map g) ∧ ∀ a ∈ l, Q a := by
  obtain ⟨A, l, c, h1, h2, h3, h4, h5⟩ := o_slice (fun a => [g a]) Q ht hc hB (fun n cs y hl hy hz => by
    match cs, hl with
    | [v], _ =>
      obtain ⟨a, rfl, hq⟩ := el n v y hy hz
      exact ⟨a, rfl, hq⟩) h hs
  rw [flat_one] at h4
  exact ⟨A, l, c, h1, h2, h3, h4, h5⟩
theorem o_u8 {e : TypeId} (he : P.underlying e = some (.int .u8)) (n : Nat) (v : Value) (y : DataW H × List MemPlace) (h : DataW.trod enc P w base (fun _ => true) held n e [v] = some y) : ∃ a : UInt8, v = bv a := by
  obtain ⟨z, hz, _, hwf⟩ := DataW.trod_int he h
  have hr : 0 ≤ z ∧ z < 256 := by simp [Lit.wf, IntKind.min, IntKind.max, IntKind.signed, IntKind.bits] at hwf; omega
  refine ⟨z.toNat.toUInt8, ?_⟩
  simp only [List.cons.injEq, and_true] at hz
  rw [hz, bv, u8_toNat _ (by omega)]
  congr 1; omega
theorem o_u64 {e : TypeId} (he : P.underlying e = some (.int .u64)) (n : Nat) (v : Value) (y : DataW H × List MemPlace) (h : DataW.trod enc P w base (fun _ => true) held n e [v] = some y) : ∃ a : Nat, v = wv a ∧ a < 18446744073709551616 := by
  obtain ⟨z, hz, _, hwf⟩ := DataW.trod_int he h
  have hr : 0 ≤ z ∧ z < 18446744073709551616 := by simp [Lit.wf, IntKind.min, IntKind.max, IntKind.signed, IntKind.bits] at hwf; omega
  refine ⟨z.toNat, ?_, by omega⟩
  simp only [List.cons.injEq, and_true] at hz
  rw [hz, wv]
  congr 1; omega
theorem o_i64 {e : TypeId} (he : P.underlying e = some (.int .i64)) (n : Nat) (v : Value) (y : DataW H × List MemPlace) (h : DataW.trod enc P w base (fun _ => true) held n e [v] = some y) : ∃ a : Int, v = iv a ∧ -9223372036854775808 ≤ a ∧ a ≤ 9223372036854775807 := by
  obtain ⟨z, hz, _, hwf⟩ := DataW.trod_int he h
  have hr : -9223372036854775808 ≤ z ∧ z ≤ 9223372036854775807 := by simp [Lit.wf, IntKind.min, IntKind.max, IntKind.signed, IntKind.bits] at hwf; omega
  simp only [List.cons.injEq, and_true] at hz
  exact ⟨z, hz, hr⟩
theorem o_u64i {e : TypeId} (he : P.underlying e = some (.int .u64)) {n : Nat} {v : Value} {y : DataW H × List MemPlace} (h : DataW.trod enc P w base (fun _ => true) held n e [v] = some y) : ∃ a : Int, v = .int .u64 a ∧ 0 ≤ a ∧ a < 18446744073709551616 := by
  obtain ⟨a, h1, h2⟩ := o_u64 he n v y h
  exact ⟨a, h1, by omega, by omega⟩
theorem o_u8i {e : TypeId} (he : P.underlying e = some (.int .u8)) {n : Nat} {v : Value} {y : DataW H × List MemPlace} (h : DataW.trod enc P w base (fun _ => true) held n e [v] = some y) : ∃ a : Int, v = .int .u8 a ∧ 0 ≤ a ∧ a < 256 := by
  obtain ⟨a, h1⟩ := o_u8 he n v y h
  have := a.toNat_lt
  exact ⟨a.toNat, h1, by omega, by omega⟩
theorem o_bool {e : TypeId} (he : P.underlying e = some .bool) {n : Nat} {v : Value} {y : DataW H × List MemPlace} (h : DataW.trod enc P w base (fun _ => true) held n e [v] = some y) : ∃ a : Bool, v = .bool a := by
  obtain ⟨z, hz, _⟩ := DataW.trod_bool he h
  simp only [List.cons.injEq, and_true] at hz
  exact ⟨z, hz⟩
theorem list4 {cs : Array Value} {a b c d : Value} (hl : cs.toList.length = 4) (h0 : cs.toList[0]? = some a) (h1 : cs.toList[1]? = some b) (h2 : cs.toList[2]? = some c) (h3 : cs.toList[3]? = some d) : cs = #[a, b, c, d] := by
  obtain ⟨l⟩ := cs
  match l, hl with
  | [x0, x1, x2, x3], _ => simp at h0 h1 h2 h3; subst h0 h1 h2 h3; rfl
theorem list6 {cs : Array Value} {a b c d e f : Value} (hl : cs.toList.length = 6) (h0 : cs.toList[0]? = some a) (h1 : cs.toList[1]? = some b) (h2 : cs.toList[2]? = some c) (h3 : cs.toList[3]? = some d) (h4 : cs.toList[4]? = some e) (h5 : cs.toList[5]? = some f) : cs = #[a, b, c, d, e, f] := by
  obtain ⟨l⟩ := cs
  match l, hl with
  | [x0, x1, x2, x3, x4, x5], _ => simp at h0 h1 h2 h3 h4 h5; subst h0 h1 h2 h3 h4 h5; rfl
theorem o_str {e : TypeId} (he : P.underlying e = some .string) (n : Nat) (v : Value) (y : DataW H × List MemPlace) (h : DataW.trod enc P w base (fun _ => true) held n e [v] = some y) (hs : Sz P e y.1) : ∃ a : ByteArray, v = sv a ∧ a.size ≤ 140737488351232 := by
  obtain ⟨s, hz, rfl, _⟩ := DataW.trod_string he h
  simp only [List.cons.injEq, and_true] at hz
  exact ⟨s, hz, sz_str hs⟩
theorem o_bytes {t e : TypeId} {fuel : Nat} {v : Value} {x : DataW H × List MemPlace} (ht : P.underlying t = some (.slice e)) (he : P.underlying e = some (.int .u8)) (hc : P.cellsOf e = 1) (hB : P.bytesOf e = 1)
    (h : DataW.trod enc P w base (fun _ => true) held fuel t [v] = some x) (hs : Sz P t x.1) : ∃ (A : Option Addr) (b : List UInt8) (c : Nat), v = .slice A b.length c ∧ b.length ≤ c ∧ c ≤ 140737488351232 ∧ Rd w A (b.map bv) := by
  obtain ⟨A, l, c, h1, h2, h3, h4, _⟩ := o_row bv (fun _ => True) ht hc hB (fun n v y hy _ => by obtain ⟨a, ha⟩ := o_u8 he n v y hy; exact ⟨a, ha, trivial⟩) h hs
  simp only [List.cons.injEq, and_true] at h1
  exact ⟨A, l, c, h1, h2, by omega, h4⟩
theorem o_words {t e : TypeId} {fuel : Nat} {v : Value} {x : DataW H × List MemPlace} (ht : P.underlying t = some (.slice e)) (he : P.underlying e = some (.int .u64)) (hc : P.cellsOf e = 1) (hB : P.bytesOf e = 8)
    (h : DataW.trod enc P w base (fun _ => true) held fuel t [v] = some x) (hs : Sz P t x.1) : ∃ (A : Option Addr) (b : List Nat) (c : Nat), v = .slice A b.length c ∧ b.length ≤ c ∧ c * 8 ≤ 140737488351232 ∧ Rd w A (b.map wv) ∧ ∀ a ∈ b, a < 18446744073709551616 := by
  obtain ⟨A, l, c, h1, h2, h3, h4, h5⟩ := o_row wv (fun a => a < 18446744073709551616) ht hc hB (fun n v y hy _ => o_u64 he n v y hy) h hs
  simp only [List.cons.injEq, and_true] at h1
  exact ⟨A, l, c, h1, h2, h3, h4, h5⟩
theorem o_ints {t e : TypeId} {fuel : Nat} {v : Value} {x : DataW H × List MemPlace} (ht : P.underlying t = some (.slice e)) (he : P.underlying e = some (.int .i64)) (hc : P.cellsOf e = 1) (hB : P.bytesOf e = 8)
    (h : DataW.trod enc P w base (fun _ => true) held fuel t [v] = some x) (hs : Sz P t x.1) : ∃ (A : Option Addr) (b : List Int) (c : Nat), v = .slice A b.length c ∧ b.length ≤ c ∧ c * 8 ≤ 140737488351232 ∧ Rd w A (b.map iv) ∧ ∀ a ∈ b, -9223372036854775808 ≤ a ∧ a ≤ 9223372036854775807 := by
  obtain ⟨A, l, c, h1, h2, h3, h4, h5⟩ := o_row iv (fun a => -9223372036854775808 ≤ a ∧ a ≤ 9223372036854775807) ht hc hB (fun n v y hy _ => o_i64 he n v y hy) h hs
  simp only [List.cons.injEq, and_true] at h1
  exact ⟨A, l, c, h1, h2, h3, h4, h5⟩
theorem o_texts {t e : TypeId} {fuel : Nat} {v : Value} {x : DataW H × List MemPlace} (ht : P.underlying t = some (.slice e)) (he : P.underlying e = some .string) (hc : P.cellsOf e = 1) (hB : P.bytesOf e = 16)
    (h : DataW.trod enc P w base (fun _ => true) held fuel t [v] = some x) (hs : Sz P t x.1) : ∃ (A : Option Addr) (b : List ByteArray) (c : Nat), v = .slice A b.length c ∧ b.length ≤ c ∧ c * 16 ≤ 140737488351232 ∧ Rd w A (b.map sv) ∧ ∀ a ∈ b, a.size ≤ 140737488351232 := by
  obtain ⟨A, l, c, h1, h2, h3, h4, h5⟩ := o_row sv (fun a => a.size ≤ 140737488351232) ht hc hB (fun n v y hy hz => o_str he n v y hy hz) h hs
  simp only [List.cons.injEq, and_true] at h1
  exact ⟨A, l, c, h1, h2, h3, h4, h5⟩
/-- A struct whose fields are of one cell each. -/
theorem o_struct {t : TypeId} {fs : Array Field} {fuel : Nat} {cs : List Value} {x : DataW H × List MemPlace} (hu : P.underlying t = some (.struct fs)) (hone : oneCellFields P fs = true) (hC : P.cellsOf t = fs.size)
    (h : DataW.trod enc P w base (fun _ => true) held fuel t cs = some x) (hs : Sz P t x.1) :
    cs.length = fs.size ∧ ∃ n, ∀ (j : Nat) (f : Field), fs[j]? = some f → ∃ (v : Value) (y : DataW H × List MemPlace), cs[j]? = some v ∧ DataW.trod enc P w base (fun _ => true) held n f.type [v] = some y ∧ Sz P f.type y.1 := by
  obtain ⟨xs, n, _, rfl, hlen, hxl, hf⟩ := DataW.trod_struct hu h
  refine ⟨hlen.trans hC, n, fun j f hj => ?_⟩
  obtain ⟨ho, hk⟩ := hone_of hone j f hj
  have hjl : j < fs.size := (Array.getElem?_eq_some_iff.1 hj).1
  have hcl : cs.length = fs.size := hlen.trans hC
  have h1 := hf j f hj
  rw [ho, hk] at h1
  have hd : (cs.drop j).take 1 = [cs[j]'(by omega)] := by rw [List.drop_eq_getElem_cons (by omega)]; rfl
  rw [hd] at h1
  have hys : xs[j]? = some (xs[j]'(by omega)) := List.getElem?_eq_getElem (by omega)
  refine ⟨_, _, List.getElem?_eq_getElem (by omega), h1.trans hys, ?_⟩
  exact sz_agg hu hs j hj (by rw [List.getElem?_map, hys]; rfl)
theorem o_struct_v {t : TypeId} {fs : Array Field} {v : Value} {r : Reach} {b0 : Nat} (hu : P.underlying t = some (.struct fs)) (hv : Value.okWide P w r b0 t v) : ∃ cs : Array Value, v = .agg cs ∧ v.cells.toList = cs.toList := by
  obtain ⟨cs, rfl, _⟩ := okWide_struct hu hv
  exact ⟨cs, rfl, rfl⟩
end
end Go.Proofs.Ythphonkiolmkiaa
/- Arguments of layer 14's laws opened: deeds, lists of deeds, numbers, rows of bytes. -/
set_option linter.unusedVariables false
set_option linter.unusedSimpArgs false
namespace Go.Proofs.Ythphonkiolmkiaa
open Go.RowKit Go.ChangeShapes Go.WideShapes Go.Deep
set_option maxRecDepth 100000
theorem Try.bytes_op : Try.prog.cellsOf 5 = 1 ∧ Try.prog.bytesOf 5 = 1 ∧ Try.prog.cellsOf 53 = 5 ∧ Try.prog.bytesOf 53 = 72 ∧ Try.prog.cellsOf 3 = 1 ∧ Try.prog.bytesOf 3 = 8 := ⟨by kernel_rfl, by kernel_rfl, by kernel_rfl, by kernel_rfl, by kernel_rfl, by kernel_rfl⟩
theorem list5 {cs : List Value} {a b c d e : Value} (hl : cs.length = 5) (h0 : cs[0]? = some a) (h1 : cs[1]? = some b) (h2 : cs[2]? = some c) (h3 : cs[3]? = some d) (h4 : cs[4]? = some e) : cs = [a, b, c, d, e] := by
  match cs, hl with
  | [x0, x1, x2, x3, x4], _ => simp at h0 h1 h2 h3 h4; subst h0 h1 h2 h3 h4; rfl
section
variable {H : Type} {enc : TypeId × Value → H} {w : World} {b0 base : Nat} {held : Bool} {v : Value} {d : DataW H} {p : List MemPlace}
theorem o_op {fuel : Nat} {cs : List Value} {y : DataW H × List MemPlace} (hy : DataW.trod enc Try.prog w base (fun _ => true) held fuel 53 cs = some y) (hz : Sz Try.prog 53 y.1) : ∃ o : OpA, cs = opv o ∧ OpOk w o := by
  obtain ⟨hl, n, hf⟩ := o_struct Try.underlying53 (by kernel_rfl) Try.bytes_op.2.2.1 hy hz
  obtain ⟨v0, y0, g0, t0, z0⟩ := hf 0 _ rfl
  obtain ⟨v1, y1, g1, t1, z1⟩ := hf 1 _ rfl
  obtain ⟨v2, y2, g2, t2, z2⟩ := hf 2 _ rfl
  obtain ⟨v3, y3, g3, t3, z3⟩ := hf 3 _ rfl
  obtain ⟨v4, y4, g4, t4, z4⟩ := hf 4 _ rfl
  obtain rfl := list5 hl g0 g1 g2 g3 g4
  obtain ⟨k, rfl⟩ := o_u8 Try.underlying5 _ _ _ t0
  obtain ⟨s, rfl, hs⟩ := o_str Try.underlying9 _ _ _ t1 z1
  obtain ⟨t, rfl, ht⟩ := o_str Try.underlying9 _ _ _ t2 z2
  obtain ⟨m, rfl, hm⟩ := o_i64 Try.underlying3 _ _ _ t3
  obtain ⟨A, b, c, rfl, hbc, hc, hr⟩ := o_bytes Try.underlying22 Try.underlying5 Try.bytes_op.1 Try.bytes_op.2.1 t4 z4
  exact ⟨⟨k.toNat, s, t, m, A, b, c⟩, rfl, k.toNat_lt, hs, ht, hm, ⟨hbc, hc⟩, hr⟩
theorem open_op (hval : Value.okWide Try.prog w .any b0 53 v) (h : DataW.Trod enc Try.prog w base (fun _ => true) held 53 v d p) (hs : Sz Try.prog 53 d) :
    ∃ o : OpA, v = .agg #[.int .u8 (o.call : Int), sE o.name, sE o.to_, .int .i64 o.off, .slice o.A o.b.length o.c] ∧ OpOk w o := by
  obtain ⟨cs, rfl, hcs⟩ := o_struct_v Try.underlying53 hval
  obtain ⟨fuel, ht⟩ := h
  obtain ⟨o, h1, h2⟩ := o_op ht hs
  refine ⟨o, ?_, h2⟩
  rw [hcs] at h1
  congr 1
  rw [← Array.toList_inj, h1]; rfl
theorem open_ops (hval : Value.okWide Try.prog w .any b0 50 v) (h : DataW.Trod enc Try.prog w base (fun _ => true) held 50 v d p) (hs : Sz Try.prog 50 d) :
    ∃ (A : Option Addr) (l : List OpA) (c : Nat), v = .slice A l.length c ∧ l.length ≤ c ∧ c * 72 ≤ 140737488351232 ∧ Rd w A (l.flatMap opv) ∧ ∀ o ∈ l, OpOk w o := by
  obtain ⟨a, l, c, rfl⟩ := okWide_slice Try.underlying50 hval
  obtain ⟨fuel, ht⟩ := h
  obtain ⟨A, l, c, h1, h2, h3, h4, h5⟩ := o_slice opv (fun o => OpOk w o) Try.underlying50 Try.bytes_op.2.2.1 Try.bytes_op.2.2.2.1 (fun n cs y hl hy hz => o_op hy hz) ht hs
  have h1' : [Value.slice a _ _] = [Value.slice A l.length c] := h1
  exact ⟨A, l, c, (List.cons.inj h1').1, h2, h3, h4, h5⟩
theorem open_bytes (hval : Value.okWide Try.prog w .any b0 22 v) (h : DataW.Trod enc Try.prog w base (fun _ => true) held 22 v d p) (hs : Sz Try.prog 22 d) :
    ∃ (A : Option Addr) (b : List UInt8) (c : Nat), v = .slice A b.length c ∧ b.length ≤ c ∧ c ≤ 140737488351232 ∧ Rd w A (b.map bv) := by
  obtain ⟨a, l, c, rfl⟩ := okWide_slice Try.underlying22 hval
  obtain ⟨fuel, ht⟩ := h
  exact o_bytes Try.underlying22 Try.underlying5 Try.bytes_op.1 Try.bytes_op.2.1 ht hs
theorem open_ints (hval : Value.okWide Try.prog w .any b0 24 v) (h : DataW.Trod enc Try.prog w base (fun _ => true) held 24 v d p) (hs : Sz Try.prog 24 d) :
    ∃ (A : Option Addr) (l : List Int) (c : Nat), v = .slice A l.length c ∧ l.length ≤ c ∧ c * 8 ≤ 140737488351232 ∧ Rd w A (l.map iE) ∧ ∀ z ∈ l, -9223372036854775808 ≤ z ∧ z ≤ 9223372036854775807 := by
  obtain ⟨a, l, c, rfl⟩ := okWide_slice Try.underlying24 hval
  obtain ⟨fuel, ht⟩ := h
  exact o_ints Try.underlying24 Try.underlying3 Try.bytes_op.2.2.2.2.1 Try.bytes_op.2.2.2.2.2 ht hs
theorem open_int (h : DataW.Trod enc Try.prog w base (fun _ => true) held 3 v d p) (hv : v.cells.toList = [v]) : ∃ z : Int, v = .int .i64 z ∧ -9223372036854775808 ≤ z ∧ z ≤ 9223372036854775807 := by
  obtain ⟨fuel, ht⟩ := h
  rw [hv] at ht
  exact o_i64 Try.underlying3 _ _ _ ht
end
end Go.Proofs.Ythphonkiolmkiaa
