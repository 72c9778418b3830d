/- Texts of the claim SimfsFresh, part 5: SimFresh, Lib5, SimOp. -/
import Derived.Test.YthphonkiolmkiaaGSimfsFresh4
import Derived.Test.YthphonkiolmkiaaGSimfsFresh1
import Derived.Deep.Slices
import Derived.Deep.Fields
import Derived.ChangeSame
import Derived.SizedLaws
/- Layer 14, the law SimfsFresh walked. -/
set_option linter.unusedVariables false
set_option linter.unusedSimpArgs false
namespace Go.Proofs.Ythphonkiolmkiaa
open Go.RowKit
set_option maxRecDepth 100000
set_option maxHeartbeats 8000000

def fr3 (b : List UInt8) : Fs := ⟨1048576, [⟨[], b, [⟨false, 0, b⟩, ⟨false, 0, b⟩]⟩], [], [(nmA, 1)], [⟨0, .empty, nmA, 1⟩], 3, 0, false⟩
theorem fr3_eq (b : List UInt8) : fsWrite (rn2 b) nmA 0 b = (fr3 b, 0) := by
  have hN : getN (rn2 b) nmA = 1 := by kernel_rfl
  have hF : (flAt (rn2 b).fl 1).now = b := rfl
  have h := write_eq (S := rn2 b) (s := nmA) (k := 0) (b := b) (by kernel_rfl) (by rw [hN, hF]; omega)
  rw [hN] at h
  have e : chDo b ⟨false, 0, b⟩ = b := by unfold chDo; simp
  refine h.trans ?_
  show ((⟨1048576, [⟨[], chDo b ⟨false, 0, b⟩, [⟨false, 0, b⟩, ⟨false, 0, b⟩]⟩], [], [(nmA, 1)], [⟨0, .empty, nmA, 1⟩], 3, 0, false⟩ : Fs), 0) = _
  rw [e]; rfl
theorem fr_get (b : List UInt8) : getE (fr3 b) nmA = 0 ∧ getN (fr3 b) nmA = 1 ∧ (flAt (fr3 b).fl 1).now = b ∧ fsNames (fr3 b) = [nmA] := ⟨by kernel_rfl, by kernel_rfl, rfl, by kernel_rfl⟩
theorem fr_read {b : List UInt8} (h : b.length ≤ 10000) : fsRead (fr3 b) nmA 0 1048576 = (b, 0) := by
  have hF : flAt (fr3 b).fl 1 = ⟨[], b, [⟨false, 0, b⟩, ⟨false, 0, b⟩]⟩ := rfl
  unfold fsRead
  rw [(fr_get b).1, (fr_get b).2.1, hF]
  simp only
  rw [if_neg (by simp), if_neg (by omega)]
  have e1 : (0 : Int).toNat = 0 := rfl
  have e2 : (1048576 : Int).toNat = 1048576 := rfl
  rw [e1, e2, List.drop_zero, List.take_of_length_le (by omega)]
theorem fresh_calls (A0 : Option Addr) (c0 : Nat) (b : List UInt8) (k : Int) (W : World) (hb : b.length ≤ 140737488351232) (r0 : Rd W A0 (b.map bv)) :
    Calls Try.prog 6 #[.slice A0 b.length c0, .int .i64 k] W (RetTrue W) := by
  have HR0 := Lib.hid r0
  have HM0 := Lib.hid (Mem.start W)
  clear r0
  go_enter Try.func6, Try.ntmps6
  by_cases hbig : 10000 < b.length
  case pos =>
    have i1 : (10000 : Int) < (b.length : Int) := by omega
    go_wp2_with fail
    refine (works_calls HM0.out).mono ?_
    rintro en w1 ⟨rfl, m⟩
    have HM1 := Lib.hid m
    clear m HM0
    go_wp2_with fail
    go_ret
    exact RetTrue.mk rfl HM1.out.toBl
  case neg =>
    have i1 : ¬ ((10000 : Int) < (b.length : Int)) := by omega
    have HL := Lib.hid (show b.length ≤ 10000 by omega)
    have HX7 := Lib.hid (show (b ++ [7, 7, 7]).length = b.length + 3 by simp)
    clear hbig
    go_wp2_with fail
    refine (fs_New 1048576 HM0.out).mono ?_
    rintro en w1 (⟨h1, _⟩ | ⟨_, q, rfl, m⟩)
    · omega
    have HM1 := Lib.hid (show Mem W (fsC q (newFs 1048576) :: [old W]) w1 from m)
    clear m HM0 i1
    go_wp2_with fail
    refine (wide_calls A0 c0 b w1 hb (HR0.out.bl (HM1.out.toBlAt 1 rfl rfl rfl rfl))).mono ?_
    rintro en w2 ⟨g1, rfl, hw1, hbl1⟩
    have HM2 := Lib.hid (show Mem W (row 5 1 (.slice (some ⟨g1, 0, none⟩) (b.length + 3) (b.length + 3)) (b.length + 3) (((b ++ [7, 7, 7]) : List UInt8).map bv) :: fsC q (newFs 1048576) :: [old W]) w2 from HM1.out.newRow hbl1 hw1)
    clear HM1 hw1 hbl1
    go_wp2_with fail
    refine (wide_calls A0 c0 b w2 hb (HR0.out.bl (HM2.out.toBlAt 2 rfl rfl rfl rfl))).mono ?_
    rintro en w3 ⟨g2, rfl, hw1, hbl1⟩
    have HM3 := Lib.hid (show Mem W (fsC q (newFs 1048576) :: row 5 1 (.slice (some ⟨g2, 0, none⟩) (b.length + 3) (b.length + 3)) (b.length + 3) (((b ++ [7, 7, 7]) : List UInt8).map bv) :: row 5 1 (.slice (some ⟨g1, 0, none⟩) (b.length + 3) (b.length + 3)) (b.length + 3) (((b ++ [7, 7, 7]) : List UInt8).map bv) :: [old W]) w3 from (HM2.out.newRow hbl1 hw1).bring 2)
    clear HM2 hw1 hbl1
    go_wp2_with fail
    have HC3 := Lib.hid (fs_Create nmA HM3.out (of_decide_eq_true rfl) nm_size.1)
    rw [rn1_eq] at HC3
    refine (HC3.out).mono ?_
    rintro en w4 ⟨rfl, m⟩
    have HM4 := Lib.hid (show Mem W (fsC q rn1 :: row 5 1 (.slice (some ⟨g2, 0, none⟩) (b.length + 3) (b.length + 3)) (b.length + 3) (((b ++ [7, 7, 7]) : List UInt8).map bv) :: row 5 1 (.slice (some ⟨g1, 0, none⟩) (b.length + 3) (b.length + 3)) (b.length + 3) (((b ++ [7, 7, 7]) : List UInt8).map bv) :: [old W]) w4 from m)
    clear m HM3 HC3
    go_wp2_with fail
    have HC4 := Lib.hid (fs_Append nmA b (some ⟨g1, 0, none⟩) (b.length + 3) HM4.out (fun v m => IsWide.rd (base := 0) (m.app 2 rfl)) (by omega) (of_decide_eq_true rfl))
    rw [rn2_eq HL.out] at HC4
    refine (HC4.out).mono ?_
    rintro en w5 ⟨rfl, m⟩
    have HM5 := Lib.hid (show Mem W (fsC q (rn2 b) :: row 5 1 (.slice (some ⟨g2, 0, none⟩) (b.length + 3) (b.length + 3)) (b.length + 3) (((b ++ [7, 7, 7]) : List UInt8).map bv) :: row 5 1 (.slice (some ⟨g1, 0, none⟩) (b.length + 3) (b.length + 3)) (b.length + 3) (((b ++ [7, 7, 7]) : List UInt8).map bv) :: [old W]) w5 from m)
    clear m HM4 HC4
    go_wp2_with fail
    have HC5 := Lib.hid (fs_Write nmA 0 b (some ⟨g2, 0, none⟩) (b.length + 3) HM5.out (of_decide_eq_true rfl) (fun v m => IsWide.rd (base := 0) (m.app 1 rfl)) hb)
    rw [fr3_eq] at HC5
    refine (HC5.out).mono ?_
    rintro en w6 ⟨rfl, m⟩
    have HM6 := Lib.hid (show Mem W (fsC q (fr3 b) :: row 5 1 (.slice (some ⟨g2, 0, none⟩) (b.length + 3) (b.length + 3)) (b.length + 3) (((b ++ [7, 7, 7]) : List UInt8).map bv) :: row 5 1 (.slice (some ⟨g1, 0, none⟩) (b.length + 3) (b.length + 3)) (b.length + 3) (((b ++ [7, 7, 7]) : List UInt8).map bv) :: [old W]) w6 from m)
    clear m HM5 HC5
    go_wp2_with fail
    refine (left_calls g1 0 A0 c0 b w6 hb (HM6.out.app 2 rfl) (HR0.out.bl (HM6.out.toBlAt 3 rfl rfl rfl rfl))).mono ?_
    rintro en v7 ⟨rfl, kk, rfl⟩
    have HM7 := Lib.hid (HM6.out.drewN kk)
    clear HM6
    generalize w6.drewN kk = w7 at HM7 ⊢
    go_wp2_with fail
    refine (left_calls g2 0 A0 c0 b w7 hb (HM7.out.app 1 rfl) (HR0.out.bl (HM7.out.toBlAt 3 rfl rfl rfl rfl))).mono ?_
    rintro en v8 ⟨rfl, kk, rfl⟩
    have HM8 := Lib.hid (HM7.out.drewN kk)
    clear HM7
    generalize w7.drewN kk = w8 at HM8 ⊢
    go_wp2_with fail
    have HSP := Lib.hid (spoil_room (some ⟨g1, 0, none⟩) 0 b.length (b ++ [7, 7, 7]) 1 w8 (by rw [HX7.out]; omega) (by rw [HX7.out]; omega) (by rw [HX7.out]; exact HM8.out.app 2 rfl))
    rw [HX7.out] at HSP
    refine HSP.out.mono ?_
    rintro en w9 ⟨rfl, ⟨y1, hy1, ha⟩, hg⟩
    have HM9 := Lib.hid (HM8.out.wrote 2 rfl ha hg)
    clear ha hg hy1 HM8 HSP
    go_wp2_with fail
    have HSP := Lib.hid (spoil_room (some ⟨g2, 0, none⟩) 0 b.length (b ++ [7, 7, 7]) 1 w9 (by rw [HX7.out]; omega) (by rw [HX7.out]; omega) (by rw [HX7.out]; exact HM9.out.app 1 rfl))
    rw [HX7.out] at HSP
    refine HSP.out.mono ?_
    rintro en w10 ⟨rfl, ⟨y2, hy2, ha⟩, hg⟩
    have HM10 := Lib.hid (show Mem W (fsC q (fr3 b) :: row 5 1 (.slice (some ⟨g2, 0, none⟩) (b.length + 3) (b.length + 3)) (b.length + 3) ((y2 : List UInt8).map bv) :: row 5 1 (.slice (some ⟨g1, 0, none⟩) (b.length + 3) (b.length + 3)) (b.length + 3) ((y1 : List UInt8).map bv) :: [old W]) w10 from HM9.out.wrote 1 rfl ha hg)
    clear ha hg hy2 HM9 HSP
    go_wp2_with fail
    have HRD := Lib.hid (fs_ReadF nmA 0 1048576 HM10.out (fr_get b).1 (by rw [(fr_get b).2.1, (fr_get b).2.2.1]; omega))
    rw [fr_read HL.out] at HRD
    refine HRD.out.mono ?_
    rintro en w11 ⟨A11, c11, zs, rfl, hzs, m⟩
    have HM11 := Lib.hid (show Mem W (row 5 1 (.slice A11 c11 c11) c11 ((b ++ zs).map bv) :: fsC q (fr3 b) :: row 5 1 (.slice (some ⟨g2, 0, none⟩) (b.length + 3) (b.length + 3)) (b.length + 3) ((y2 : List UInt8).map bv) :: row 5 1 (.slice (some ⟨g1, 0, none⟩) (b.length + 3) (b.length + 3)) (b.length + 3) ((y1 : List UInt8).map bv) :: [old W]) w11 from m)
    have HZS := Lib.hid (show (b ++ zs).length = c11 by have hzs : zs.length + b.length = c11 := hzs; rw [List.length_append]; omega)
    have HC11 := Lib.hid (show b.length ≤ c11 by have hzs : zs.length + b.length = c11 := hzs; omega)
    clear m HM10 HRD hzs
    go_wp2_with fail
    refine (copy_calls A11 c11 b w11 (by omega) (by have h := (HM11.out.app 0 rfl).rd.1.take b.length; rw [← List.map_take, List.take_left] at h; exact h)).mono ?_
    rintro en w12 ⟨A12, c12, rfl, hbl, ha⟩
    have HM12 := Lib.hid (HM11.out.newRow hbl ha)
    clear HM11 hbl ha
    go_wp2_with fail
    have HCB := Lib.hid (show c11 ≤ 9223372036854775807 by
      obtain ⟨_, h⟩ | ⟨_, _, cap, _, e, _, _, _, hcm, _⟩ := (HM12.out.app 1 rfl).is
      · omega
      · cases e; unfold maxLen at hcm; omega)
    have HSP := Lib.hid (spoil_room A11 0 b.length (b ++ zs) 1 w12 (by rw [HZS.out]; exact HCB.out) (by rw [HZS.out]; exact HC11.out) (by rw [HZS.out]; exact HM12.out.app 1 rfl))
    rw [HZS.out] at HSP
    refine HSP.out.mono ?_
    rintro en w13 ⟨rfl, ⟨y3, hy3, ha⟩, hg⟩
    have HM13 := Lib.hid (HM12.out.wrote 1 rfl ha hg)
    clear ha hg hy3 HM12 HSP
    go_wp2_with fail
    have HN0 := fs_Names (HM13.out.bring 2)
    rw [(fr_get b).2.2.2] at HN0
    have HN := Lib.hid (show Calls Try.prog 30 #[pE q] w13 (fun en w' => ∃ A c, en = .returned (.slice A 1 c) ∧ Mem W _ w') from HN0)
    clear HN0
    refine HN.out.mono ?_
    rintro en w14 ⟨A14, c14, rfl, m⟩
    have HM14 := Lib.hid (show Mem W (row 9 1 (.slice A14 1 c14) 1 ([nmA].map sE) :: fsC q (fr3 b) :: row 5 1 (.slice A12 b.length c12) b.length (b.map bv) :: row 5 1 (.slice A11 c11 c11) c11 (y3.map bv) :: row 5 1 (.slice (some ⟨g2, 0, none⟩) (b.length + 3) (b.length + 3)) (b.length + 3) ((y2 : List UInt8).map bv) :: row 5 1 (.slice (some ⟨g1, 0, none⟩) (b.length + 3) (b.length + 3)) (b.length + 3) ((y1 : List UInt8).map bv) :: [old W]) w14 from m)
    clear m HM13 HN
    go_wp2_with fail
    obtain ⟨g14, o14, rfl⟩ : ∃ g o, A14 = some ⟨g, o, none⟩ := by
      obtain ⟨_, h⟩ | ⟨g, o, _, _, e, _⟩ := (HM14.out.app 0 rfl).is
      · omega
      · cases e; exact ⟨g, o, rfl⟩
    go_loopw [14] (fun v14 wr => ∃ (i : Nat) (ys : List ByteArray), v14 = .int .i64 i ∧ i ≤ 1 ∧ Hid (Mem W (row 9 1 (.slice (some ⟨g14, o14, none⟩) 1 c14) 1 (ys.map sE) :: fsC q (fr3 b) :: row 5 1 (.slice A12 b.length c12) b.length (b.map bv) :: row 5 1 (.slice A11 c11 c11) c11 (y3.map bv) :: row 5 1 (.slice (some ⟨g2, 0, none⟩) (b.length + 3) (b.length + 3)) (b.length + 3) ((y2 : List UInt8).map bv) :: row 5 1 (.slice (some ⟨g1, 0, none⟩) (b.length + 3) (b.length + 3)) (b.length + 3) ((y1 : List UInt8).map bv) :: [old W]) wr)) (fun v14 _ => 1 - (intOf v14).toNat)
    case atStart => exact ⟨0, [nmA], rfl, Nat.zero_le _, HM14⟩
    case round =>
      obtain ⟨i, ys, rfl, hi, HS⟩ := hrel
      clear HM14
      by_cases hlt : i < 1
      case pos =>
        obtain rfl : i = 0 := by omega
        have hst := (HS.out.app 0 rfl).store 0 (by omega) (sE ⟨#[98]⟩)
        have hf := (HS.out.app 0 rfl).frozen (o14 + 0)
        have hl1 := (HS.out.app 0 rfl).len
        obtain ⟨x0, hc⟩ : ∃ x, wr.cell? ⟨g14, o14 + 0, none⟩ = some x := ⟨_, (HS.out.app 0 rfl).at 0 (by omega)⟩
        have e : (ys.map sE).set 0 (sE ⟨#[98]⟩) = (ys.set 0 ⟨#[98]⟩).map sE := by rw [List.map_set]
        rw [e] at hst
        simp only [Nat.add_zero] at hst hf hc
        have HM15 := Lib.hid (HS.out.wrote 0 rfl hst.1 hst.2)
        clear hst e hi hlt hl1
        go_wp2_with fail
        go_roundw
        case rel => exact ⟨1, _, rfl, Nat.le_refl _, HM15⟩
        case measure => simp [intOf]
      case neg =>
        obtain rfl : i = 1 := by omega
        have HRD := Lib.hid (fs_Read nmA 0 1048576 (HS.out.bring 1))
        rw [fr_read HL.out] at HRD
        clear hi hlt
        go_wp2_with fail
        refine HRD.out.mono ?_
        rintro en w16 ⟨A16, c16, rfl, m⟩
        have HM16 := Lib.hid (show Mem W (row 5 1 (.slice A16 b.length c16) b.length (b.map bv) :: fsC q (fr3 b) :: row 9 1 (.slice (some ⟨g14, o14, none⟩) 1 c14) 1 (ys.map sE) :: row 5 1 (.slice A12 b.length c12) b.length (b.map bv) :: row 5 1 (.slice A11 c11 c11) c11 (y3.map bv) :: row 5 1 (.slice (some ⟨g2, 0, none⟩) (b.length + 3) (b.length + 3)) (b.length + 3) ((y2 : List UInt8).map bv) :: row 5 1 (.slice (some ⟨g1, 0, none⟩) (b.length + 3) (b.length + 3)) (b.length + 3) ((y1 : List UInt8).map bv) :: [old W]) w16 from m)
        clear m HS HRD
        go_wp2_with fail
        refine (same_calls A12 A0 c12 c0 b b w16 (by omega) (HM16.out.app 3 rfl).rd.1 (HR0.out.bl (HM16.out.toBlAt 7 rfl rfl rfl rfl))).mono ?_
        rintro en v17 ⟨rfl, kk, rfl⟩
        have HM17 := Lib.hid (HM16.out.drewN kk)
        clear HM16
        generalize w16.drewN kk = w17 at HM17 ⊢
        simp only [decide_true]
        go_wp2_with fail
        refine (same_calls A16 A0 c16 c0 b b w17 (by omega) (HM17.out.app 0 rfl).rd.1 (HR0.out.bl (HM17.out.toBlAt 7 rfl rfl rfl rfl))).mono ?_
        rintro en v18 ⟨rfl, kk, rfl⟩
        have HM18 := Lib.hid (HM17.out.drewN kk)
        clear HM17
        generalize w17.drewN kk = w18 at HM18 ⊢
        simp only [decide_true]
        go_wp2_with fail
        have HN0 := fs_Names (HM18.out.bring 1)
        rw [(fr_get b).2.2.2] at HN0
        have HN := Lib.hid (show Calls Try.prog 30 #[pE q] w18 (fun en w' => ∃ A c, en = .returned (.slice A 1 c) ∧ Mem W _ w') from HN0)
        clear HN0
        refine HN.out.mono ?_
        rintro en w19 ⟨A19, c19, rfl, m⟩
        have HM19 := Lib.hid (m.alloc (.cells #[.string ⟨#[97]⟩] 9))
        clear m HM18 HN
        go_wp2_with fail
        refine (texts_calls A19 (some ⟨w19.heap.size, 0, none⟩) c19 1 [nmA] [nmA] _ (by decide) (HM19.out.app 1 rfl).rd.1 (HM19.out.rdBlk 0 rfl)).mono ?_
        rintro en v20 ⟨rfl, kk, rfl⟩
        have HM20 := Lib.hid (HM19.out.drewN kk)
        clear HM19
        generalize (w19.alloc (.cells #[.string ⟨#[97]⟩] 9)).drewN kk = w20 at HM20 ⊢
        simp only [decide_true]
        go_wp2_with fail
        refine (works_calls HM20.out).mono ?_
        rintro en w21 ⟨rfl, m⟩
        have HM21 := Lib.hid m
        clear m HM20
        go_wp2_with fail
        go_ret
        exact RetTrue.mk rfl (HM21.out.toBlAt 9 rfl rfl rfl rfl)
end Go.Proofs.Ythphonkiolmkiaa
/- Words that the proofs of this seat share: arguments opened, from the datum that they read as. No program in sight. -/
namespace Go.Proofs.Ythphonkiolmkiaa
open Go.RowKit Go.ChangeShapes Go.WideShapes Go.Deep

theorem choose_list {α : Type} {p : Nat → α → Prop} (n : Nat) (h : ∀ i, i < n → ∃ a, p i a) : ∃ l : List α, l.length = n ∧ ∀ i a, l[i]? = some a → p i a := by
  induction n with
  | zero => exact ⟨[], rfl, fun i a h => by simp at h⟩
  | succ n ih =>
    obtain ⟨l, hl, hp⟩ := ih (fun i hi => h i (by omega))
    obtain ⟨a, ha⟩ := h n (by omega)
    refine ⟨l ++ [a], by simp [hl], fun i b hb => ?_⟩
    rcases Nat.lt_or_ge i n with hi | hi
    · rw [List.getElem?_append_left (by omega)] at hb; exact hp i b hb
    · rw [List.getElem?_append_right (by omega)] at hb
      have : i - l.length = 0 := by
        rcases Nat.eq_zero_or_pos (i - l.length) with h0 | h0
        · exact h0
        · rw [List.getElem?_eq_none (by simp; omega)] at hb; cases hb
      rw [this] at hb
      simp only [List.getElem?_cons_zero, Option.some.injEq] at hb
      subst hb
      have hin : i = n := by omega
      rw [hin]; exact ha
theorem flat_get {α : Type} (f : α → List Value) (k : Nat) (l : List α) (hk : ∀ a ∈ l, (f a).length = k) : ∀ (j : Nat) (v : Value), (l.flatMap f)[j]? = some v → ∃ i a r, l[i]? = some a ∧ r < k ∧ j = i * k + r ∧ (f a)[r]? = some v := by
  induction l with
  | nil => intro j v h; simp at h
  | cons a l ih =>
    intro j v h
    rw [List.flatMap_cons] at h
    have ha := hk a (by simp)
    rcases Nat.lt_or_ge j k with hj | hj
    · rw [List.getElem?_append_left (by omega)] at h
      exact ⟨0, a, j, by simp, hj, by omega, h⟩
    · rw [List.getElem?_append_right (by omega), ha] at h
      obtain ⟨i, b, r, h1, h2, h3, h4⟩ := ih (fun x hx => hk x (by simp [hx])) _ _ h
      exact ⟨i + 1, b, r, by simpa using h1, h2, by rw [Nat.add_mul]; omega, h4⟩
theorem flat_one {α : Type} (g : α → Value) (l : List α) : l.flatMap (fun a => [g a]) = l.map g := by
  induction l with
  | nil => rfl
  | cons a l ih => simp [ih]

/-- What is met in reading a datum takes no more than the form's reach. -/
def Sz {H : Type} (P : Program) (t : TypeId) (d : DataW H) : Prop := ∀ n ∈ d.weights P t, n ≤ 140737488351232
theorem sz_of {H : Type} {P : Program} {ts : List TypeId} {ds : List (DataW H)} (h : (DataW.weightsEach P ts ds).all (· ≤ reachBytes) = true) (j : Nat) {t : TypeId} {d : DataW H} (ht : ts[j]? = some t) (hd : ds[j]? = some d) : Sz P t d := fun n hn => by
  have := List.all_eq_true.1 h _ (DataW.weights_mem_each ht hd n hn)
  exact of_decide_eq_true this
theorem all_mem {H : Type} {P : Program} {e : TypeId} : ∀ {ds : List (DataW H)} {d : DataW H}, d ∈ ds → ∀ n ∈ d.weights P e, n ∈ DataW.weightsAll P e ds
  | d0 :: ds, d, hd, n, hn => by
    simp only [DataW.weightsAll, List.mem_append]
    rcases List.mem_cons.1 hd with rfl | hd
    · exact .inl hn
    · exact .inr (all_mem hd n hn)
theorem sz_slice {H : Type} {P : Program} {t e : TypeId} {xs ys : List (DataW H)} (hu : P.underlying t = some (.slice e)) (h : Sz P t (.slice xs ys)) : (xs.length + ys.length) * P.bytesOf e ≤ 140737488351232 ∧ ∀ d ∈ xs, Sz P e d := by
  unfold Sz at h
  simp only [DataW.weights, hu, List.mem_cons, List.mem_append] at h
  exact ⟨h _ (.inl rfl), fun d hd n hn => h n (.inr (.inl (all_mem hd n hn)))⟩
theorem sz_agg {H : Type} {P : Program} {t : TypeId} {fs : Array Field} {xs : List (DataW H)} (hu : P.underlying t = some (.struct fs)) (h : Sz P t (.agg xs)) (j : Nat) {f : Field} {d : DataW H} (hf : fs[j]? = some f) (hd : xs[j]? = some d) : Sz P f.type d := fun n hn => by
  unfold Sz at h
  simp only [DataW.weights, hu] at h
  exact h n (DataW.weights_mem_each (j := j) (by simp [hf]) hd n hn)
theorem sz_str {H : Type} {P : Program} {t : TypeId} {s : ByteArray} (h : Sz (H := H) P t (.lit (.string s.data.toList))) : s.size ≤ 140737488351232 := by
  have := h s.data.toList.length (by simp [DataW.weights])
  simpa using this

section
variable {H : Type} {enc : TypeId × Value → H} {P : Program} {w : World} {base : Nat} {held : Bool}
/-- A slice, its elements of k cells each. -/
theorem o_slice {α : Type} (f : α → List Value) (Q : α → Prop) {t e : TypeId} {k B fuel : Nat} {cs : List Value} {x : DataW H × List MemPlace} (ht : P.underlying t = some (.slice e)) (hc : P.cellsOf e = k) (hB : P.bytesOf e = B)
    (el : ∀ (n : Nat) (cs : List Value) (y : DataW H × List MemPlace), cs.length = k → DataW.trod enc P w base (fun _ => true) held n e cs = some y → Sz P e y.1 → ∃ a, cs = f a ∧ Q a)
    (h : DataW.trod enc P w base (fun _ => true) held fuel t cs = some x) (hs : Sz P t x.1) :
    ∃ (A : Option Addr) (l : List α) (c : Nat), cs = [.slice A l.length c] ∧ l.length ≤ c ∧ c * B ≤ 140737488351232 ∧ Rd w A (l.flatMap f) ∧ ∀ a ∈ l, Q a := by
  rcases open_slice ht h with ⟨rfl, rfl⟩ | ⟨a, len, cap, m, n, D, Pl, rfl, hb, hl, hm, hmm, rfl, hx⟩
  · exact ⟨none, [], 0, rfl, Nat.le_refl _, by omega, Rd.nil _ _, fun a ha => by simp at ha⟩
  · simp only [if_true] at hmm
    subst hmm
    obtain ⟨hw1, hw2⟩ := sz_slice ht hs
    rw [hB] at hw1
    simp only [List.length_map, List.length_range] at hw1
    rw [show len + (m - len) = m by omega] at hw1
    obtain ⟨l, hll, hp⟩ := choose_list (p := fun i b => (∀ r v, (f b)[r]? = some v → r < k → w.cell? (a.add (i * k + r)) = some v) ∧ (f b).length = k ∧ Q b) len (fun i hi => by
      obtain ⟨cs', h1, h2⟩ := hx i (by omega)
      rw [hc] at h1
      obtain ⟨_, hlen, hat⟩ := World.cells?_some h1
      obtain ⟨b, rfl, hq⟩ := el _ _ _ hlen h2 (hw2 (D i) (List.mem_map.2 ⟨i, List.mem_range.2 hi, rfl⟩))
      refine ⟨b, fun r v hv hr => ?_, hlen, hq⟩
      have := hat r hr
      rw [add_add] at this
      rw [this, hv])
    have hmem : ∀ b ∈ l, (f b).length = k ∧ Q b := fun b hb => by
      obtain ⟨i, hi⟩ := List.mem_iff_getElem?.1 hb
      exact (hp i b hi).2
    refine ⟨some a, l, m, by rw [hll], by omega, hw1, ?_, fun b hb => (hmem b hb).2⟩
    intro hn
    have hflat := flat_get f k l (fun b hb => (hmem b hb).1)
    have hcell : ∀ j v, (l.flatMap f)[j]? = some v → w.cell? (a.add j) = some v := fun j v hv => by
      obtain ⟨i, b, r, h1, h2, h3, h4⟩ := hflat j v hv
      rw [h3]
      exact (hp i b h1).1 r v h4 h2
    obtain ⟨v0, hv0⟩ : ∃ v, (l.flatMap f)[0]? = some v := by
      cases hcs : l.flatMap f with
      | nil => exact absurd hcs hn
      | cons v r => exact ⟨v, rfl⟩
    have h0 := hcell 0 v0 hv0
    have hspot : a.spot = none := by
      rw [show a.add 0 = a from by simp [Addr.add]] at h0
      unfold World.cell? at h0
      split at h0
      · split at h0
        · cases h0
        · rename_i h; simpa using h
      · cases h0
    obtain ⟨b, o, s⟩ := a
    simp only at hspot
    subst hspot
    refine ⟨b, o, rfl, fun j v hv => ?_⟩
    have := hcell j v hv
    have ha : (⟨b, o, none⟩ : Addr).add j = ⟨b, o + j, none⟩ := by unfold Addr.add; split <;> simp_all
    rwa [ha] at this
theorem o_row {α : Type} (g : α → Value) (Q : α → Prop) {t e : TypeId} {B fuel : Nat} {cs : List Value} {x : DataW H × List MemPlace} (ht : P.underlying t = some (.slice e)) (hc : P.cellsOf e = 1) (hB : P.bytesOf e = B)
    (el : ∀ (n : Nat) (v : Value) (y : DataW H × List MemPlace), DataW.trod enc P w base (fun _ => true) held n e [v] = some y → Sz P e y.1 → ∃ a, v = g a ∧ Q a)
    (h : DataW.trod enc P w base (fun _ => true) held fuel t cs = some x) (hs : Sz P t x.1) :
    ∃ (A : Option Addr) (l : List α) (c : Nat), cs = [.slice A l.length c] ∧ l.length ≤ c ∧ c * B ≤ 140737488351232 ∧ Rd w A (l.map g) ∧ ∀ a ∈ l, Q a := by
  obtain ⟨A, l, c, h1, h2, h3, h4, h5⟩ := o_slice (fun a => [g a]) Q ht hc hB (fun n cs y hl hy hz => by
    match cs, hl with
    | [v], _ =>
      obtain ⟨a, rfl, hq⟩ := el n v y hy hz
      exact ⟨a, rfl, hq⟩) h hs
  rw [flat_one] at h4
  exact ⟨A, l, c, h1, h2, h3, h4, h5⟩
theorem o_u8 {e : TypeId} (he : P.underlying e = some (.int .u8)) (n : Nat) (v : Value) (y : DataW H × List MemPlace) (h : DataW.trod enc P w base (fun _ => true) held n e [v] = some y) : ∃ a : UInt8, v = bv a := by
  obtain ⟨z, hz, _, hwf⟩ := DataW.trod_int he h
  have hr : 0 ≤ z ∧ z < 256 := by simp [Lit.wf, IntKind.min, IntKind.max, IntKind.signed, IntKind.bits] at hwf; omega
  refine ⟨z.toNat.toUInt8, ?_⟩
  simp only [List.cons.injEq, and_true] at hz
  rw [hz, bv, u8_toNat _ (by omega)]
  congr 1; omega
theorem o_u64 {e : TypeId} (he : P.underlying e = some (.int .u64)) (n : Nat) (v : Value) (y : DataW H × List MemPlace) (h : DataW.trod enc P w base (fun _ => true) held n e [v] = some y) : ∃ a : Nat, v = wv a ∧ a < 18446744073709551616 := by
  obtain ⟨z, hz, _, hwf⟩ := DataW.trod_int he h
  have hr : 0 ≤ z ∧ z < 18446744073709551616 := by simp [Lit.wf, IntKind.min, IntKind.max, IntKind.signed, IntKind.bits] at hwf; omega
  refine ⟨z.toNat, ?_, by omega⟩
  simp only [List.cons.injEq, and_true] at hz
  rw [hz, wv]
  congr 1; omega
theorem o_i64 {e : TypeId} (he : P.underlying e = some (.int .i64)) (n : Nat) (v : Value) (y : DataW H × List MemPlace) (h : DataW.trod enc P w base (fun _ => true) held n e [v] = some y) : ∃ a : Int, v = iv a ∧ -9223372036854775808 ≤ a ∧ a ≤ 9223372036854775807 := by
  obtain ⟨z, hz, _, hwf⟩ := DataW.trod_int he h
  have hr : -9223372036854775808 ≤ z ∧ z ≤ 9223372036854775807 := by simp [Lit.wf, IntKind.min, IntKind.max, IntKind.signed, IntKind.bits] at hwf; omega
  simp only [List.cons.injEq, and_true] at hz
  exact ⟨z, hz, hr⟩
theorem o_u64i {e : TypeId} (he : P.underlying e = some (.int .u64)) {n : Nat} {v : Value} {y : DataW H × List MemPlace} (h : DataW.trod enc P w base (fun _ => true) held n e [v] = some y) : ∃ a : Int, v = .int .u64 a ∧ 0 ≤ a ∧ a < 18446744073709551616 := by
  obtain ⟨a, h1, h2⟩ := o_u64 he n v y h
  exact ⟨a, h1, by omega, by omega⟩
theorem o_u8i {e : TypeId} (he : P.underlying e = some (.int .u8)) {n : Nat} {v : Value} {y : DataW H × List MemPlace} (h : DataW.trod enc P w base (fun _ => true) held n e [v] = some y) : ∃ a : Int, v = .int .u8 a ∧ 0 ≤ a ∧ a < 256 := by
  obtain ⟨a, h1⟩ := o_u8 he n v y h
  have := a.toNat_lt
  exact ⟨a.toNat, h1, by omega, by omega⟩
theorem o_bool {e : TypeId} (he : P.underlying e = some .bool) {n : Nat} {v : Value} {y : DataW H × List MemPlace} (h : DataW.trod enc P w base (fun _ => true) held n e [v] = some y) : ∃ a : Bool, v = .bool a := by
  obtain ⟨z, hz, _⟩ := DataW.trod_bool he h
  simp only [List.cons.injEq, and_true] at hz
  exact ⟨z, hz⟩
theorem list4 {cs : Array Value} {a b c d : Value} (hl : cs.toList.length = 4) (h0 : cs.toList[0]? = some a) (h1 : cs.toList[1]? = some b) (h2 : cs.toList[2]? = some c) (h3 : cs.toList[3]? = some d) : cs = #[a, b, c, d] := by
  obtain ⟨l⟩ := cs
  match l, hl with
  | [x0, x1, x2, x3], _ => simp at h0 h1 h2 h3; subst h0 h1 h2 h3; rfl
theorem list6 {cs : Array Value} {a b c d e f : Value} (hl : cs.toList.length = 6) (h0 : cs.toList[0]? = some a) (h1 : cs.toList[1]? = some b) (h2 : cs.toList[2]? = some c) (h3 : cs.toList[3]? = some d) (h4 : cs.toList[4]? = some e) (h5 : cs.toList[5]? = some f) : cs = #[a, b, c, d, e, f] := by
  obtain ⟨l⟩ := cs
  match l, hl with
  | [x0, x1, x2, x3, x4, x5], _ => simp at h0 h1 h2 h3 h4 h5; subst h0 h1 h2 h3 h4 h5; rfl
theorem o_str {e : TypeId} (he : P.underlying e = some .string) (n : Nat) (v : Value) (y : DataW H × List MemPlace) (h : DataW.trod enc P w base (fun _ => true) held n e [v] = some y) (hs : Sz P e y.1) : ∃ a : ByteArray, v = sv a ∧ a.size ≤ 140737488351232 := by
  obtain ⟨s, hz, rfl, _⟩ := DataW.trod_string he h
  simp only [List.cons.injEq, and_true] at hz
  exact ⟨s, hz, sz_str hs⟩
theorem o_bytes {t e : TypeId} {fuel : Nat} {v : Value} {x : DataW H × List MemPlace} (ht : P.underlying t = some (.slice e)) (he : P.underlying e = some (.int .u8)) (hc : P.cellsOf e = 1) (hB : P.bytesOf e = 1)
    (h : DataW.trod enc P w base (fun _ => true) held fuel t [v] = some x) (hs : Sz P t x.1) : ∃ (A : Option Addr) (b : List UInt8) (c : Nat), v = .slice A b.length c ∧ b.length ≤ c ∧ c ≤ 140737488351232 ∧ Rd w A (b.map bv) := by
  obtain ⟨A, l, c, h1, h2, h3, h4, _⟩ := o_row bv (fun _ => True) ht hc hB (fun n v y hy _ => by obtain ⟨a, ha⟩ := o_u8 he n v y hy; exact ⟨a, ha, trivial⟩) h hs
  simp only [List.cons.injEq, and_true] at h1
  exact ⟨A, l, c, h1, h2, by omega, h4⟩
theorem o_words {t e : TypeId} {fuel : Nat} {v : Value} {x : DataW H × List MemPlace} (ht : P.underlying t = some (.slice e)) (he : P.underlying e = some (.int .u64)) (hc : P.cellsOf e = 1) (hB : P.bytesOf e = 8)
    (h : DataW.trod enc P w base (fun _ => true) held fuel t [v] = some x) (hs : Sz P t x.1) : ∃ (A : Option Addr) (b : List Nat) (c : Nat), v = .slice A b.length c ∧ b.length ≤ c ∧ c * 8 ≤ 140737488351232 ∧ Rd w A (b.map wv) ∧ ∀ a ∈ b, a < 18446744073709551616 := by
  obtain ⟨A, l, c, h1, h2, h3, h4, h5⟩ := o_row wv (fun a => a < 18446744073709551616) ht hc hB (fun n v y hy _ => o_u64 he n v y hy) h hs
  simp only [List.cons.injEq, and_true] at h1
  exact ⟨A, l, c, h1, h2, h3, h4, h5⟩
theorem o_ints {t e : TypeId} {fuel : Nat} {v : Value} {x : DataW H × List MemPlace} (ht : P.underlying t = some (.slice e)) (he : P.underlying e = some (.int .i64)) (hc : P.cellsOf e = 1) (hB : P.bytesOf e = 8)
    (h : DataW.trod enc P w base (fun _ => true) held fuel t [v] = some x) (hs : Sz P t x.1) : ∃ (A : Option Addr) (b : List Int) (c : Nat), v = .slice A b.length c ∧ b.length ≤ c ∧ c * 8 ≤ 140737488351232 ∧ Rd w A (b.map iv) ∧ ∀ a ∈ b, -9223372036854775808 ≤ a ∧ a ≤ 9223372036854775807 := by
  obtain ⟨A, l, c, h1, h2, h3, h4, h5⟩ := o_row iv (fun a => -9223372036854775808 ≤ a ∧ a ≤ 9223372036854775807) ht hc hB (fun n v y hy _ => o_i64 he n v y hy) h hs
  simp only [List.cons.injEq, and_true] at h1
  exact ⟨A, l, c, h1, h2, h3, h4, h5⟩
theorem o_texts {t e : TypeId} {fuel : Nat} {v : Value} {x : DataW H × List MemPlace} (ht : P.underlying t = some (.slice e)) (he : P.underlying e = some .string) (hc : P.cellsOf e = 1) (hB : P.bytesOf e = 16)
    (h : DataW.trod enc P w base (fun _ => true) held fuel t [v] = some x) (hs : Sz P t x.1) : ∃ (A : Option Addr) (b : List ByteArray) (c : Nat), v = .slice A b.length c ∧ b.length ≤ c ∧ c * 16 ≤ 140737488351232 ∧ Rd w A (b.map sv) ∧ ∀ a ∈ b, a.size ≤ 140737488351232 := by
  obtain ⟨A, l, c, h1, h2, h3, h4, h5⟩ := o_row sv (fun a => a.size ≤ 140737488351232) ht hc hB (fun n v y hy hz => o_str he n v y hy hz) h hs
  simp only [List.cons.injEq, and_true] at h1
  exact ⟨A, l, c, h1, h2, h3, h4, h5⟩
/-- A struct whose fields are of one cell each. -/
theorem o_struct {t : TypeId} {fs : Array Field} {fuel : Nat} {cs : List Value} {x : DataW H × List MemPlace} (hu : P.underlying t = some (.struct fs)) (hone : oneCellFields P fs = true) (hC : P.cellsOf t = fs.size)
    (h : DataW.trod enc P w base (fun _ => true) held fuel t cs = some x) (hs : Sz P t x.1) :
    cs.length = fs.size ∧ ∃ n, ∀ (j : Nat) (f : Field), fs[j]? = some f → ∃ (v : Value) (y : DataW H × List MemPlace), cs[j]? = some v ∧ DataW.trod enc P w base (fun _ => true) held n f.type [v] = some y ∧ Sz P f.type y.1 := by
  obtain ⟨xs, n, _, rfl, hlen, hxl, hf⟩ := DataW.trod_struct hu h
  refine ⟨hlen.trans hC, n, fun j f hj => ?_⟩
  obtain ⟨ho, hk⟩ := hone_of hone j f hj
  have hjl : j < fs.size := (Array.getElem?_eq_some_iff.1 hj).1
  have hcl : cs.length = fs.size := hlen.trans hC
  have h1 := hf j f hj
  rw [ho, hk] at h1
  have hd : (cs.drop j).take 1 = [cs[j]'(by omega)] := by rw [List.drop_eq_getElem_cons (by omega)]; rfl
  rw [hd] at h1
  have hys : xs[j]? = some (xs[j]'(by omega)) := List.getElem?_eq_getElem (by omega)
  refine ⟨_, _, List.getElem?_eq_getElem (by omega), h1.trans hys, ?_⟩
  exact sz_agg hu hs j hj (by rw [List.getElem?_map, hys]; rfl)
theorem o_struct_v {t : TypeId} {fs : Array Field} {v : Value} {r : Reach} {b0 : Nat} (hu : P.underlying t = some (.struct fs)) (hv : Value.okWide P w r b0 t v) : ∃ cs : Array Value, v = .agg cs ∧ v.cells.toList = cs.toList := by
  obtain ⟨cs, rfl, _⟩ := okWide_struct hu hv
  exact ⟨cs, rfl, rfl⟩
end
end Go.Proofs.Ythphonkiolmkiaa
/- Arguments of layer 14's laws opened: deeds, lists of deeds, numbers, rows of bytes. -/
set_option linter.unusedVariables false
set_option linter.unusedSimpArgs false
namespace Go.Proofs.Ythphonkiolmkiaa
open Go.RowKit Go.ChangeShapes Go.WideShapes Go.Deep
set_option maxRecDepth 100000
theorem Try.bytes_op : Try.prog.cellsOf 5 = 1 ∧ Try.prog.bytesOf 5 = 1 ∧ Try.prog.cellsOf 53 = 5 ∧ Try.prog.bytesOf 53 = 72 ∧ Try.prog.cellsOf 3 = 1 ∧ Try.prog.bytesOf 3 = 8 := ⟨by kernel_rfl, by kernel_rfl, by kernel_rfl, by kernel_rfl, by kernel_rfl, by kernel_rfl⟩
theorem list5 {cs : List Value} {a b c d e : Value} (hl : cs.length = 5) (h0 : cs[0]? = some a) (h1 : cs[1]? = some b) (h2 : cs[2]? = some c) (h3 : cs[3]? = some d) (h4 : cs[4]? = some e) : cs = [a, b, c, d, e] := by
  match cs, hl with
  | [x0, x1, x2, x3, x4], _ => simp at h0 h1 h2 h3 h4; subst h0 h1 h2 h3 h4; rfl
section
variable {H : Type} {enc : TypeId × Value → H} {w : World} {b0 base : Nat} {held : Bool} {v : Value} {d : DataW H} {p : List MemPlace}
theorem o_op {fuel : Nat} {cs : List Value} {y : DataW H × List MemPlace} (hy : DataW.trod enc Try.prog w base (fun _ => true) held fuel 53 cs = some y) (hz : Sz Try.prog 53 y.1) : ∃ o : OpA, cs = opv o ∧ OpOk w o := by
  obtain ⟨hl, n, hf⟩ := o_struct Try.underlying53 (by kernel_rfl) Try.bytes_op.2.2.1 hy hz
  obtain ⟨v0, y0, g0, t0, z0⟩ := hf 0 _ rfl
  obtain ⟨v1, y1, g1, t1, z1⟩ := hf 1 _ rfl
  obtain ⟨v2, y2, g2, t2, z2⟩ := hf 2 _ rfl
  obtain ⟨v3, y3, g3, t3, z3⟩ := hf 3 _ rfl
  obtain ⟨v4, y4, g4, t4, z4⟩ := hf 4 _ rfl
  obtain rfl := list5 hl g0 g1 g2 g3 g4
  obtain ⟨k, rfl⟩ := o_u8 Try.underlying5 _ _ _ t0
  obtain ⟨s, rfl, hs⟩ := o_str Try.underlying9 _ _ _ t1 z1
  obtain ⟨t, rfl, ht⟩ := o_str Try.underlying9 _ _ _ t2 z2
  obtain ⟨m, rfl, hm⟩ := o_i64 Try.underlying3 _ _ _ t3
  obtain ⟨A, b, c, rfl, hbc, hc, hr⟩ := o_bytes Try.underlying22 Try.underlying5 Try.bytes_op.1 Try.bytes_op.2.1 t4 z4
  exact ⟨⟨k.toNat, s, t, m, A, b, c⟩, rfl, k.toNat_lt, hs, ht, hm, ⟨hbc, hc⟩, hr⟩
theorem open_op (hval : Value.okWide Try.prog w .any b0 53 v) (h : DataW.Trod enc Try.prog w base (fun _ => true) held 53 v d p) (hs : Sz Try.prog 53 d) :
    ∃ o : OpA, v = .agg #[.int .u8 (o.call : Int), sE o.name, sE o.to_, .int .i64 o.off, .slice o.A o.b.length o.c] ∧ OpOk w o := by
  obtain ⟨cs, rfl, hcs⟩ := o_struct_v Try.underlying53 hval
  obtain ⟨fuel, ht⟩ := h
  obtain ⟨o, h1, h2⟩ := o_op ht hs
  refine ⟨o, ?_, h2⟩
  rw [hcs] at h1
  congr 1
  rw [← Array.toList_inj, h1]; rfl
theorem open_ops (hval : Value.okWide Try.prog w .any b0 50 v) (h : DataW.Trod enc Try.prog w base (fun _ => true) held 50 v d p) (hs : Sz Try.prog 50 d) :
    ∃ (A : Option Addr) (l : List OpA) (c : Nat), v = .slice A l.length c ∧ l.length ≤ c ∧ c * 72 ≤ 140737488351232 ∧ Rd w A (l.flatMap opv) ∧ ∀ o ∈ l, OpOk w o := by
  obtain ⟨a, l, c, rfl⟩ := okWide_slice Try.underlying50 hval
  obtain ⟨fuel, ht⟩ := h
  obtain ⟨A, l, c, h1, h2, h3, h4, h5⟩ := o_slice opv (fun o => OpOk w o) Try.underlying50 Try.bytes_op.2.2.1 Try.bytes_op.2.2.2.1 (fun n cs y hl hy hz => o_op hy hz) ht hs
  have h1' : [Value.slice a _ _] = [Value.slice A l.length c] := h1
  exact ⟨A, l, c, (List.cons.inj h1').1, h2, h3, h4, h5⟩
theorem open_bytes (hval : Value.okWide Try.prog w .any b0 22 v) (h : DataW.Trod enc Try.prog w base (fun _ => true) held 22 v d p) (hs : Sz Try.prog 22 d) :
    ∃ (A : Option Addr) (b : List UInt8) (c : Nat), v = .slice A b.length c ∧ b.length ≤ c ∧ c ≤ 140737488351232 ∧ Rd w A (b.map bv) := by
  obtain ⟨a, l, c, rfl⟩ := okWide_slice Try.underlying22 hval
  obtain ⟨fuel, ht⟩ := h
  exact o_bytes Try.underlying22 Try.underlying5 Try.bytes_op.1 Try.bytes_op.2.1 ht hs
theorem open_ints (hval : Value.okWide Try.prog w .any b0 24 v) (h : DataW.Trod enc Try.prog w base (fun _ => true) held 24 v d p) (hs : Sz Try.prog 24 d) :
    ∃ (A : Option Addr) (l : List Int) (c : Nat), v = .slice A l.length c ∧ l.length ≤ c ∧ c * 8 ≤ 140737488351232 ∧ Rd w A (l.map iE) ∧ ∀ z ∈ l, -9223372036854775808 ≤ z ∧ z ≤ 9223372036854775807 := by
  obtain ⟨a, l, c, rfl⟩ := okWide_slice Try.underlying24 hval
  obtain ⟨fuel, ht⟩ := h
  exact o_ints Try.underlying24 Try.underlying3 Try.bytes_op.2.2.2.2.1 Try.bytes_op.2.2.2.2.2 ht hs
theorem open_int (h : DataW.Trod enc Try.prog w base (fun _ => true) held 3 v d p) (hv : v.cells.toList = [v]) : ∃ z : Int, v = .int .i64 z ∧ -9223372036854775808 ≤ z ∧ z ≤ 9223372036854775807 := by
  obtain ⟨fuel, ht⟩ := h
  rw [hv] at ht
  exact o_i64 Try.underlying3 _ _ _ ht
end
end Go.Proofs.Ythphonkiolmkiaa
